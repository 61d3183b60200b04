/- The layer of abstract values: what a temporary holds, said once; every rule of it is proved from the model. Conditions: none. -/
import Derived.WalkKit
import Derived.TacticsIn
import Derived.OrdersIn
import Derived.RangeFuncLeaves
import Derived.Deep.AppendLies
import Derived.Below
import Derived.LoopNIn
import Derived.IntWalk
import Derived.Laws.BytesArg
import Derived.RangeFuncIn
set_option linter.unusedSimpArgs false
set_option linter.unusedVariables false
set_option linter.unnecessarySimpa false
namespace Go
open Go.RowKit
theorem cM:type_of% @cond_false:=@cond_false
theorem cN:type_of% @cond_true:=@cond_true
theorem cO:type_of% @List.getElem?_eq_getElem:=@List.getElem?_eq_getElem
theorem cP:type_of% @List.eq_nil_of_length_eq_zero:=@List.eq_nil_of_length_eq_zero
theorem cQ:type_of% @Array.getElem?_eq_some_iff:=@Array.getElem?_eq_some_iff
theorem cS:type_of% @Sem.run_bind:=@Sem.run_bind
theorem cU:type_of% @List.length_append:=@List.length_append
theorem cV:type_of% @if_false:=@if_false
theorem cW:type_of% @Result.andThen_ok:=@Result.andThen_ok
theorem cX:type_of% @List.getElem?_eq_some_iff:=@List.getElem?_eq_some_iff
theorem cY:type_of% @List.drop_eq_getElem_cons:=@List.drop_eq_getElem_cons
theorem cZ:type_of% @decide_eq_true_eq:=@decide_eq_true_eq
theorem c8:type_of% @List.append_assoc:=@List.append_assoc
theorem c9:type_of% @decide_eq_false_iff_not:=@decide_eq_false_iff_not
theorem dA:type_of% @Nat.le_refl:=@Nat.le_refl
theorem dB:type_of% @decide_true:=@decide_true
theorem dC:type_of% @List.drop_of_length_le:=@List.drop_of_length_le
theorem dD:type_of% @Bool.not_true:=@Bool.not_true
theorem dE:type_of% @Bool.and_eq_true:=@Bool.and_eq_true
theorem dF:type_of% @Array.getD_eq_getD_getElem?:=@Array.getD_eq_getD_getElem?
theorem dG:type_of% @if_true:=@if_true
theorem dH:type_of% @decide_false:=@decide_false
theorem dI:type_of% @if_pos:=@if_pos
theorem dJ:type_of% @run_underlying:=@run_underlying
theorem dK:type_of% @if_neg:=@if_neg
theorem dL:type_of% @List.mem_cons:=@List.mem_cons
theorem dM:type_of% @Bool.true_and:=@Bool.true_and
theorem dN:type_of% @Bool.false_eq_true:=@Bool.false_eq_true
theorem dO:type_of% @List.length_cons:=@List.length_cons
theorem dP:type_of% @List.nil_append:=@List.nil_append
theorem dQ:type_of% @Bool.not_false:=@Bool.not_false
theorem dR:type_of% @Bool.false_and:=@Bool.false_and
theorem dS:type_of% @List.all_eq_true:=@List.all_eq_true
theorem dT:type_of% @Nat.mul_le_mul_right:=@Nat.mul_le_mul_right
theorem dU:type_of% @Array.getElem?_setIfInBounds_ne:=@Array.getElem?_setIfInBounds_ne
theorem dV:type_of% @Sem.run_pure:=@Sem.run_pure
theorem dW:type_of% @List.getElem?_append_right:=@List.getElem?_append_right
theorem dX:type_of% @List.getElem?_map:=@List.getElem?_map
theorem dY:type_of% @List.getElem?_append_left:=@List.getElem?_append_left
theorem dZ:type_of% @List.length_take:=@List.length_take
theorem d5:type_of% @List.getElem?_take:=@List.getElem?_take
theorem d6:type_of% @List.length_nil:=@List.length_nil
theorem d7:type_of% @List.drop_zero:=@List.drop_zero
theorem d8:type_of% @Nat.le_trans:=@Nat.le_trans
theorem d9:type_of% @List.flatMap_cons:=@List.flatMap_cons
theorem et:type_of% @List.take_append_drop:=@List.take_append_drop
theorem ez:type_of% @List.map_cons:=@List.map_cons
theorem eA:type_of% @List.append_nil:=@List.append_nil
theorem eC:type_of% @List.mem_of_mem_take:=@List.mem_of_mem_take
theorem eD:type_of% @Bool.and_eq_false_iff:=@Bool.and_eq_false_iff
theorem eE:type_of% @Nat.zero_add:=@Nat.zero_add
theorem eF:type_of% @List.getD_eq_getElem?_getD:=@List.getD_eq_getElem?_getD
theorem eG:type_of% @Nat.add_mul:=@Nat.add_mul
theorem eH:type_of% @List.length_drop:=@List.length_drop
theorem eJ:type_of% @List.getElem_mem:=@List.getElem_mem
theorem eK:type_of% @List.mem_map:=@List.mem_map
theorem eM:type_of% @Array.length_toList:=@Array.length_toList
theorem eN:type_of% @List.mem_of_getElem?:=@List.mem_of_getElem?
theorem eO:type_of% @List.map_toArray:=@List.map_toArray
theorem eP:type_of% @List.mem_of_mem_drop:=@List.mem_of_mem_drop
theorem eQ:type_of% @List.mem_append:=@List.mem_append
theorem eT:type_of% @List.getElem?_drop:=@List.getElem?_drop
theorem eU:type_of% @Nat.lt_of_lt_of_le:=@Nat.lt_of_lt_of_le
theorem eV:type_of% @false_iff:=@false_iff
theorem eW:type_of% @Sum.elim_inl:=@Sum.elim_inl
theorem eX:type_of% @List.getElem?_toArray:=@List.getElem?_toArray
theorem eY:type_of% @Bool.false_or:=@Bool.false_or
theorem eZ:type_of% @Option.map_some:=@Option.map_some
theorem e6:type_of% @List.mem_filter:=@List.mem_filter
theorem e7:type_of% @List.length_map:=@List.length_map
theorem e9:type_of% @List.length_pos_iff:=@List.length_pos_iff
theorem fb:type_of% @cell_of_row:=@cell_of_row
theorem fc:type_of% @Option.map_eq_some_iff:=@Option.map_eq_some_iff
theorem fA:type_of% @List.getElem_of_mem:=@List.getElem_of_mem
theorem fB:type_of% @Bool.or_eq_true:=@Bool.or_eq_true
theorem fC:type_of% @Bool.or_eq_false_iff:=@Bool.or_eq_false_iff
theorem fD:type_of% @Option.some.injEq:=@Option.some.injEq
theorem fE:type_of% @List.pairwise_cons:=@List.pairwise_cons
theorem fF:type_of% @Bool.and_self:=@Bool.and_self
theorem fG:type_of% @List.getElem?_eq_none:=@List.getElem?_eq_none
theorem fH:type_of% @List.mem_range:=@List.mem_range
theorem fI:type_of% @List.map_nil:=@List.map_nil
theorem fJ:type_of% @Nat.add_zero:=@Nat.add_zero
theorem fK:type_of% @Nat.lt_or_ge:=@Nat.lt_or_ge
theorem fN:type_of% @List.cons_append:=@List.cons_append
theorem fO:type_of% @Array.getElem?_eq_getElem:=@Array.getElem?_eq_getElem
theorem fP:type_of% @List.mem_of_find?_eq_some:=@List.mem_of_find?_eq_some
theorem fQ:type_of% @List.reverse_reverse:=@List.reverse_reverse
theorem fR:type_of% @Bool.and_false:=@Bool.and_false
theorem fS:type_of% @Bool.not_eq_true':=@Bool.not_eq_true'
theorem fT:type_of% @List.any_eq_true:=@List.any_eq_true
theorem fU:type_of% @List.ext_getElem:=@List.ext_getElem
theorem fV:type_of% @List.ext_getElem?:=@List.ext_getElem?
theorem fW:type_of% @List.size_toArray:=@List.size_toArray
theorem fX:type_of% @Nat.add_assoc:=@Nat.add_assoc
theorem fY:type_of% @Int.le_refl:=@Int.le_refl
theorem gv:type_of% @Int.tmod_eq_emod_of_nonneg:=@Int.tmod_eq_emod_of_nonneg
theorem gw:type_of% @List.map_congr_left:=@List.map_congr_left
theorem gx:type_of% @List.mem_or_eq_of_mem_set:=@List.mem_or_eq_of_mem_set
theorem gy:type_of% @Option.map_none:=@Option.map_none
theorem gz:type_of% @decide_eq_false:=@decide_eq_false
theorem gA:type_of% @List.set_eq_take_append_cons_drop:=@List.set_eq_take_append_cons_drop
theorem gB:type_of% @Nat.zero_mul:=@Nat.zero_mul
theorem gC:type_of% @List.take_of_length_le:=@List.take_of_length_le
theorem gD:type_of% @Option.getD_some:=@Option.getD_some
theorem gE:type_of% @List.contains_iff_mem:=@List.contains_iff_mem
theorem gG:type_of% @List.getElem_append_right:=@List.getElem_append_right
theorem gH:type_of% @Nat.zero_le:=@Nat.zero_le
theorem gI:type_of% @Nat.mul_one:=@Nat.mul_one
theorem gJ:type_of% @callsIn_wide:=@callsIn_wide
theorem gK:type_of% @List.eq_nil_iff_forall_not_mem:=@List.eq_nil_iff_forall_not_mem
theorem gL:type_of% @Bool.eq_iff_iff:=@Bool.eq_iff_iff
theorem gN:type_of% @List.range_eq_range':=@List.range_eq_range'
theorem gO:type_of% @Option.isSome_iff_exists:=@Option.isSome_iff_exists
theorem gP:type_of% @List.any_eq_false:=@List.any_eq_false
theorem gQ:type_of% @List.flatten_cons:=@List.flatten_cons
theorem gR:type_of% @Array.toList_modify:=@Array.toList_modify
theorem gS:type_of% @Nat.mul_le_mul_left:=@Nat.mul_le_mul_left
theorem gU:type_of% @List.length_reverse:=@List.length_reverse
theorem gV:type_of% @heap_alloc_new:=@heap_alloc_new
theorem gW:type_of% @List.take_left:=@List.take_left
theorem gX:type_of% @List.drop_length:=@List.drop_length
theorem gY:type_of% @Bool.not_eq_true:=@Bool.not_eq_true
theorem gZ:type_of% @List.flatMap_nil:=@List.flatMap_nil
theorem g6:type_of% @decide_eq_true:=@decide_eq_true
theorem g7:type_of% @wpIn_mono:=@wpIn_mono
theorem g8:type_of% @List.mem_singleton:=@List.mem_singleton
theorem g9:type_of% @List.map_append:=@List.map_append
theorem hF:type_of% @Nat.min_eq_left:=@Nat.min_eq_left
theorem hJ:type_of% @List.length_singleton:=@List.length_singleton
theorem hO:type_of% @Nat.le_of_ble_eq_true:=@Nat.le_of_ble_eq_true
theorem hP:type_of% @Option.some.inj:=@Option.some.inj
theorem hQ:type_of% @List.mem_of_mem_erase:=@List.mem_of_mem_erase
theorem hU:type_of% @List.length_filter_le:=@List.length_filter_le
theorem hY:type_of% @List.head?_cons:=@List.head?_cons
theorem hZ:type_of% @Int.tdiv_eq_ediv_of_nonneg:=@Int.tdiv_eq_ediv_of_nonneg
theorem ia:type_of% @World.ownsRow_nil:=@World.ownsRow_nil
theorem ib:type_of% @Nat.beq_eq:=@Nat.beq_eq
theorem ic:type_of% @List.mem_cons_of_mem:=@List.mem_cons_of_mem
theorem ie:type_of% @List.getElem?_eq_none_iff:=@List.getElem?_eq_none_iff
theorem ig:type_of% @List.pairwise_iff_getElem:=@List.pairwise_iff_getElem
theorem ii:type_of% @List.mapM_cons:=@List.mapM_cons
theorem ij:type_of% @List.filter_cons:=@List.filter_cons
theorem im:type_of% @Bool.true_or:=@Bool.true_or
theorem io:type_of% @List.filter_cons_of_pos:=@List.filter_cons_of_pos
theorem iq:type_of% @List.all_cons:=@List.all_cons
theorem ir:type_of% @List.any_cons:=@List.any_cons
theorem iu:type_of% @World.grownBy.refl:=@World.grownBy.refl
theorem iv:type_of% @List.foldl_cons:=@List.foldl_cons
theorem iw:type_of% @List.find?_cons:=@List.find?_cons
theorem iy:type_of% @setRow_heap:=@setRow_heap
theorem iz:type_of% @and_self:=@and_self
theorem iA:type_of% @Array.toList_push:=@Array.toList_push
theorem iB:type_of% @List.getElem?_set:=@List.getElem?_set
theorem iC:type_of% @List.take_zero:=@List.take_zero
theorem iD:type_of% @List.singleton_append:=@List.singleton_append
theorem iE:type_of% @Nat.eq_of_beq_eq_true:=@Nat.eq_of_beq_eq_true
theorem iF:type_of% @Array.getElem?_mapIdx:=@Array.getElem?_mapIdx
theorem iG:type_of% @List.pairwise_append:=@List.pairwise_append
theorem iH:type_of% @List.range'_succ:=@List.range'_succ
theorem iI:type_of% @Prod.mk.injEq:=@Prod.mk.injEq
theorem iJ:type_of% @List.sum_cons:=@List.sum_cons
theorem iK:type_of% @List.cons.injEq:=@List.cons.injEq
theorem iL:type_of% @beq_iff_eq:=@beq_iff_eq
end Go
namespace Go.AV
open Go.RowKit
inductive DV where
 | v (u:Value)
 | sl (size:Nat) (cells:List DV)
 | agg (cells:List DV)
 | pt (cells:List DV)
 | fn (f:FuncId) (caps:List DV)
 | bm (f:FuncId) (fs:List DV)
 | mp (ks:List Value) (vs:List DV)
structure Born (ents:Array MapEntry) (clock:Nat):Prop where
 nd:(ents.toList.map (·.born)).Nodup
 lt:∀x∈ents.toList,x.born<clock
theorem Born.nil:Born #[] 0:=⟨List.nodup_nil,λx h=>by simp at h⟩
theorem Born.push {ents:Array MapEntry} {c:Nat} {k v:Value} (h:Born ents c):Born (ents.push {key:=k,val:=v,born:=c}) (c+1):=by
 refine⟨?_,λx hx=>?_⟩;simp only[iA,g9,ez,fI];refine List.nodup_append.2 ⟨h.nd,by simp,λa D b hb e=>?_⟩;simp at hb;subst hb;subst e;obtain⟨x,hx,e⟩:=eK.1 D;have:=h.lt x hx;omega;rw[iA,eQ] at hx;rcases hx with hx | hx
 have:=h.lt x hx;omega;simp at hx;subst hx;exact Nat.lt_succ_self _
theorem Born.modify {ents:Array MapEntry} {c i:Nat} {f:MapEntry->MapEntry} (h:Born ents c) (D:∀y,(f y).born=y.born):Born (ents.modify i f) c:=by
 have e:(ents.modify i f).toList.map (·.born)=ents.toList.map (·.born):=by
  rw[gR];apply fV;intro j;simp only[dX,List.getElem?_modify];split;cases ents.toList[j]? <;> simp[D];cases ents.toList[j]? <;> simp
 refine⟨by rw[e];exact h.nd,λx G=>?_⟩
 have:x.born∈(ents.modify i f).toList.map (·.born):=eK.2 ⟨x,G,rfl⟩;rw[e] at this;obtain⟨y,H,k⟩:=eK.1 this;rw[<-k];exact h.lt y H
abbrev Im:=Nat->Nat->Prop
inductive Rep (w:World) (I:Im):Value->DV->Prop
  | v (u:Value):Rep w I u (.v u)
  | nil (A:Option Addr) (c size:Nat):Rep w I (.slice A 0 c) (.sl size [])
  | sl (b off n c size:Nat) (xs:List Value) (cells:List DV) (hn:0<n) (hcap:n<=c) (hl:cells.length=n*size) (hx:xs.length=cells.length)
      (hc:∀(j:Nat) x,xs[j]? =some x->w.cell? ⟨b,off+j,none⟩=some x/\I b (off+j)) (h1:∀x∈xs,x.oneCell'=true)
      (hr:∀(j:Nat) x d,xs[j]? =some x->cells[j]? =some d->Rep w I x d):Rep w I (.slice (some ⟨b,off,none⟩) n c) (.sl size cells)
  | agg (xs:List Value) (cells:List DV) (hx:xs.length=cells.length) (h1:∀x∈xs,x.oneCell'=true)
      (hr:∀(j:Nat) x d,xs[j]? =some x->cells[j]? =some d->Rep w I x d):Rep w I (.agg xs.toArray) (.agg cells)
  | pt (b off:Nat) (xs:List Value) (cells:List DV) (hx:xs.length=cells.length)
      (hc:∀(j:Nat) x,xs[j]? =some x->w.cell? ⟨b,off+j,none⟩=some x/\I b (off+j)) (h1:∀x∈xs,x.oneCell'=true)
      (hr:∀(j:Nat) x d,xs[j]? =some x->cells[j]? =some d->Rep w I x d):Rep w I (.pointer (some ⟨b,off,none⟩)) (.pt cells)
  | fn (f:FuncId) (xs:List Value) (caps:List DV) (hx:xs.length=caps.length)
      (hr:∀(j:Nat) x d,xs[j]? =some x->caps[j]? =some d->Rep w I x d):Rep w I (.func (.func f) #[] xs.toArray) (.fn f caps)
  | bm (f:FuncId) (xs:List Value) (fs:List DV) (hx:xs.length=fs.length)
      (hr:∀(j:Nat) x d,xs[j]? =some x->fs[j]? =some d->Rep w I x d):Rep w I (.func (.func f) xs.toArray #[]) (.bm f fs)
  | mp (b clock:Nat) (ents:Array MapEntry) (vs:List DV) (hh:w.heap[b]? =some (.map ents clock)) (hI:I b 0) (hx:ents.size=vs.length)
      (hr:∀(j:Nat) x d,ents.toList[j]? =some x->vs[j]? =some d->Rep w I x.val d) (hN:Born ents clock):Rep w I (.map (some b)) (.mp (ents.toList.map (·.key)) vs)
structure KeepB (w w':World) (b j:Nat):Prop where
 cell:w'.cell? ⟨b,j,none⟩=w.cell? ⟨b,j,none⟩
 map:∀ents c,w.heap[b]? =some (.map ents c)->w'.heap[b]? =some (.map ents c)
theorem KeepB.refl {w:World} {b j:Nat}:KeepB w w b j:=⟨rfl,λ_ _ h=>h⟩
theorem KeepB.trans {w w1 w2:World} {b j:Nat} (h:KeepB w1 w2 b j) (k:KeepB w w1 b j):KeepB w w2 b j:=⟨h.cell.trans k.cell,λe c q=>h.map e c (k.map e c q)⟩
theorem KeepB.of {w w':World} {b j:Nat} (h:w'.heap[b]? =w.heap[b]?):KeepB w w' b j:=⟨World.cell?_of_block (a:=⟨b,j,none⟩) h,λ_ _ q=>h.trans q⟩
theorem KeepB.ofCell {w w':World} {b j:Nat} {arr:Array Value} {e:Nat} {k:Nat×Nat} (hb:w.heap[b]? =some (.cells arr e k)) (h:w'.cell? ⟨b,j,none⟩=w.cell? ⟨b,j,none⟩):KeepB w w' b j:=⟨h,λ_ _ q=>by rw[hb] at q;cases q⟩
def Same (I:Im) (w w':World):Prop:= ∀b j,I b j->KeepB w w' b j
theorem Rep.mono {w w':World} {I I':Im} {v:Value} {d:DV} (h:Rep w I v d) (hs:Same I w w') (hI:∀b j,I b j->I' b j):Rep w' I' v d:=by
 induction h with
 | v u=>exact .v u
 | nil A c size=>exact .nil A c size
 | sl b off n c size xs cells hn Y hl k H T Z D=>
  exact .sl b off n c size xs cells hn Y hl k (λj x K=>⟨(hs _ _ (H j x K).2).cell.trans (H j x K).1,hI _ _ (H j x K).2⟩) T D
 | agg xs cells k T Z D=>exact .agg xs cells k T D
 | pt b off xs cells k H T Z D=>
  exact .pt b off xs cells k (λj x K=>⟨(hs _ _ (H j x K).2).cell.trans (H j x K).1,hI _ _ (H j x K).2⟩) T D
 | fn f xs O k Z D=>exact .fn f xs O k D
 | bm f xs fs k Z D=>exact .bm f xs fs k D
 | mp b G ents vs hh hb k Z hN D=>exact .mp b G ents vs ((hs _ _ hb).map _ _ hh) (hI _ _ hb) k D hN
def Pw {h k:Type} (R: h->k->Prop) (xs:List h) (ys:List k):Prop:=
 xs.length=ys.length/\∀(j:Nat) x y,xs[j]? =some x->ys[j]? =some y->R x y
section
variable {α β:Type} {R R': α->β->Prop} {xs xs':List α} {ys ys':List β}
theorem Pw.imp (h:Pw R xs ys) (D:∀x y,R x y->R' x y):Pw R' xs ys:=⟨h.1,λj x d G k=>D _ _ (h.2 j x d G k)⟩
theorem Pw.nil:Pw R [] []:=⟨rfl,λj x d h=>by simp at h⟩
theorem Pw.cons {x: α} {y: β} (h:R x y) (G:Pw R xs ys):Pw R (x::xs) (y::ys):=by
 refine⟨by simp[G.1],λj y e D k=>?_⟩;cases j with
 | zero=>simp at D k;subst D;subst k;exact h
 | succ j=>simp at D k;exact G.2 j y e D k
theorem Pw.append (h:Pw R xs ys) (k:Pw R xs' ys'):Pw R (xs++xs') (ys++ys'):=by
 refine⟨by simp[h.1,k.1],λj x d G D=>?_⟩;by_cases H:j<xs.length;rw[dY H] at G;rw[dY (h.1▸H)] at D;exact h.2 j x d G D;rw[dW (by omega)] at G;rw[dW (by rw[<-h.1];omega)] at D
 rw[<-h.1] at D;exact k.2 _ x d G D
theorem Pw.take (h:Pw R xs ys) (n:Nat):Pw R (xs.take n) (ys.take n):=by refine⟨by simp[h.1],λj x y k G=>?_⟩;rw[d5] at k G;split at k;rename_i D;rw[dI D] at G;exact h.2 j x y k G;cases k
theorem Pw.drop (h:Pw R xs ys) (n:Nat):Pw R (xs.drop n) (ys.drop n):=by refine⟨by simp[h.1],λj x y k D=>?_⟩;rw[eT] at k D;exact h.2 _ x y k D
theorem Pw.set (h:Pw R xs ys) {x: α} {y: β} (H:R x y) (n:Nat):Pw R (xs.set n x) (ys.set n y):=by refine⟨by simp[h.1],λj u v k D=>?_⟩;rw[iB] at k D;by_cases e:n=j;subst e;by_cases G:n<xs.length;simp[G] at k;rw[h.1] at G;simp[G] at D;subst k;subst D;exact H;simp[G] at k;simp[e] at k D;exact h.2 j u v k D
end
abbrev Reps (w:World) (I:Im) (xs:List Value) (ds:List DV):Prop:=Pw (Rep w I) xs ds
theorem Reps.mono {w w':World} {I k:Im} {xs:List Value} {ds:List DV} (h:Reps w I xs ds) (H:Same I w w') (D:∀b j,I b j->k b j):Reps w' k xs ds:=
 h.imp λ_ _ G=>G.mono H D
inductive Cap where
 | top
 | d (x:DV)
 | ptr (id off:Nat)
 | row (id:Nat)
inductive AV where
 | top
 | d (x:DV)
 | row (id:Nat)
 | ptr (id off:Nat)
 | ip (cells:List DV) (off:Nat)
 | tup (ds:List DV)
 | cond (g:Bool) (x:AV)
 | gh (k:Nat)
 | rs (id off n:Nat)
 | clo (f:FuncId) (caps:List Cap)
 | tupc (xs:List Cap)
 | wp (id off:Nat)
 | ws (id off n:Nat) (tight:Bool)
 | aggc (xs:List Cap)
inductive Blk where
 | none
 | row (e size:Nat) (sh:Bool) (cells:List DV)
 | box (e:Nat) (cells:List AV)
 | map (es:List (Value×DV))
 | it (es:List (Value×DV)) (q:List Nat)
 | win (e size k:Nat) (cells:List DV)
structure AState where
 tmps:List (Nat×AV)
 blks:List (Nat×Blk)
def look {D:Type} (h: D):List (Nat×D)->Nat->D
 | [],_=>h
 | (i,x)::r,k=>if Nat.beq i k then x else look h r k
theorem kK {G:Type} (D: G) (i:Nat) (x: G) (r:List (Nat×G)) (k:Nat):look D ((i,x)::r) k=if i=k then x else look D r k:=by simp only[look];by_cases h:i=k<;>simp[h,ib]
def AState.get (S:AState) (t:Nat):AV:=look .top S.tmps t
def AState.blk (S:AState) (id:Nat):Blk:=look .none S.blks id
def AState.put (S:AState) (t:Nat) (x:AV):AState:={S with tmps:=(t,x)::S.tmps}
def AState.setBlk (S:AState) (id:Nat) (b:Blk):AState:={S with blks:=(id,b)::S.blks}
theorem uJ (S:AState) (t u:Nat) (x:AV):(S.put t x).get u=if t=u then x else S.get u:=kK _ _ _ _ _
theorem yJO (S:AState) (t u:Nat) (x:AV):(S.put t x).blk u=S.blk u:=rfl
theorem yO (S:AState) (t u:Nat) (x:Blk):(S.setBlk t x).blk u=if t=u then x else S.blk u:=kK _ _ _ _ _
theorem zVA (S:AState) (t u:Nat) (x:Blk):(S.setBlk t x).get u=S.get u:=rfl
def GT:Nat:=1000000
def AState.ghost (S:AState):Nat:=match S.get GT with
 | .gh k=>k
 | _=>0
def isData:Obj->Bool
 | .cells _ _ _=>true
 | .map _ _=>true
 | .mapIter _ _ _ _=>true
 | _=>false
structure Turned (l:Nat) (w w':World):Prop where
 os:w'.os=w.os
 tape:w'.tape=w.tape
 output:w'.output=w.output
 size:w'.heap.size=w.heap.size
 blk:∀k,k≠l->w'.heap[k]? =w.heap[k]?
 no:∀o,w.heap[l]? =some o->isData o=false
 no':∀o,w'.heap[l]? =some o->isData o=false
structure Chg (w w':World) (O:Nat->Prop):Prop where
 os:w'.os=w.os
 tape:w'.tape=w.tape
 output:w'.output=w.output
 size:w.heap.size<=w'.heap.size
 block:∀k,k<w.heap.size->¬O k->w'.heap[k]? =w.heap[k]?
theorem Chg.of {w w':World} {row:Option Nat} (h:w.grownBy w' row):Chg w w' (λb=>row=some b):=
 ⟨h.os,h.tape,h.output,h.size,λk D G=>h.block k D (λe=>G e.symm)⟩
def GlI (h:Nat->Option (List Value)) (w:World) (I:Im):Prop:= ∀g zs,h g=some zs->∀j,w.cell? ⟨g,j,none⟩=zs[j]?/\I g j
theorem GlI.sub {k:Nat->Option (List Value)} {w:World} {I D:Im} (h:GlI k w I) (H:∀b j,I b j->D b j):GlI k w D:=λg zs G j=>⟨(h g zs G j).1,H _ _ (h g zs G j).2⟩
theorem GlI.none {w:World} {I:Im}:GlI (λ_=>none) w I:=λ_ _ h=>by cases h
structure Env where
 B:Nat
 I0:Im
 n:Nat
 fr:Nat->(Nat->Prop)->World->Prop
 wrB:Bool
 nle:n<=1000000
 mine:Nat->Prop
 mineB:∀b,B<=b->mine b
 nm:Nat->Option Value
 size:∀k C w,fr k C w->B<=w.heap.size
 csize:∀k C w,fr k C w->∀b,C b->b<w.heap.size
 grow:∀k C w w',fr k C w->Below w.heap.size w w'->fr k C w'
 wr:wrB=true->∀k C w w' O,fr k C w->Chg w w' O->(∀b,O b->mine b/\¬C b/\∃o,w.heap[b]? =some o/\isData o=true)->Same I0 w w'->fr k C w'
 turn:wrB=true->∀k C w w' l,fr k C w->B<=l->Turned l w w'->Same I0 w w'->fr k C w'
 gdt:Nat->Option (List Value)
 gl:∀k C w,fr k C w->GlI gdt w I0
def blockOf:Value->Option Nat
 | .slice (some a) _ _=>some a.block
 | .pointer (some a)=>some a.block
 | .map (some b)=>some b
 | _=>none
section
variable (w:World) (I:Im) (ρ:Nat->Value)
def HoldsC:Value->Cap->Prop
 | _,.top=>True
 | v,.d x=>Rep w I v x
 | v,.row id=>v= ρ id
 | v,.ptr id off=> ∃b,blockOf (ρ id)=some b/\v= .pointer (some ⟨b,off,none⟩)
def Holds:Value->AV->Prop
 | _,.top=>True
 | v,.d x=>Rep w I v x
 | v,.row id=>v= ρ id
 | v,.ptr id off=> ∃b,blockOf (ρ id)=some b/\v= .pointer (some ⟨b,off,none⟩)
 | v,.ip cells k=> ∃b off xs,v= .pointer (some ⟨b,off+k,none⟩)/\Reps w I xs cells/\(∀x∈xs,x.oneCell'=true)/\(∀(j:Nat) x,xs[j]? =some x->w.cell? ⟨b,off+j,none⟩=some x/\I b (off+j))
 | v,.tup ds=> ∃xs,v= .tuple xs.toArray/\Reps w I xs ds
 | v,.cond g x=>(g=true->Holds v x)/\(g=false->v=undef)
 | _,.gh _=>True
 | v,.rs id off n=> ∃A c,v= .slice A n c/\n<=c/\(0<n->∃b,blockOf (ρ id)=some b/\A=some ⟨b,off,none⟩)
 | v,.clo f h=> ∃xs,v= .func (.func f) #[] xs.toArray/\Pw (HoldsC w I ρ) xs h
 | v,.tupc cs=> ∃xs,v= .tuple xs.toArray/\Pw (HoldsC w I ρ) xs cs
 | v,.aggc cs=> ∃xs,v= .agg xs.toArray/\Pw (HoldsC w I ρ) xs cs/\∀x∈xs,x.oneCell'=true
 | v,.wp id off=> ∃b o n c,ρ id= .slice (some ⟨b,o,none⟩) n c/\v= .pointer (some ⟨b,o+off,none⟩)
 | v,.ws id off n tt=> ∃A c,v= .slice A n c/\n<=c/\(tt=true->c=n)/\(0<n->∃b o n0 c0,ρ id= .slice (some ⟨b,o,none⟩) n0 c0/\A=some ⟨b,o+off,none⟩)
def BlkOk (M:Nat->Prop) (id:Nat):Blk->Prop
  | .none=>True
  | .row e size H cells=>(0<size/\∀g,(ρ id).ownBlock=some g->M g)/\∃n xs,cells.length=n*size/\w.ownsRow 0 e size (ρ id) n xs/\(∀x∈xs,x.oneCell'=true)/\Reps w I xs cells/\
      (∀g j,(ρ id).ownBlock=some g->I g j->H=true/\j<cells.length)
  | .box e cells=> ∃b arr,ρ id= .pointer (some ⟨b,0,none⟩)/\M b/\w.heap[b]? =some (.cells arr e (0,0))/\(∀x∈arr.toList,x.oneCell'=true)/\
      Pw (Holds w I ρ) arr.toList cells/\(∀j,¬I b j)
  | .map es=> ∃b ents h,ρ id= .map (some b)/\M b/\w.heap[b]? =some (.map ents h)/\Pw (λ(x:MapEntry) (y:Value×DV)=>x.key=y.1/\Rep w I x.val y.2) ents.toList es/\(∀j,¬I b j)/\Born ents h
  | .it es q=> ∃b G ents h D,ρ id= .pointer (some ⟨b,0,none⟩)/\M b/\w.heap[b]? =some (.mapIter (some G) h D h)/\(∀j,¬I b j)/\w.heap[G]? =some (.map ents h)/\I G 0/\
      Pw (λ(x:MapEntry) (y:Value×DV)=>x.key=y.1/\Rep w I x.val y.2) ents.toList es/\Born ents h/\D.toList.map some=q.map λi=>(ents[i]?).map (·.born)
  | .win e size k cells=> ∃A n c xs,ρ id= .slice A n c/\n<=c/\0<size/\cells.length=n*size/\Reps w I xs cells/\(∀x∈xs,x.oneCell'=true)/\
      ((A=none/\n=0)\/∃b off arr,A=some ⟨b,off,none⟩/\M b/\w.heap[b]? =some (.cells arr e (0,0))/\off+n*size<=arr.size/\(∀(j:Nat) x,xs[j]? =some x->arr[off+j]? =some x)/\(∀j,off<=j->j<off+n*size->I b j->j<off+k*size))
end
structure DefOk (B:Nat) (wrB:Bool) (C:Nat->Prop) (w:World) (ds:List Deferred):Prop where
 each:∀d∈ds,∃r,d.target= .collected r/\B<=r/\¬C r/\w.heap[r]? =some (.deferred (some []))
 dist:ds.Pairwise λd e=> ∀r,d.target= .collected r->e.target≠ .collected r
 wr:ds≠[]->wrB=true
theorem DefOk.nil {B:Nat} {k:Bool} {C:Nat->Prop} {w:World}:DefOk B k C w []:=⟨by simp,.nil,λh=>absurd rfl h⟩
theorem DefOk.keep {B:Nat} {k:Bool} {C:Nat->Prop} {w w':World} {ds:List Deferred} (h:DefOk B k C w ds) (T:∀r:Nat,w.heap[r]? =some (Obj.deferred (some []))->w'.heap[r]? =some (Obj.deferred (some []))):DefOk B k C w' ds:=
 ⟨λd O=>let ⟨r,G,H,D,K⟩:=h.each d O;⟨r,G,H,D,T r K⟩,h.dist,h.wr⟩
structure SatAt (E:Env) (S:AState) (a:Act) (w:World) (I:Im) (ρ:Nat->Value) (C:Nat->Prop):Prop where
 tmps:∀t,Holds w I ρ (a.tmps.getD t undef) (S.get t)
 blks:∀id,BlkOk w I ρ E.mine id (S.blk id)
 dist:∀id id' b,id≠id'->S.blk id≠ .none->S.blk id'≠ .none->blockOf (ρ id)=some b->blockOf (ρ id')≠some b
 frame:E.fr S.ghost C w
 sub:∀b j,E.I0 b j->I b j
 old:∀b j,I b j->b<w.heap.size/\(E.I0 b j\/E.mine b)
 size:a.tmps.size=E.n
 defers:DefOk E.B E.wrB C w a.defers
 cI:∀b j,I b j->¬C b
 cB:∀id b,S.blk id≠ .none->blockOf (ρ id)=some b->¬C b
 nm:∀id v,E.nm id=some v->S.blk id≠ .none->ρ id=v
def Sat (E:Env) (S:AState) (a:Act) (w:World):Prop:= ∃I ρ C,SatAt E S a w I ρ C
theorem SatAt.gl {E:Env} {S:AState} {a:Act} {w:World} {I:Im} {ρ:Nat->Value} {C:Nat->Prop} (h:SatAt E S a w I ρ C):GlI E.gdt w I:=(E.gl _ _ _ h.frame).sub h.sub
theorem zA0 (S:AState) {t:Nat} (x:AV) {E:Env} (h:t<E.n):(S.put t x).ghost=S.ghost:=by
 have k:t≠GT:=by have:=E.nle;unfold GT;omega
 unfold AState.ghost;rw[uJ,dK k]
def AV.un:AV->AV
 | .cond true x=>x.un
 | y=>y
def AState.ev (S:AState):Operand->AV
 | .tmp t=>(S.get t).un
 | .const v=> .d (.v v)
 | .func f=> .d (.v (.func (.func f) #[] #[]))
 | .global _=> .top
theorem Holds.un {w:World} {I:Im} {ρ:Nat->Value} {v:Value}:∀{x:AV},Holds w I ρ v x->Holds w I ρ v x.un:=by
 intro x
 induction x with
 | cond g x k=>
  intro h;cases g with
  | false=>exact h
  | true=>exact k (h.1 rfl)
 | _=>exact id
theorem SatAt.ev {E:Env} {S:AState} {a:Act} {w:World} {I:Im} {ρ:Nat->Value} {C:Nat->Prop} (h:SatAt E S a w I ρ C) (x:Operand):Holds w I ρ (a.eval x) (S.ev x):=by
 cases x with
 | tmp t=>exact(h.tmps t).un
 | const v=>exact .v v
 | func f=>exact .v _
 | global g=>trivial
theorem SatAt.val {E:Env} {S:AState} {a:Act} {w:World} {I:Im} {ρ:Nat->Value} {C:Nat->Prop} (h:SatAt E S a w I ρ C) {x:Operand} {v:Value} (k:S.ev x= .d (.v v)):a.eval x=v:=by have:=h.ev x;rw[k] at this;generalize a.eval x=u at this ⊢;cases this;rfl
theorem SatAt.put {E:Env} {S:AState} {a:Act} {w:World} {I:Im} {ρ:Nat->Value} {C:Nat->Prop} (h:SatAt E S a w I ρ C) {d:Nat} {v:Value} {x:AV} (D:d<E.n) (G:Holds w I ρ v x):
  SatAt E (S.put d x) (a.put (some d) v) w I ρ C:=by
 refine⟨λt=>?_,h.blks,h.dist,by rw[zA0 S x D];exact h.frame,h.sub,h.old,by simp[Act.put,h.size],h.defers,h.cI,h.cB,h.nm⟩
 rw[uJ];by_cases k:d=t
 ·subst k
  simp only[dG,Act.put];rw[dF,Array.getElem?_setIfInBounds_self_of_lt (by rw[h.size];exact D)]
  exact G
 ·simp only[k,cV,Act.put]
  have:=h.tmps t;rw[dF] at this ⊢;rw[dU k];exact this
def fen (r:Option Nat):Fence:={Fence.wide with round:=r}
def jJ (P:Program) (r:Option Nat) (E:Env) (o:Oper) (S S':AState):Prop:=
 ∀a w (K:Act->World->Prop) (Q:Exit->Act->World->Prop),Sat E S a w->(∀h w',Sat E S' h w'->K h w')->o.wpIn (fen r) 0 P a w K Q
section
variable {P:Program} {r:Option Nat} {E:Env} {S:AState}
theorem zAM {o:Oper} {S':AState} (k:∀c,o.op≠ .defer c)
  (h:∀a w I ρ C,SatAt E S a w I ρ C->∃v w',(execOp a.eval o).run P w= .ok (.value v) w'/\Sat E S' (a.put o.dst v) w'):jJ P r E o S S':=by
 rintro a w K Q ⟨I,ρ,C,H⟩ D
 obtain⟨v,w',G,O⟩:=h a w I ρ C H;refine⟨λf _=>trivial,?_⟩;rw[Oper.semAt_eq _ _ _ k,G];exact D _ _ O
theorem zY {o:Oper} {d:Nat} {x:AV} (G:o.dst=some d) (H:d<E.n) (k:∀c,o.op≠ .defer c)
  (h:∀a w I ρ C,SatAt E S a w I ρ C->∃v,(execOp a.eval o).run P w= .ok (.value v) w/\Holds w I ρ v x):jJ P r E o S (S.put d x):=
 zAM k λa w I ρ C D=>by
  obtain⟨v,K,O⟩:=h a w I ρ C D;exact⟨v,w,K,I,ρ,C,by rw[G];exact D.put H O⟩
variable {d:Nat} {ty:TypeId} {pos:String} {af:Array Edge} {g:Option (Nat×Bool)}
theorem yBG {x:Operand} (h:d<E.n):jJ P r E ⟨some d,.move x,ty,pos,af,g⟩ S (S.put d (S.ev x)):=
 zY rfl h (by simp) λa w I ρ C k=>⟨a.eval x,by simp[execOp],k.ev x⟩
theorem z2S {x:Operand} (h:d<E.n):jJ P r E ⟨some d,.assign x,ty,pos,af,g⟩ S (S.put d (S.ev x)):=
 zY rfl h (by simp) λa w I ρ C k=>⟨a.eval x,by simp[execOp],k.ev x⟩
theorem jQ {o:Oper} {v:Value} (D:o.dst=some d) (G:d<E.n) (k:∀c,o.op≠ .defer c)
  (h:∀a w I ρ C,SatAt E S a w I ρ C->(execOp a.eval o).run P w= .ok (.value v) w):jJ P r E o S (S.put d (.d (.v v))):=
 zY D G k λa w I ρ C H=>⟨v,h a w I ρ C H,.v v⟩
section ints
variable {k:IntKind} {x y:Operand} {a b:Int} {tx tz:TypeId} (hn:d<E.n) (hx:S.ev x= .d (.v (.int k a))) (hy:S.ev y= .d (.v (.int k b)))
include hn hx hy
theorem yEF:jJ P r E ⟨some d,.binOp .lss tx x y tz,ty,pos,af,g⟩ S (S.put d (.d (.v (.bool (decide (a<b)))))):=
 jQ rfl hn (by simp) λA w I ρ C h=>by
  simp only[execOp,h.val hx,h.val hy];simp[binOp,eqGuard,Op.intCmp]
theorem yEG:jJ P r E ⟨some d,.binOp .leq tx x y tz,ty,pos,af,g⟩ S (S.put d (.d (.v (.bool (decide (a<=b)))))):=
 jQ rfl hn (by simp) λA w I ρ C h=>by
  simp only[execOp,h.val hx,h.val hy];simp[binOp,eqGuard,Op.intCmp]
theorem yEH:jJ P r E ⟨some d,.binOp .gtr tx x y tz,ty,pos,af,g⟩ S (S.put d (.d (.v (.bool (decide (b<a)))))):=
 jQ rfl hn (by simp) λA w I ρ C h=>by
  simp only[execOp,h.val hx,h.val hy];simp[binOp,eqGuard,Op.intCmp]
theorem yEI:jJ P r E ⟨some d,.binOp .geq tx x y tz,ty,pos,af,g⟩ S (S.put d (.d (.v (.bool (decide (b<=a)))))):=
 jQ rfl hn (by simp) λA w I ρ C h=>by
  simp only[execOp,h.val hx,h.val hy];simp[binOp,eqGuard,Op.intCmp]
theorem yEJ:jJ P r E ⟨some d,.binOp .eql tx x y tz,ty,pos,af,g⟩ S (S.put d (.d (.v (.bool (decide (a=b)))))):=
 jQ rfl hn (by simp) λA w I ρ C h=>by
  simp only[execOp,h.val hx,h.val hy];have:(a==b)=decide (a=b):=rfl;simp[binOp,eqGuard,Op.intCmp,this]
theorem yEK:jJ P r E ⟨some d,.binOp .neq tx x y tz,ty,pos,af,g⟩ S (S.put d (.d (.v (.bool (!decide (a=b)))))):=
 jQ rfl hn (by simp) λA w I ρ C h=>by
  simp only[execOp,h.val hx,h.val hy];have:(a != b)= !decide (a=b):=rfl;simp[binOp,eqGuard,Op.intCmp,this]
end ints
theorem yEL {k Z:IntKind} {x y:Operand} {a:Int} {m:Nat} {tx tz:TypeId} (O:d<E.n) (T:S.ev x= .d (.v (.int k a))) (Y:S.ev y= .d (.v (.int Z (m:Int))))
  (K:m<=k.bits):jJ P r E ⟨some d,.binOp .shr tx x y tz,ty,pos,af,g⟩ S (S.put d (.d (.v (.int k (a/2 ^ m))))):=
 jQ rfl O (by simp) λA w I ρ C h=>by
  simp only[execOp,h.val T,h.val Y];have D:¬((m:Int)<0):=by omega
  have G:min m k.bits=m:=hF K;have H:a.fdiv (2 ^ m)=a/2 ^ m:=Int.fdiv_eq_ediv_of_nonneg a (Int.le_of_lt (Int.pow_pos (by decide)));simp[binOp,eqGuard,Op.shift,D,G,H]
theorem yEM {x:Operand} {b:Bool} {tx:TypeId} (h:d<E.n) (D:S.ev x= .d (.v (.bool b))):jJ P r E ⟨some d,.unOp .not tx x,ty,pos,af,g⟩ S (S.put d (.d (.v (.bool (!b))))):=
 jQ rfl h (by simp) λA w I ρ C k=>by
  simp only[execOp,k.val D];simp[Op.unary]
theorem zXD {c:Operand} {t:Nat} {b h:Bool} (K:d<E.n) (H:S.ev c= .d (.v (.bool b))) (O:S.get t= .cond b (.d (.v (.bool h)))):
  jJ P r E ⟨some d,.pick c (.tmp t) (.const (.bool false)),ty,pos,af,g⟩ S (S.put d (.d (.v (.bool (b&&h))))):=
 jQ rfl K (by simp) λA w I ρ C G=>by
  have D:=G.tmps t;rw[O] at D;simp only[execOp,G.val H];cases b with
  | false=>simp[asBool,Act.eval]
  | true=>
   have k:=D.1 rfl;generalize T:A.tmps.getD t undef=v at k;cases k;simp only[Act.eval,T];simp[asBool]
theorem z0A {c:Operand} {t:Nat} {b h:Bool} (K:d<E.n) (H:S.ev c= .d (.v (.bool b))) (O:S.get t= .cond (!b) (.d (.v (.bool h)))):
  jJ P r E ⟨some d,.pick c (.const (.bool true)) (.tmp t),ty,pos,af,g⟩ S (S.put d (.d (.v (.bool (b ||h))))):=
 jQ rfl K (by simp) λA w I ρ C G=>by
  have D:=G.tmps t;rw[O] at D;simp only[execOp,G.val H];cases b with
  | true=>simp[asBool,Act.eval]
  | false=>
   have k:=D.1 rfl;generalize T:A.tmps.getD t undef=v at k;cases k;simp only[Act.eval,T];simp[asBool]
section strs
variable {x y:Operand} {a b:ByteArray} {tx tz:TypeId} (hn:d<E.n) (hx:S.ev x= .d (.v (.string a))) (hy:S.ev y= .d (.v (.string b)))
include hn hx hy
theorem zVB {k:BinOp} {v:Value} (K:k≠ .shl/\k≠ .shr) (h:∀w,(Op.stringOp k a b).run P w= .ok v w):jJ P r E ⟨some d,.binOp k tx x y tz,ty,pos,af,g⟩ S (S.put d (.d (.v v))):=
 jQ rfl hn (by simp) λA w I ρ C D=>by
  simp only[execOp,D.val hx,D.val hy];have G:(eqGuard k tx x y (.string a) (.string b)).run P w= .ok () w:=by cases k<;>simp[eqGuard]
  have H:binOp k tx (.string a) (.string b)=Op.stringOp k a b:=by cases k<;>simp_all [binOp]
  simp[G,H,h]
theorem yBH:jJ P r E ⟨some d,.binOp .eql tx x y tz,ty,pos,af,g⟩ S (S.put d (.d (.v (.bool (a.toList==b.toList))))):=zVB hn hx hy (by simp) (λ_=>by simp[Op.stringOp])
theorem yBI:jJ P r E ⟨some d,.binOp .neq tx x y tz,ty,pos,af,g⟩ S (S.put d (.d (.v (.bool (!(a.toList==b.toList)))))):=zVB hn hx hy (by simp) (λ_=>by simp[Op.stringOp])
theorem yBJ:jJ P r E ⟨some d,.binOp .lss tx x y tz,ty,pos,af,g⟩ S (S.put d (.d (.v (.bool (Op.bytesLess a.toList b.toList))))):=zVB hn hx hy (by simp) (λ_=>by simp[Op.stringOp])
end strs
theorem zXE {k D:IntKind} {x:Operand} {a:Int} {G td:TypeId} {ds:TypeDesc} (K:d<E.n) (O:P.underlying G=some ds) (H:P.underlying td=some (.int D)) (T:S.ev x= .d (.v (.int k a))):
  jJ P r E ⟨some d,.convert G td x,ty,pos,af,g⟩ S (S.put d (.d (.v (.int D (D.wrap a))))):=
 jQ rfl K (by simp) λA w I ρ C h=>by
  simp only[execOp,h.val T];simp[convert,dJ O,dJ H,Conv.intToInt]
theorem z0B {x:Operand} {i:Nat} {ds:List DV} {e:DV} (G:d<E.n) (O:S.ev x= .tup ds) (hi:ds[i]? =some e):jJ P r E ⟨some d,.extract x i,ty,pos,af,g⟩ S (S.put d (.d e)):=
 zY rfl G (by simp) λA w I ρ C H=>by
  have h:=H.ev x;rw[O] at h;obtain⟨xs,K,D⟩:=h;have k:i<xs.length:=by rw[D.1];exact(cX.1 hi).1
  refine⟨xs[i],?_,D.2 i _ e (cO k) hi⟩;simp only[execOp,K];simp[Instr.extract,cO k]
end
def Cap.mentions (id:Nat):Cap->Bool
 | .row i=>Nat.beq i id
 | .ptr i _=>Nat.beq i id
 | _=>false
def AV.mentions (id:Nat):AV->Bool
 | .row i=>Nat.beq i id
 | .ptr i _=>Nat.beq i id
 | .rs i _ _=>Nat.beq i id
 | .wp i _=>Nat.beq i id
 | .ws i _ _ _=>Nat.beq i id
 | .clo _ h=>h.any (Cap.mentions id)
 | .tupc h=>h.any (Cap.mentions id)
 | .aggc h=>h.any (Cap.mentions id)
 | .cond _ x=>x.mentions id
 | _=>false
def zFJ (id:Nat) (x:AV):AV:=if x.mentions id then .top else x
def zUI (id:Nat):Blk->Blk
 | .box e cells=> .box e (cells.map (zFJ id))
 | b=>b
def AState.kill (S:AState) (id:Nat):AState:=
 {tmps:=S.tmps.map λp=>(p.1,zFJ id p.2),blks:=S.blks.map λp=>(p.1,zUI id p.2)}
theorem zQQ {D:Type} (h: D) (f: D->D) (G:f h=h) (l:List (Nat×D)) (k:Nat):look h (l.map λp=>(p.1,f p.2)) k=f (look h l k):=by
 induction l with
 | nil=>simp[look,G]
 | cons p l H=>obtain⟨i,x⟩:=p;simp only[ez,kK,H];split<;>rfl
theorem z2T (S:AState) (id t:Nat):(S.kill id).get t=zFJ id (S.get t):=zQQ _ _ rfl _ _
theorem zJB (S:AState) (id i:Nat):(S.kill id).blk i=zUI id (S.blk i):=zQQ _ _ rfl _ _
theorem yJP (id:Nat) (x:AV):(match zFJ id x with | .gh k=>k | _=>0)=(match x with | .gh k=>k | _=>0):=by
 unfold zFJ;by_cases h:x.mentions id=true;simp only[h,dG];cases x<;>first | rfl | (simp[AV.mentions] at h)
 simp only[h];rfl
def upd (ρ:Nat->Value) (id:Nat) (v:Value):Nat->Value:=λi=>if i=id then v else ρ i
theorem HoldsC.upd {w w':World} {I k:Im} {ρ:Nat->Value} {v:Value} {x:Cap} (h:HoldsC w I ρ v x) (H:Same I w w') (G:∀b j,I b j->k b j) (id:Nat) (u:Value) (D:x.mentions id=false):
  HoldsC w' k (upd ρ id u) v x:=by
 cases x with
 | top=>trivial
 | d y=>exact Rep.mono h H G
 | row i=>
  have:i≠id:=by intro e;subst e;simp[Cap.mentions] at D
  simpa[HoldsC,Go.AV.upd,this] using h
 | ptr i off=>
  have:i≠id:=by intro e;subst e;simp[Cap.mentions] at D
  simpa[HoldsC,Go.AV.upd,this] using h
theorem HoldsC.updL {w w':World} {I k:Im} {ρ:Nat->Value} {xs:List Value} {cs:List Cap} (h:Pw (HoldsC w I ρ) xs cs) (K:Same I w w') (G:∀b j,I b j->k b j) (id:Nat) (u:Value) (H:cs.any (Cap.mentions id)=false):
  Pw (HoldsC w' k (Go.AV.upd ρ id u)) xs cs:=⟨h.1,λj x c O D=>(h.2 j x c O D).upd K G id u (by
   have:=gP.1 H c (eN D);simpa using this)⟩
theorem HoldsC.mono {w w':World} {I k:Im} {ρ:Nat->Value} {v:Value} {x:Cap} (h:HoldsC w I ρ v x) (G:Same I w w') (D:∀b j,I b j->k b j):HoldsC w' k ρ v x:=by
 cases x with
 | top=>trivial
 | d y=>exact Rep.mono h G D
 | row i=>exact h
 | ptr i off=>exact h
theorem Holds.upd {w w':World} {I Y:Im} {ρ:Nat->Value} {v:Value} {x:AV} (h:Holds w I ρ v x) (O:Same I w w') (K:∀b j,I b j->Y b j) (id:Nat) (u:Value):
  Holds w' Y (upd ρ id u) v (zFJ id x):=by
 unfold zFJ;by_cases D:x.mentions id=true
 ·simp[D,Holds]
 ·simp only[D]
  show Holds w' Y (Go.AV.upd ρ id u) v x
  induction x with
  | top=>trivial
  | d y=>exact Rep.mono h O K
  | row i=>
   have:i≠id:=by intro e;subst e;simp[AV.mentions] at D
   simpa[Holds,Go.AV.upd,this] using h
  | ptr i off=>
   have:i≠id:=by intro e;subst e;simp[AV.mentions] at D
   simpa[Holds,Go.AV.upd,this] using h
  | ip cells k=>
   obtain⟨b,off,xs,G,hr,Z,hc⟩:=h;exact⟨b,off,xs,G,hr.mono O K,Z,λj y hj=>⟨(O _ _ (hc j y hj).2).cell.trans (hc j y hj).1,K _ _ (hc j y hj).2⟩⟩
  | tup ds=>obtain⟨xs,G,hr⟩:=h;exact⟨xs,G,hr.mono O K⟩
  | cond g y ih=>exact⟨λhg=>ih (h.1 hg) (by simpa[AV.mentions] using D),h.2⟩
  | gh k=>trivial
  | rs i off n=>
   have:i≠id:=by intro e;subst e;simp[AV.mentions] at D
   simpa[Holds,Go.AV.upd,this] using h
  | clo f H=>
   obtain⟨xs,G,T⟩:=h;exact⟨xs,G,HoldsC.updL T O K id u (by simpa[AV.mentions] using D)⟩
  | tupc H=>
   obtain⟨xs,G,T⟩:=h;exact⟨xs,G,HoldsC.updL T O K id u (by simpa[AV.mentions] using D)⟩
  | aggc H=>
   obtain⟨xs,G,T,Z⟩:=h;exact⟨xs,G,HoldsC.updL T O K id u (by simpa[AV.mentions] using D),Z⟩
  | wp i off=>
   have:i≠id:=by intro e;subst e;simp[AV.mentions] at D
   simpa[Holds,Go.AV.upd,this] using h
  | ws i off n tt=>
   have:i≠id:=by intro e;subst e;simp[AV.mentions] at D
   simpa[Holds,Go.AV.upd,this] using h
theorem Holds.mono {w w':World} {I I':Im} {ρ:Nat->Value} {v:Value} {x:AV} (h:Holds w I ρ v x) (K:Same I w w') (H:∀b j,I b j->I' b j):Holds w' I' ρ v x:=by
 induction x with
 | top=>trivial
 | d y=>exact Rep.mono h K H
 | row i=>exact h
 | ptr i off=>exact h
 | ip cells k=>
  obtain⟨b,off,xs,D,hr,T,Y⟩:=h;exact⟨b,off,xs,D,hr.mono K H,T,λj y Z=>⟨(K _ _ (Y j y Z).2).cell.trans (Y j y Z).1,H _ _ (Y j y Z).2⟩⟩
 | tup ds=>obtain⟨xs,D,hr⟩:=h;exact⟨xs,D,hr.mono K H⟩
 | cond g y ih=>exact⟨λhg=>ih (h.1 hg),h.2⟩
 | gh k=>trivial
 | rs i off n=>exact h
 | clo f G=>obtain⟨xs,D,O⟩:=h;exact⟨xs,D,O.imp λ_ _ h=>h.mono K H⟩
 | tupc G=>obtain⟨xs,D,O⟩:=h;exact⟨xs,D,O.imp λ_ _ h=>h.mono K H⟩
 | aggc G=>obtain⟨xs,D,O,T⟩:=h;exact⟨xs,D,O.imp λ_ _ h=>h.mono K H,T⟩
 | wp i off=>exact h
 | ws i off n tt=>exact h
theorem zPE {w w':World} {B e size n:Nat} {v:Value} {xs:List Value} (h:w.ownsRow B e size v n xs) (hb:∀g,v.ownBlock=some g->w'.heap[g]? =w.heap[g]?):w'.ownsRow B e size v n xs:=by
 refine⟨h.1,?_⟩;rcases h.2 with K | ⟨g,k,D,rfl,G,H,rest⟩
 exact .inl K;exact .inr ⟨g,k,D,rfl,G,by rw[hb g rfl];exact H,rest⟩
theorem zBZ {v:Value} {g:Nat} (h:v.ownBlock=some g):blockOf v=some g:=by unfold Value.ownBlock at h;split at h;simpa[blockOf] using h;cases h
theorem BlkOk.mono {w w':World} {I:Im} {ρ:Nat->Value} {M:Nat->Prop} {i:Nat} {x:Blk} (h:BlkOk w I ρ M i x) (hs:Same I w w')
  (hb:∀b,blockOf (ρ i)=some b->w'.heap[b]? =w.heap[b]?):BlkOk w' I ρ M i x:=by
 cases x with
 | none=>trivial
 | row e size sh cells=>
  obtain⟨h0,n,xs,hl,ad,h1,H,O⟩:=h;exact⟨h0,n,xs,hl,zPE ad (λg hg=>hb g (zBZ hg)),h1,H.mono hs (λ_ _ h=>h),O⟩
 | box e cells=>
  obtain⟨b,arr,G,K,T,h1,H,O⟩:=h;exact⟨b,arr,G,K,by rw[hb b (by rw[G];rfl)];exact T,h1,H.imp λ_ _ h=>h.mono hs (λ_ _ h=>h),O⟩
 | map es=>
  obtain⟨b,ents,D,G,K,T,H,O⟩:=h;exact⟨b,ents,D,G,K,by rw[hb b (by rw[G];rfl)];exact T,H.imp λ_ _ h=>⟨h.1,h.2.mono hs (λ_ _ h=>h)⟩,O⟩
 | it es q=>
  obtain⟨b,bm,ents,D,ag,G,K,T,O,hm,ac,H,hN,hq⟩:=h;exact⟨b,bm,ents,D,ag,G,K,by rw[hb b (by rw[G];rfl)];exact T,O,(hs _ _ ac).map _ _ hm,ac,H.imp λ_ _ h=>⟨h.1,h.2.mono hs (λ_ _ h=>h)⟩,hN,hq⟩
 | win e size k cells=>
  obtain⟨A,n,c,xs,G,ai,hp,hl,H,h1,Z⟩:=h;refine⟨A,n,c,xs,G,ai,hp,hl,H.mono hs (λ_ _ h=>h),h1,?_⟩;rcases Z with Z | ⟨b,off,arr,Z,K,T,Y⟩
  ·exact .inl Z
  ·exact .inr ⟨b,off,arr,Z,K,by rw[hb b (by rw[G,Z];rfl)];exact T,Y⟩
theorem BlkOk.upd {w w':World} {I:Im} {ρ:Nat->Value} {M:Nat->Prop} {i:Nat} {x:Blk} (h:BlkOk w I ρ M i x) (hs:Same I w w')
  (hb:∀b,blockOf (ρ i)=some b->w'.heap[b]? =w.heap[b]?) {id:Nat} (an:i≠id) (u:Value):BlkOk w' I (upd ρ id u) M i (zUI id x):=by
 have G:Go.AV.upd ρ id u i= ρ i:=by simp[Go.AV.upd,an]
 cases x with
 | none=>trivial
 | row e size sh cells=>
  obtain⟨h0,n,xs,hl,ah,h1,K,Y⟩:=h;refine⟨by rw[G];exact h0,n,xs,hl,?_,h1,K.mono hs (λ_ _ h=>h),?_⟩
  ·rw[G];exact zPE ah (λg hg=>hb g (zBZ hg))
  ·rw[G];exact Y
 | box e cells=>
  obtain⟨b,arr,H,T,Z,h1,K,Y⟩:=h;refine⟨b,arr,by rw[G];exact H,T,by rw[hb b (by rw[H];rfl)];exact Z,h1,⟨by simpa using K.1,λj y av hj O=>?_⟩,Y⟩
  rw[dX] at O;cases hc:cells[j]? with
  | none=>simp[hc] at O
  | some aj=>
   simp[hc] at O;subst O;exact(K.2 j y aj hj hc).upd hs (λ_ _ h=>h) id u
 | map es=>
  obtain⟨b,ents,D,H,T,Z,K,Y⟩:=h;exact⟨b,ents,D,by rw[G];exact H,T,by rw[hb b (by rw[H];rfl)];exact Z,K.imp λ_ _ h=>⟨h.1,h.2.mono hs (λ_ _ h=>h)⟩,Y⟩
 | it es q=>
  obtain⟨b,bm,ents,D,ai,H,T,Z,Y,hm,ag,K,hN,hq⟩:=h;exact⟨b,bm,ents,D,ai,by rw[G];exact H,T,by rw[hb b (by rw[H];rfl)];exact Z,Y,(hs _ _ ag).map _ _ hm,ag,K.imp λ_ _ h=>⟨h.1,h.2.mono hs (λ_ _ h=>h)⟩,hN,hq⟩
 | win e size k cells=>
  obtain⟨A,n,c,xs,H,am,hp,hl,K,h1,hA⟩:=h;refine⟨A,n,c,xs,by rw[G];exact H,am,hp,hl,K.mono hs (λ_ _ h=>h),h1,?_⟩
  rcases hA with hA | ⟨b,off,arr,hA,T,Z,aa⟩
  ·exact .inl hA
  ·exact .inr ⟨b,off,arr,hA,T,by rw[hb b (by rw[H,hA];rfl)];exact Z,aa⟩
theorem BlkOk.widenI {w:World} {I I':Im} {ρ:Nat->Value} {M:Nat->Prop} {i:Nat} {x:Blk} (h:BlkOk w I ρ M i x) (D:∀b j,I b j->I' b j)
  (hx:∀b j,x≠ .none->blockOf (ρ i)=some b->I' b j->I b j):BlkOk w I' ρ M i x:=by
 have hs:Same I w w:=λ_ _ _=>KeepB.refl;cases x with
 | none=>trivial
 | row e size sh cells=>
  obtain⟨h0,n,xs,hl,ab,T,O,K⟩:=h;exact⟨h0,n,xs,hl,ab,T,O.mono hs D,λg j hg hi=>K g j hg (hx g j (by simp) (zBZ hg) hi)⟩
 | box e cells=>
  obtain⟨b,arr,H,Y,Z,T,O,K⟩:=h;exact⟨b,arr,H,Y,Z,T,O.imp λ_ _ h=>h.mono hs D,λj hi=>K j (hx b j (by simp) (by rw[H];rfl) hi)⟩
 | map es=>
  obtain⟨b,ents,G,H,Y,Z,O,K⟩:=h;exact⟨b,ents,G,H,Y,Z,O.imp λ_ _ h=>⟨h.1,h.2.mono hs D⟩,λj hi=>K.1 j (hx b j (by simp) (by rw[H];rfl) hi),K.2⟩
 | it es q=>
  obtain⟨b,bm,ents,G,ag,H,Y,Z,K,hm,aj,O,hN,hq⟩:=h;exact⟨b,bm,ents,G,ag,H,Y,Z,λj hi=>K j (hx b j (by simp) (by rw[H];rfl) hi),hm,D _ _ aj,O.imp λ_ _ h=>⟨h.1,h.2.mono hs D⟩,hN,hq⟩
 | win e size k cells=>
  obtain⟨A,n,c,xs,H,ak,hp,hl,O,T,hA⟩:=h;refine⟨A,n,c,xs,H,ak,hp,hl,O.mono hs D,T,?_⟩;rcases hA with hA | ⟨b,off,arr,hA,Y,Z,hf,hc,K⟩
  ·exact .inl hA
  ·exact .inr ⟨b,off,arr,hA,Y,Z,hf,hc,λj T h2 hi=>K j T h2 (hx b j (by simp) (by rw[H,hA];rfl) hi)⟩
theorem BlkOk.mineM {w:World} {I:Im} {ρ:Nat->Value} {M Z:Nat->Prop} {i:Nat} {x:Blk} (h:BlkOk w I ρ M i x)
  (O:∀b,x≠ .none->blockOf (ρ i)=some b->M b->Z b):BlkOk w I ρ Z i x:=by
 cases x with
 | none=>trivial
 | row e size sh cells=>
  obtain⟨h0,rest⟩:=h;exact⟨⟨h0.1,λg hg=>O g (by simp) (zBZ hg) (h0.2 g hg)⟩,rest⟩
 | box e cells=>
  obtain⟨b,arr,G,H,rest⟩:=h;exact⟨b,arr,G,O b (by simp) (by rw[G];rfl) H,rest⟩
 | map es=>
  obtain⟨b,ents,D,G,H,rest⟩:=h;exact⟨b,ents,D,G,O b (by simp) (by rw[G];rfl) H,rest⟩
 | it es q=>
  obtain⟨b,bm,ents,D,T,G,H,rest⟩:=h;exact⟨b,bm,ents,D,T,G,O b (by simp) (by rw[G];rfl) H,rest⟩
 | win e size k cells=>
  obtain⟨A,n,c,xs,G,Y,hp,hl,hr,h1,K⟩:=h;refine⟨A,n,c,xs,G,Y,hp,hl,hr,h1,?_⟩;rcases K with K | ⟨b,off,arr,K,H,rest⟩
  ·exact .inl K
  ·exact .inr ⟨b,off,arr,K,O b (by simp) (by rw[G,K];rfl) H,rest⟩
theorem SatAt.blt {E:Env} {S:AState} {a:Act} {w:World} {I:Im} {ρ:Nat->Value} {C:Nat->Prop} (h:SatAt E S a w I ρ C):∀i b,S.blk i≠ .none->blockOf (ρ i)=some b->E.mine b/\b<w.heap.size:=by
 intro i b hi hb;have:=h.blks i;cases O:S.blk i with
 | none=>exact absurd O hi
 | row e size sh cells=>
  rw[O] at this;obtain⟨hM,n,xs,hl,Y,_⟩:=this;rcases Y.2 with ⟨hn,_⟩ | ⟨g,ac,ad,D,H,G,_⟩
  rw[hn] at hb;simp[blockOf] at hb;have aa:=hM.2 g (by rw[D];rfl)
  rw[D] at hb;simp[blockOf] at hb;subst hb;exact⟨aa,(cQ.1 G).1⟩
 | box e cells=>
  rw[O] at this;obtain⟨Z,arr,D,H,G,_⟩:=this;rw[D] at hb;simp[blockOf] at hb;subst hb;exact⟨H,(cQ.1 G).1⟩
 | map es=>
  rw[O] at this;obtain⟨Z,ents,K,D,H,G,_⟩:=this;rw[D] at hb;simp[blockOf] at hb;subst hb;exact⟨H,(cQ.1 G).1⟩
 | it es q=>
  rw[O] at this;obtain⟨Z,bm,ents,K,ab,D,H,G,_⟩:=this;rw[D] at hb;simp[blockOf] at hb;subst hb;exact⟨H,(cQ.1 G).1⟩
 | win e size k cells=>
  rw[O] at this;obtain⟨A,n,c,xs,D,_,_,_,_,_,T⟩:=this;rcases T with ⟨T,_⟩ | ⟨Z,off,arr,T,H,G,_⟩
  rw[D,T] at hb;simp[blockOf] at hb;rw[D,T] at hb;simp[blockOf] at hb;subst hb;exact⟨H,(cQ.1 G).1⟩
theorem SatAt.grow {E:Env} {S:AState} {a:Act} {w w':World} {I:Im} {ρ:Nat->Value} {C:Nat->Prop} (h:SatAt E S a w I ρ C) (hb:Below w.heap.size w w'):SatAt E S a w' I ρ C:=by
 have G:Same I w w':=λb j hi=>KeepB.of (hb.block b (h.old b j hi).1);refine⟨λt=>(h.tmps t).mono G (λ_ _ h=>h),λi=>?_,h.dist,E.grow _ _ _ _ h.frame hb,h.sub,λb j hi=>⟨eU (h.old b j hi).1 hb.size,(h.old b j hi).2⟩,h.size,h.defers.keep λr D=>(hb.block r (cQ.1 D).1).trans D,h.cI,h.cB,h.nm⟩;cases H:S.blk i with
 | none=>trivial
 | _=>
  rw[<-H];exact(h.blks i).mono G (λb k=>hb.block b (h.blt i b (by rw[H];simp) k).2)
theorem SatAt.cellBlk {E:Env} {S:AState} {a:Act} {w:World} {I:Im} {ρ:Nat->Value} {C:Nat->Prop} (h:SatAt E S a w I ρ C) {id b:Nat} (ab:S.blk id≠ .none) (D:blockOf (ρ id)=some b):∃o,w.heap[b]? =some o/\isData o=true:=by
 have:=h.blks id;cases O:S.blk id with
 | none=>exact absurd O ab
 | row e size sh cells=>
  rw[O] at this;obtain⟨_,n,xs,hl,Y,_⟩:=this;rcases Y.2 with ⟨hn,_⟩ | ⟨g,ad,ag,G,Z,H,_⟩
  rw[hn] at D;simp[blockOf] at D;rw[G] at D;simp[blockOf] at D;subst D;exact⟨_,H,rfl⟩
 | box e cells=>
  rw[O] at this;obtain⟨b',arr,G,Z,H,_⟩:=this;rw[G] at D;simp[blockOf] at D;subst D;exact⟨_,H,rfl⟩
 | map es=>
  rw[O] at this;obtain⟨b',ents,K,G,Z,H,_⟩:=this;rw[G] at D;simp[blockOf] at D;subst D;exact⟨_,H,rfl⟩
 | it es q=>
  rw[O] at this;obtain⟨b',bm,ents,K,ac,G,Z,H,_⟩:=this;rw[G] at D;simp[blockOf] at D;subst D;exact⟨_,H,rfl⟩
 | win e size k cells=>
  rw[O] at this;obtain⟨A,n,c,xs,G,_,_,_,_,_,T⟩:=this;rcases T with ⟨T,_⟩ | ⟨b',off,arr,T,Z,H,_⟩
  rw[G,T] at D;simp[blockOf] at D;rw[G,T] at D;simp[blockOf] at D;subst D;exact⟨_,H,rfl⟩
theorem SatAt.modify {E:Env} {S:AState} {a:Act} {w w':World} {I:Im} {ρ:Nat->Value} {C:Nat->Prop} (h:SatAt E S a w I ρ C) {id b:Nat} {x:Blk} (Y:w.grownBy w' (some b))
  (D:S.blk id≠ .none) (K:blockOf (ρ id)=some b) (hs:Same I w w') (hx:BlkOk w' I ρ E.mine id x) (hE:E.wrB=true):SatAt E (S.setBlk id x) a w' I ρ C:=by
 have G:∃o,w.heap[b]? =some o/\isData o=true:=h.cellBlk D K;refine⟨λt=>(h.tmps t).mono hs (λ_ _ h=>h),λi=>?_,λi i' T ab hi aa hb=>?_,E.wr hE _ _ _ _ _ h.frame (Chg.of Y) (λk hk=>by cases hk;exact⟨(h.blt id _ D K).1,h.cB id _ D K,G⟩) (λb j hi=>hs b j (h.sub b j hi)),h.sub,
  λb j hi=>⟨eU (h.old b j hi).1 Y.size,(h.old b j hi).2⟩,h.size,h.defers.keep λr Z=>(Y.block r (cQ.1 Z).1 (λe=>by cases e;obtain⟨o,hc,hd⟩:=G;rw[hc] at Z;cases Z;cases hd)).trans Z,h.cI,λi T hi H=>?_,λi v hv hi=>h.nm i v hv ?_⟩
 ·rw[yO]
  by_cases e:id=i
  ·subst e;simpa using hx
  ·simp only[e,cV]
   cases hb:S.blk i with
   | none=>trivial
   | _=>
    rw[<-hb];have O:S.blk i≠ .none:=by rw[hb];simp
    exact(h.blks i).mono hs (λT H=>Y.block T (h.blt i T O H).2 (λhe=>h.dist i id T (λe'=>e e'.symm) O D H (by rw[K,he])))
 ·have key:∀i,(S.setBlk id x).blk i≠ .none->S.blk i≠ .none:=by
   intro i hi;rw[yO] at hi;by_cases e:id=i
   ·subst e;exact D
   ·simpa[e] using hi
  exact h.dist i i' T ab (key i hi) (key i' aa) hb
 ·refine h.cB i T ?_ H
  rw[yO] at hi;by_cases e:id=i
  ·subst e;exact D
  ·simpa[e] using hi
 ·rw[yO] at hi
  by_cases e:id=i
  ·subst e;exact D
  ·simpa[e] using hi
theorem SatAt.update {E:Env} {S:AState} {a:Act} {w w':World} {I:Im} {ρ:Nat->Value} {C:Nat->Prop} (h:SatAt E S a w I ρ C) {row:Option Nat} (hg:w.grownBy w' row) {id:Nat} {u:Value} {x:Blk}
  (D:∀k,row=some k->S.blk id≠ .none/\blockOf (ρ id)=some k)
  (hs:Same I w w') (hu:∀b,blockOf u=some b->w.heap.size<=b\/(S.blk id≠ .none/\blockOf (ρ id)=some b)) (hx:BlkOk w' I (upd ρ id u) E.mine id x) (hE:row=none\/E.wrB=true) (an:E.nm id=none):
  SatAt E ((S.kill id).setBlk id x) a w' I (upd ρ id u) C:=by
 have ak:E.fr ((S.kill id).setBlk id x).ghost C w':=by
  have al:((S.kill id).setBlk id x).ghost=S.ghost:=by
   unfold AState.ghost;rw[zVA,z2T];exact yJP id _
  rw[al];rcases hE with rfl | hE
  ·exact E.grow _ _ _ _ h.frame ⟨hg.os,hg.tape,hg.output,hg.size,λk hk=>hg.block k hk (by simp)⟩
  ·exact E.wr hE _ _ _ _ _ h.frame (Chg.of hg) (λk hk=>⟨(h.blt id k (D k hk).1 (D k hk).2).1,h.cB id k (D k hk).1 (D k hk).2,h.cellBlk (D k hk).1 (D k hk).2⟩) (λb j hi=>hs b j (h.sub b j hi))
 have blt:∀i b,S.blk i≠ .none->blockOf (ρ i)=some b->b<w.heap.size:=λi b hi hb=>(h.blt i b hi hb).2;refine⟨λt=>?_,λi=>?_,λi T b O hi ag hb=>?_,ak,h.sub,λb j hb=>⟨eU (h.old b j hb).1 hg.size,(h.old b j hb).2⟩,h.size,h.defers.keep λr hr=>(hg.block r (cQ.1 hr).1 (λe=>by
  obtain⟨Y,Z⟩:=D r e.symm;obtain⟨o,hc,hd⟩:=h.cellBlk Y Z;rw[hc] at hr;cases hr;cases hd)).trans hr,h.cI,λi b hi hb=>?_,λi v hv hi=>?_⟩
 ·rw[zVA,z2T]
  exact(h.tmps t).upd hs (λ_ _ h=>h) id u
 ·rw[yO]
  by_cases e:id=i
  ·subst e;simpa using hx
  ·simp only[e,cV]
   rw[zJB];cases hb:S.blk i with
   | none=>trivial
   | _=>
    rw[<-hb];refine(h.blks i).upd hs (λb H=>?_) (λG=>e G.symm) u;have ac:S.blk i≠ .none:=by rw[hb];simp
    refine hg.block b (blt i b ac H) (λhe=>?_);obtain⟨Y,Z⟩:=D b he.symm;exact h.dist i id b (λG=>e G.symm) ac Y H Z
 ·have key:∀i,((S.kill id).setBlk id x).blk i≠ .none->i≠id->S.blk i≠ .none:=by
   intro i hi hn;rw[yO,dK (λe=>hn e.symm),zJB] at hi;intro e;rw[e] at hi;exact hi rfl
  have K:∀i,i≠id->upd ρ id u i= ρ i:=λi hn=>by simp[upd,hn]
  have ad:upd ρ id u id=u:=by simp[upd]
  by_cases e:i=id
  ·have G:T≠id:=λG=>O (e.trans G.symm)
   subst e;rw[ad] at hb;rw[K T G];intro H;rcases hu b hb with ai | ⟨Y,Z⟩
   ·have:=blt T b (key T ag G) H;omega
   ·exact h.dist i T b O Y (key T ag G) Z H
  ·by_cases G:T=id
   ·subst G
    rw[K i e] at hb;rw[ad];intro H;rcases hu b H with ai | ⟨Y,Z⟩
    ·have:=blt i b (key i hi e) hb;omega
    ·exact h.dist i T b O (key i hi e) Y hb Z
   ·rw[K i e] at hb
    rw[K T G];exact h.dist i T b O (key i hi e) (key T ag G) hb
 ·by_cases e:i=id
  ·subst e
   have H:blockOf u=some b:=by simpa[upd] using hb
   rcases hu b H with Y | ⟨Y,Z⟩
   ·intro hc
    have:=E.csize _ _ _ h.frame _ hc;omega
   ·exact h.cB i b Y Z
  ·refine h.cB i b ?_ (by simpa[upd,e] using hb)
   rw[yO,dK (λG=>e G.symm),zJB] at hi;intro G;rw[G] at hi;exact hi rfl
 ·have O:i≠id:=λe=>by rw[e,an] at hv;cases hv
  have:upd ρ id u i= ρ i:=by simp[upd,O]
  rw[this];refine h.nm i v hv ?_;rw[yO,dK (λG=>O G.symm),zJB] at hi;intro G;rw[G] at hi;exact hi rfl
open Go.RowKit
structure OneTy (P:Program) (t:TypeId):Prop where
 agg:∀w,(isAgg t).run P w= .ok false w
 size:∀w,(sizeOf t).run P w= .ok 1 w
structure AggTy (P:Program) (t n:Nat):Prop where
 agg:∀w,(isAgg t).run P w= .ok true w
 size:∀w,(sizeOf t).run P w= .ok n w
structure SlTy (P:Program) (t e size bytes:Nat) (z:Value):Prop where
 und:P.underlying t=some (.slice e)
 info:∃i,P.info? e=some i/\i.zero=some z/\i.size=size/\i.bytes=bytes
 zs:z.cells.size=size
 pos:0<size
 one:∀c∈z.cells.toList,c.oneCell'=true
theorem OneTy.of {P:Program} {t:TypeId} {ds:TypeDesc} (k:P.underlying t=some ds) (D:(match ds with | .struct _ | .array _ _=>true | _=>false)=false) (hi:(P.info? t).map (·.size)=some 1):OneTy P t:=by
 refine⟨λw=>?_,λw=>?_⟩
 · cases ds<;>simp_all [isAgg,dJ k]
 ·
  cases h:P.info? t with
  | none=>simp[h] at hi
  | some i=>simp[h] at hi;simp[sizeOf,typeInfo,h,hi]
theorem AggTy.of {P:Program} {t n:Nat} {ds:TypeDesc} (k:P.underlying t=some ds) (D:(match ds with | .struct _ | .array _ _=>true | _=>false)=true) (hi:(P.info? t).map (·.size)=some n):AggTy P t n:=by
 refine⟨λw=>?_,λw=>?_⟩
 · cases ds<;>simp_all [isAgg,dJ k]
 ·
  cases h:P.info? t with
  | none=>simp[h] at hi
  | some i=>simp[h] at hi;simp[sizeOf,typeInfo,h,hi]
theorem SlTy.of {P:Program} {t e size bytes:Nat} {z:Value} (H:P.underlying t=some (.slice e)) (hi:(P.info? e).map (λi=>(i.zero,i.size,i.bytes))=some (some z,size,bytes))
  (K:z.cells.size=size) (G:0<size) (k:z.cells.toList.all Value.oneCell'=true):SlTy P t e size bytes z:=by
 refine⟨H,?_,K,G,λc D=>dS.1 k c D⟩;cases h:P.info? e with
 | none=>simp[h] at hi
 | some i=>simp[h] at hi;exact⟨i,rfl,hi.1,hi.2.1,hi.2.2⟩
theorem SlTy.size {P:Program} {t e size bytes:Nat} {z:Value} (h:SlTy P t e size bytes z) (w:World):(sizeOf e).run P w= .ok size w:=by obtain⟨i,hi,_,k,_⟩:=h.info;simp[sizeOf,typeInfo,hi,k]
theorem u7 (b off j:Nat):(⟨b,off,none⟩:Addr).add j=⟨b,off+j,none⟩:=by unfold Addr.add;split<;>simp_all
theorem Rep.sl_inv {w:World} {I:Im} {v:Value} {size:Nat} {cells:List DV} (h:Rep w I v (.sl size cells)):
  ∃A n c xs,v= .slice A n c/\n<=c/\cells.length=n*size/\Reps w I xs cells/\(∀x∈xs,x.oneCell'=true)/\
   (0<n->∃b off,A=some ⟨b,off,none⟩/\∀(j:Nat) x,xs[j]? =some x->w.cell? ⟨b,off+j,none⟩=some x/\I b (off+j)):=by
 cases h with
 | nil A c=>exact⟨A,0,c,[],rfl,by omega,by simp,Pw.nil,by simp,λh=>absurd h (by omega)⟩
 | sl b off n c size xs cells T k H O G D K=>exact⟨_,n,c,xs,rfl,by omega,H,⟨O,K⟩,D,λ_=>⟨b,off,rfl,G⟩⟩
theorem zII {n m size:Nat} {cells:List DV} (h:cells.length=n*size) (k:cells.length=m*size) (D:0<size):n=m:=
 Nat.eq_of_mul_eq_mul_right D (h.symm.trans k)
section
variable {P:Program} {r:Option Nat} {E:Env} {S:AState} {d:Nat} {ty:TypeId} {pos:String} {af:Array Edge} {g:Option (Nat×Bool)}
theorem zUJ (w:World) {t e:TypeId} (k:P.underlying t=some (.slice e)) (A:Option Addr) (n c:Nat) (x:Operand) (a:Act) (D:a.eval x= .slice A n c) (o:Oper)
  (h:o.op= .call {callee:= .builtin .len,args:= #[x],argTypes:= #[t]}):(execOp a.eval o).run P w= .ok (.value (.int .i64 n)) w:=by
 unfold execOp;simp only[h,resolve,eO,ez,fI,D];simp[invoke,builtin,Builtin.len_,dJ k,goInt]
theorem z6H {t e size bytes:Nat} {z:Value} {x:Operand} {cells:List DV} {n:Nat} (K:d<E.n) (D:SlTy P t e size bytes z) (Y:S.ev x= .d (.sl size cells)) (H:cells.length=n*size):
  jJ P r E ⟨some d,.call {callee:= .builtin .len,args:= #[x],argTypes:= #[t]},ty,pos,af,g⟩ S (S.put d (.d (.v (.int .i64 n)))):=
 jQ rfl K (by simp) λA w I ρ C O=>by
  have h:=O.ev x;rw[Y] at h;obtain⟨G,Z,c,xs,T,_,k,_⟩:=Rep.sl_inv h;obtain rfl:=zII k H D.pos;exact zUJ w D.und G Z c x A T _ rfl
theorem z0C {t e size bytes:Nat} {z:Value} {x:Operand} {id:Nat} {sh:Bool} {cells:List DV} {n:Nat} (hn:d<E.n) (H:SlTy P t e size bytes z) (hx:S.ev x= .row id) (hb:S.blk id= .row e size sh cells) (hl:cells.length=n*size):
  jJ P r E ⟨some d,.call {callee:= .builtin .len,args:= #[x],argTypes:= #[t]},ty,pos,af,g⟩ S (S.put d (.d (.v (.int .i64 n)))):=
 jQ rfl hn (by simp) λA w I ρ C O=>by
  have h:=O.ev x;rw[hx] at h;have k:=O.blks id;rw[hb] at k;obtain⟨h0,n',xs,K,D,_⟩:=k;obtain rfl:=zII K hl H.pos;have T:A.eval x= ρ id:=h;rcases D.2 with ⟨G,rfl⟩ | ⟨gb,Y,Z,G,_⟩
  ·exact zUJ w H.und _ _ _ x A (T.trans G) _ rfl
  ·exact zUJ w H.und _ _ _ x A (T.trans G) _ rfl
theorem z0D {t:TypeId} {x:Operand} {s:ByteArray} (h:d<E.n) (D:P.underlying t=some .string) (G:S.ev x= .d (.v (.string s))):
  jJ P r E ⟨some d,.call {callee:= .builtin .len,args:= #[x],argTypes:= #[t]},ty,pos,af,g⟩ S (S.put d (.d (.v (.int .i64 s.size)))):=
 jQ rfl h (by simp) λAc w I ρ C k=>by
  simp only[execOp,resolve,eO,ez,fI,k.val G];simp[invoke,builtin,Builtin.len_,dJ D,goInt]
theorem zKJ (w:World) {t e size:Nat} (G:P.underlying t=some (.slice e)) (h:(sizeOf e).run P w= .ok size w) (b off n c:Nat) (H:IntKind) (k:Nat) (D:k<n):
  (Instr.indexAt t (.slice (some ⟨b,off,none⟩) n c) (.int H k)).run P w= .ok (.pointer (some ⟨b,off+k*size,none⟩)) w:=by
 simp[Instr.indexAt,asIntOf,dJ G,h,u7,D]
theorem z0E {t e size bytes:Nat} {z:Value} {x T:Operand} {cells:List DV} {n k:Nat} {Y:IntKind} {i:Int} (hn:d<E.n) (D:SlTy P t e size bytes z) (hx:S.ev x= .d (.sl size cells))
  (hi:S.ev T= .d (.v (.int Y i))) (hk:i=(k:Int)) (hl:cells.length=n*size) (K:k<n):
  jJ P r E ⟨some d,.indexAddr t x T,ty,pos,af,g⟩ S (S.put d (.ip cells (k*size))):=
 zY rfl hn (by simp) λA w I ρ C O=>by
  subst hk;have h:=O.ev x;rw[hx] at h;obtain⟨A',n',c,xs,hv,_,H,hr,Z,hc⟩:=Rep.sl_inv h;obtain rfl:=zII H hl D.pos;obtain⟨b,off,rfl,G⟩:=hc (by omega);refine⟨_,?_,b,off,xs,rfl,hr,Z,G⟩;simp only[execOp,hv,O.val hi,cS,zKJ w D.und (D.size w) b off n' c Y k K];rfl
theorem zVC {t e size bytes:Nat} {z:Value} {x ix:Operand} {id:Nat} {sh:Bool} {cells:List DV} {n k:Nat} {kk:IntKind} {i:Int} (hn:d<E.n) (T:SlTy P t e size bytes z) (hx:S.ev x= .row id)
  (hb:S.blk id= .row e size sh cells) (hi:S.ev ix= .d (.v (.int kk i))) (hk:i=(k:Int)) (hl:cells.length=n*size) (G:k<n):
  jJ P r E ⟨some d,.indexAddr t x ix,ty,pos,af,g⟩ S (S.put d (.ptr id (k*size))):=
 zY rfl hn (by simp) λA w I ρ C Z=>by
  subst hk;have h:=Z.ev x;rw[hx] at h;have hv:A.eval x= ρ id:=h;have D:=Z.blks id;rw[hb] at D;obtain⟨h0,n',xs,Y,H,_⟩:=D;obtain rfl:=zII Y hl T.pos;rcases H.2 with ⟨O,rfl⟩ | ⟨gb,K,ad,O,_⟩
  ·exact absurd G (by omega)
  ·refine⟨_,?_,gb,by rw[O];rfl,rfl⟩
   simp only[execOp,hv,O,Z.val hi,cS,zKJ w T.und (T.size w) gb 0 n' K kk k G];simp
theorem zHN (w:World) {t:TypeId} (h:OneTy P t) (b off:Nat) (v:Value) (k:w.cell? ⟨b,off,none⟩=some v):(Instr.loadAt t (.pointer (some ⟨b,off,none⟩))).run P w= .ok v w:=by simp[Instr.loadAt,Instr.sureAddr,loadVar,h.agg,run_load,k]
theorem zEB (w:World) {t n:Nat} (h:AggTy P t n) (b off:Nat) (vs:List Value) (G:vs.length=n) (k:∀j v,vs[j]? =some v->w.cell? ⟨b,off+j,none⟩=some v):
  (Instr.loadAt t (.pointer (some ⟨b,off,none⟩))).run P w= .ok (.agg vs.toArray) w:=by
 subst G;have:=run_loadCells_list (P:=P) w ⟨b,off,none⟩ vs (λj v D=>by rw[u7];exact k j v D)
 simp[Instr.loadAt,Instr.sureAddr,loadVar,h.agg,h.size,this]
theorem z0F {t:TypeId} {x:Operand} {cells:List DV} {off:Nat} {e:DV} (T:d<E.n) (O:OneTy P t) (hx:S.ev x= .ip cells off) (H:cells[off]? =some e):
  jJ P r E ⟨some d,.load t x,ty,pos,af,g⟩ S (S.put d (.d e)):=
 zY rfl T (by simp) λA w I ρ C Y=>by
  have h:=Y.ev x;rw[hx] at h;obtain⟨b,o,xs,Z,K,h1,D⟩:=h;have G:off<xs.length:=by rw[K.1];exact(cX.1 H).1
  have k:=cO G;refine⟨xs[off],?_,K.2 off _ e k H⟩;simp only[execOp,Z,cS,zHN w O b (o+off) _ (D off _ k).1];rfl
theorem zXF {t n:Nat} {x:Operand} {cells:List DV} {off:Nat} {es:List DV} (hn:d<E.n) (hT:AggTy P t n) (k:S.ev x= .ip cells off) (T:(cells.drop off).take n=es) (Y:es.length=n):
  jJ P r E ⟨some d,.load t x,ty,pos,af,g⟩ S (S.put d (.d (.agg es))):=
 zY rfl hn (by simp) λA w I ρ C hs=>by
  have h:=hs.ev x;rw[k] at h;obtain⟨b,o,xs,hv,Z,h1,K⟩:=h;have D:((xs.drop off).take n).length=n:=by
   have:((cells.drop off).take n).length=n:=by rw[T];exact Y
   simp only[dZ,eH] at this ⊢;rw[Z.1];exact this
  refine⟨.agg ((xs.drop off).take n).toArray,?_,.agg _ _ (by rw[D,Y]) (λx k=>h1 x (eP (eC k))) (λj x e k H=>?_)⟩
  ·simp only[execOp,hv,cS]
   rw[zEB w hT b (o+off) _ D]
   ·rfl
   ·intro j v G
    rw[d5] at G;split at G
    ·rw[eT] at G
     rw[fX];exact(K _ v G).1
    ·cases G
  ·subst T
   rw[d5] at k H;split at k
   ·rename_i O
    rw[dI O] at H;rw[eT] at k H;exact Z.2 _ x e k H
   ·cases k
theorem zXG {t:TypeId} {x:Operand} {id off eb:Nat} {cells:List AV} {av:AV} (hn:d<E.n) (hT:OneTy P t) (hx:S.ev x= .ptr id off) (hb:S.blk id= .box eb cells) (T:cells[off]? =some av):
  jJ P r E ⟨some d,.load t x,ty,pos,af,g⟩ S (S.put d av):=
 zY rfl hn (by simp) λA w I ρ C Z=>by
  have h:=Z.ev x;rw[hx] at h;obtain⟨b,k,hv⟩:=h;have D:=Z.blks id;rw[hb] at D;obtain⟨O,arr,H,hB,hh,h1,Y,hI⟩:=D;rw[H] at k;simp[blockOf] at k;subst k;have G:off<arr.size:=by rw[<-eM,Y.1];exact(cX.1 T).1
  have K:arr[off]? =some arr[off]:=fO G;refine⟨arr[off],?_,Y.2 off _ av (by simp[G]) T⟩;simp only[execOp,hv,cS];rw[zHN w hT O off arr[off] (by rw[fb w O off arr eb (0,0) hh];exact K)]
  rfl
theorem zYN {w:World} {I:Im} {ρ:Nat->Value} {M:Nat->Prop} {id e size:Nat} {Z:Bool} {cells:List DV} (h:BlkOk w I ρ M id (.row e size Z cells)) {b:Nat} (hb:blockOf (ρ id)=some b):
  ∃xs,Reps w I xs cells/\(∀x∈xs,x.oneCell'=true)/\∀(j:Nat) x,xs[j]? =some x->w.cell? ⟨b,j,none⟩=some x:=by
 obtain⟨h0,n',xs,T,k,D,Y,_⟩:=h;refine⟨xs,Y,D,λj x O=>?_⟩;rcases k.2 with ⟨D,rfl⟩ | ⟨K,G,H,D,_⟩
 ·rw[D] at hb;cases hb
 ·rw[D] at hb
  simp[blockOf] at hb;subst hb;have:=k.cells (g:=K) (by rw[D];rfl) j x O
  rw[u7] at this;simpa using this
theorem zXH {t:TypeId} {x:Operand} {id off e size:Nat} {sh:Bool} {cells:List DV} {y:DV} (hn:d<E.n) (Z:OneTy P t) (hx:S.ev x= .ptr id off) (hb:S.blk id= .row e size sh cells) (O:cells[off]? =some y):
  jJ P r E ⟨some d,.load t x,ty,pos,af,g⟩ S (S.put d (.d y)):=
 zY rfl hn (by simp) λA w I ρ C Y=>by
  have h:=Y.ev x;rw[hx] at h;obtain⟨b,K,hv⟩:=h;have k:=Y.blks id;rw[hb] at k;obtain⟨xs,T,h1,G⟩:=zYN k K;have H:off<xs.length:=by rw[T.1];exact(cX.1 O).1
  have D:=cO H;refine⟨xs[off],?_,T.2 off _ y D O⟩;simp only[execOp,hv,cS,zHN w Z b off _ (G off _ D)];rfl
theorem zVD {t n:Nat} {x:Operand} {id off e size:Nat} {sh:Bool} {cells es:List DV} (hn:d<E.n) (hT:AggTy P t n) (k:S.ev x= .ptr id off) (hb:S.blk id= .row e size sh cells)
  (Z:(cells.drop off).take n=es) (hl:es.length=n):
  jJ P r E ⟨some d,.load t x,ty,pos,af,g⟩ S (S.put d (.d (.agg es))):=
 zY rfl hn (by simp) λA w I ρ C hs=>by
  have h:=hs.ev x;rw[k] at h;obtain⟨b,Y,hv⟩:=h;have G:=hs.blks id;rw[hb] at G;obtain⟨xs,hr,h1,O⟩:=zYN G Y;have D:((xs.drop off).take n).length=n:=by
   have:((cells.drop off).take n).length=n:=by rw[Z];exact hl
   simp only[dZ,eH] at this ⊢;rw[hr.1];exact this
  refine⟨.agg ((xs.drop off).take n).toArray,?_,.agg _ _ (by rw[D,hl]) (λx k=>h1 x (eP (eC k))) (λj x e k K=>?_)⟩
  ·simp only[execOp,hv,cS]
   rw[zEB w hT b off _ D]
   ·rfl
   ·intro j v H
    rw[d5] at H;split at H
    ·rw[eT] at H
     exact O _ v H
    ·cases H
  ·subst Z
   rw[d5] at k K;split at k
   ·rename_i T
    rw[dI T] at K;rw[eT] at k K;exact hr.2 _ x e k K
   ·cases k
theorem zGS {o:Oper} {S':AState} (D:o.dst=none) (k:∀c,o.op≠ .defer c)
  (h:∀a w I ρ C,SatAt E S a w I ρ C->∃w',(execOp a.eval o).run P w= .ok .skip w'/\Sat E S' a w'):jJ P r E o S S':=by
 rintro a w K Q ⟨I,ρ,C,O⟩ G
 obtain⟨w',H,T⟩:=h a w I ρ C O;refine⟨λf _=>trivial,?_⟩;rw[Oper.semAt_eq _ _ _ k,H];refine G _ _ ?_;rw[D];exact T
theorem zLG {v:Value} (h:v.oneCell'=true):v.cells= #[v]:=by cases v<;>simp_all [Value.oneCell',Value.cells]
theorem zVE (w:World) {t:TypeId} (G:OneTy P t) {b off e:Nat} {arr:Array Value} {v:Value} (H:w.heap[b]? =some (.cells arr e (0,0))) (h:off<arr.size) (k:v.oneCell'=true):
  (Instr.storeAt t (.pointer (some ⟨b,off,none⟩)) v).run P w= .ok () (w.setRow b (arr.toList.set off v).toArray):=by
 have:=run_storeCells_at P b off e [v] 0 arr w H (by simp;omega) (by simpa using k)
 have D:arr.toList.take off++ [v]++arr.toList.drop (off+1)=arr.toList.set off v:=by
  rw[gA,dI (by simpa using h)];simp
 simp only[fJ,hJ,D] at this;simp[Instr.storeAt,Instr.sureAddr,storeVar,G.size,zLG k,this]
theorem zVF (w:World) {t n:Nat} (D:AggTy P t n) {b off e:Nat} {arr:Array Value} {vs:List Value} (G:w.heap[b]? =some (.cells arr e (0,0))) (h:off+n<=arr.size) (H:vs.length=n) (k:∀v∈vs,v.oneCell'=true):
  (Instr.storeAt t (.pointer (some ⟨b,off,none⟩)) (.agg vs.toArray)).run P w= .ok () (w.setRow b (arr.toList.take off++vs++arr.toList.drop (off+n)).toArray):=by
 subst H;have:=run_storeCells_at P b off e vs 0 arr w G (by simpa using h) k;simp only[fJ] at this;simp only[Instr.storeAt,Instr.sureAddr,storeVar,cS,dV,cW,D.size,Value.cells];simp[this]
theorem zCJ (w:World) (b:Nat) (arr:Array Value):w.grownBy (w.setRow b arr) (some b):=
 ⟨rfl,rfl,rfl,by simp,λk _ h=>setRow_other w b k arr (λe=>h (by rw[e]))⟩
theorem vS {w:World} {I:Im} {b:Nat} {arr:Array Value} (h:∀j,¬I b j):Same I w (w.setRow b arr):=by intro k j hi;have:k≠b:=λe=>h j (e▸hi);exact KeepB.of (setRow_other w b k arr this)
def AV.one:AV->Bool
 | .d (.v u)=>u.oneCell'
 | .d (.sl _ _)=>true
 | .d (.pt _)=>true
 | .d (.fn _ _)=>true
 | .d (.bm _ _)=>true
 | .d (.mp _ _)=>true
 | .row _=>true
 | .ptr _ _=>true
 | .clo _ _=>true
 | _=>false
theorem zPU {w:World} {I:Im} {ρ:Nat->Value} {M:Nat->Prop} {S:AState} (hb:∀id,BlkOk w I ρ M id (S.blk id)) {v:Value} {av:AV} (h:Holds w I ρ v av) (Y:av.one=true)
  (hr:∀id,av= .row id->S.blk id≠ .none):v.oneCell'=true:=by
 cases av with
 | d x=>
  cases x with
  | v u=>cases h;simpa[AV.one] using Y
  | sl s c=>obtain⟨A,n,c,xs,rfl,_⟩:=Rep.sl_inv h;rfl
  | agg c=>simp[AV.one] at Y
  | pt c=>cases h;rfl
  | fn f c=>cases h;rfl
  | bm f c=>cases h;rfl
  | mp ks vs=>cases h;rfl
 | row id=>
  have H:v= ρ id:=h;have D:=hb id;cases O:S.blk id with
  | none=>exact absurd O (hr id rfl)
  | row e size sh cells=>
   rw[O] at D;obtain⟨_,n,xs,hl,T,_⟩:=D;rcases T.2 with ⟨G,_⟩ | ⟨g,ac,ad,G,_⟩<;>rw[H,G]<;>rfl
  | box e cells=>
   rw[O] at D;obtain⟨Z,arr,G,_⟩:=D;rw[H,G];rfl
  | map es=>
   rw[O] at D;obtain⟨Z,ents,K,G,_⟩:=D;rw[H,G];rfl
  | it es q=>
   rw[O] at D;obtain⟨Z,bm,ents,K,ab,G,_⟩:=D;rw[H,G];rfl
  | win e size k cells=>
   rw[O] at D;obtain⟨A,n,c,xs,G,_⟩:=D;rw[H,G];rfl
 | ptr id off=>obtain⟨b,_,H⟩:=h;rw[H];rfl
 | clo f aa=>obtain⟨xs,H,_⟩:=h;rw[H];rfl
 | _=>simp[AV.one] at Y
def zS6 (S:AState):AV->Bool
 | .row id=>match S.blk id with | .none=>false | _=>true
 | _=>true
theorem zL6 {S:AState} {av:AV} (h:zS6 S av=true):∀id,av= .row id->S.blk id≠ .none:=by
 rintro id rfl e
 simp[zS6,e] at h
theorem zJC {t:TypeId} {x y:Operand} {id off eb:Nat} {cells:List AV} (hT:OneTy P t) (hx:S.ev x= .ptr id off) (hb:S.blk id= .box eb cells) (ac:off<cells.length)
  (h1:(S.ev y).one=true) (hr:zS6 S (S.ev y)=true) (hE:E.wrB=true):
  jJ P r E ⟨none,.store t x y,ty,pos,af,g⟩ S (S.setBlk id (.box eb (cells.set off (S.ev y)))):=
 zGS rfl (by simp) λA w I ρ C Y=>by
  have h:=Y.ev x;rw[hx] at h;obtain⟨b,G,hv⟩:=h;have K:=Y.blks id;rw[hb] at K;obtain⟨H,arr,D,hB,hh,aa,T,Z⟩:=K;have ab:H=b:=by rw[D] at G;simpa[blockOf] using G
  subst ab;have hy:=Y.ev y;have k:=zPU Y.blks hy h1 (zL6 hr);have O:off<arr.size:=by rw[<-eM,T.1];exact ac
  refine⟨w.setRow H (arr.toList.set off (A.eval y)).toArray,?_,I,ρ,C,Y.modify (zCJ w H _) (by rw[hb];simp) G (vS Z) ⟨H,_,D,hB,iy w H arr _ eb _ hh,?_,?_,Z⟩ hE⟩
  ·simp only[execOp,hv,cS,zVE w hT hh O k]
   rfl
  ·intro u hu
   simp only at hu;rcases gx hu with hu | hu
   ·exact aa u hu
   ·rw[hu];exact k
  ·exact(T.imp λ_ _ h=>h.mono (vS Z) (λ_ _ h=>h)).set (hy.mono (vS Z) (λ_ _ h=>h)) off
theorem zVG {t:TypeId} {x y:Operand} {id off e size:Nat} {cells:List DV} {u:DV} (hT:OneTy P t) (hx:S.ev x= .ptr id off) (hb:S.blk id= .row e size false cells) (ac:off<cells.length)
  (hy:S.ev y= .d u) (h1:(AV.d u).one=true) (hE:E.wrB=true):
  jJ P r E ⟨none,.store t x y,ty,pos,af,g⟩ S (S.setBlk id (.row e size false (cells.set off u))):=
 zGS rfl (by simp) λA w I ρ C hs=>by
  have h:=hs.ev x;rw[hx] at h;obtain⟨b,k,hv⟩:=h;have aa:=hs.blks id;rw[hb] at aa;obtain⟨h0,n,xs,hl,H,aj,am,hI⟩:=aa;have Y:=hs.ev y;rw[hy] at Y;have G:=zPU hs.blks Y h1 (by intro _ e;cases e)
  rcases H.2 with ⟨Z,_⟩ | ⟨O,ai,K,Z,hB,hh,ag,al,ab,an⟩
  ·rw[Z] at k;cases k
  ·have ak:O=b:=by rw[Z] at k;simpa[blockOf] using k
   subst ak;have D:∀j,¬I O j:=λj hj=>by have:=(hI O j (by rw[Z];rfl) hj).1;cases this
   have ap:xs.length=n*size:=H.1;have ad:off<K.size:=by rw[ab];rw[hl] at ac;exact eU ac (dT _ ag)
   refine⟨w.setRow O (K.toList.set off (A.eval y)).toArray,?_,I,ρ,C,hs.modify (zCJ w O _) (by rw[hb];simp) k (vS D) ⟨h0,n,xs.set off (A.eval y),by simp[hl],⟨by simp[ap],.inr ⟨O,ai,_,Z,hB,iy w O K _ e _ hh,ag,al,?_,?_⟩⟩,?_,?_,?_⟩ hE⟩
   ·simp only[execOp,hv,cS,zVE w hT hh ad G]
    rfl
   ·simp[ab]
   ·simp only[List.take_set,an]
   ·intro v ao
    rcases gx ao with hu | hu
    ·exact aj v hu
    ·rw[hu];exact G
   ·exact(am.imp λ_ _ h=>h.mono (vS D) (λ_ _ h=>h)).set (Rep.mono Y (vS D) (λ_ _ h=>h)) off
   ·intro g' j T hi
    rw[Z] at T;simp[Value.ownBlock] at T;subst T;exact absurd hi (D j)
theorem zVH (w:World) (o:Obj) {b:Nat} (h:b<w.heap.size):(w.alloc o).heap[b]? =w.heap[b]?:=(World.grownBy_alloc w o none).block b h (by simp)
theorem zJD (w:World) (o:Obj):w.grownBy (w.alloc o) none:=World.grownBy_alloc w o none
theorem zFK {w:World} {I:Im} (o:Obj) (h:∀b j,I b j->b<w.heap.size):Same I w (w.alloc o):=λb j hi=>KeepB.of (zVH w o (h b j hi))
theorem SatAt.newRow {A:Act} {w:World} {I:Im} {ρ:Nat->Value} {C:Nat->Prop} (T:SatAt E S A w I ρ C) {id e size n c:Nat} {xs rest:List Value} {cells:List DV} (hp:0<size) (Y:cells.length=n*size) (hc:n<=c) (H:c<=maxLen)
  (hr:rest.length=(c-n)*size) (D:Reps w I xs cells) (h1:∀x∈xs,x.oneCell'=true) (O:E.nm id=none):
  SatAt E ((S.kill id).setBlk id (.row e size false cells)) A (w.alloc (.cells (xs++rest).toArray e)) I (upd ρ id (.slice (some ⟨w.heap.size,0,none⟩) n c)) C:=by
 have G:∀b j,I b j->b<w.heap.size:=λb j h=>(T.old b j h).1;have k:xs.length=n*size:=by rw[D.1,Y]
 refine T.update (zJD w _) (by simp) (zFK _ G) (λb hb=> .inl (by simp[blockOf] at hb;omega)) ⟨⟨hp,λg hg=>E.mineB g (by simp[upd,Value.ownBlock] at hg;have:=E.size _ _ _ T.frame;omega)⟩,n,xs,Y,?_,h1,D.mono (zFK _ G) (λ_ _ h=>h),?_⟩ (.inl rfl) O
 ·have Z:upd ρ id (.slice (some ⟨w.heap.size,0,none⟩) n c) id= .slice (some ⟨w.heap.size,0,none⟩) n c:=by simp[upd]
  rw[Z];refine⟨k,.inr ⟨w.heap.size,c,_,rfl,gH _,gV w _,hc,H,?_,?_⟩⟩
  ·simp only[fW,cU,k,hr,<-eG]
   congr 1;omega
  ·rw[<-k]
   exact gW
 ·intro g' j K hi
  simp[upd,Value.ownBlock] at K;have:=G g' j hi;omega
theorem SatAt.newBox {A:Act} {w:World} {I:Im} {ρ:Nat->Value} {C:Nat->Prop} (T:SatAt E S A w I ρ C) {id e:Nat} {arr:Array Value} {cells:List AV} (D:Pw (Holds w I ρ) arr.toList cells) (Y:∀x∈arr.toList,x.oneCell'=true) (O:E.nm id=none):
  SatAt E ((S.kill id).setBlk id (.box e (cells.map (zFJ id)))) A (w.alloc (.cells arr e)) I (upd ρ id (.pointer (some ⟨w.heap.size,0,none⟩))) C:=by
 have H:∀b j,I b j->b<w.heap.size:=λb j h=>(T.old b j h).1;refine T.update (zJD w _) (by simp) (zFK _ H) (λb hb=> .inl (by simp[blockOf] at hb;omega)) ⟨w.heap.size,arr,by simp[upd],E.mineB _ (E.size _ _ _ T.frame),gV w _,Y,⟨by simpa using D.1,λj x av hx k=>?_⟩,λj Z=>by have:=H _ j Z;omega⟩ (.inl rfl) O
 rw[dX] at k;cases K:cells[j]? with
 | none=>simp[K] at k
 | some G=>
  simp[K] at k;subst k;exact(D.2 j x G hx K).upd (zFK _ H) (λ_ _ h=>h) id _
def dvs (vs:List Value):List AV:=vs.map λv=> .d (.v v)
theorem yBK (w:World) (I:Im) (ρ:Nat->Value) (vs:List Value):Pw (Holds w I ρ) vs (dvs vs):=by refine⟨by simp[dvs],λj x y k h=>?_⟩;simp[dvs,k] at h;subst h;exact .v x
theorem yEN (id:Nat) (vs:List Value):(dvs vs).map (zFJ id)=dvs vs:=by simp[dvs,zFJ,AV.mentions]
theorem kH {h:TypeId} {zs:List Value} (K:d<E.n) (D:((P.info? h).bind (·.zero)).map (·.cells.toList)=some zs) (H:zs.all Value.oneCell'=true) (G:E.nm d=none):
    jJ P r E ⟨some d,.alloc h,ty,pos,af,g⟩ S (((S.kill d).setBlk d (.box h (dvs zs))).put d (.ptr d 0)):=
  zAM (by simp) λA w I ρ C O=>by
    cases hi:P.info? h with
    | none=>simp[hi] at D
    | some i=>
      cases k:i.zero with
      | none=>simp[hi,k] at D
      | some z=>
        simp[hi,k] at D;have hb:=O.newBox (id:=d) (e:=h) (arr:=z.cells) (cells:=dvs zs) (by rw[D];exact yBK _ _ _ _) (by rw[D];exact λx T=>dS.1 H x T) G
        rw[yEN] at hb;refine⟨.pointer (some ⟨w.heap.size,0,none⟩),w.alloc (.cells z.cells h),?_,I,_,C,hb.put K ⟨w.heap.size,by simp[upd,blockOf],rfl⟩⟩;simp[execOp,Instr.alloc,zeroValue,typeInfo,hi,k,newVar,newRow]
end
open Go.RowKit
def AState.dv (S:AState):AV->Option DV
 | .d x=>some x
 | .row id=>match S.blk id with
  | .row _ size _ cells=>some (.sl size cells)
  | _=>none
 | _=>none
def AState.shareAV (S:AState):AV->AState
 | .row id=>match S.blk id with
  | .row e size _ cells=>S.setBlk id (.row e size true cells)
  | _=>S
 | _=>S
theorem zXI {w:World} {B e size n:Nat} {v:Value} {xs:List Value} (h:w.ownsRow B e size v n xs) {b:Nat} (hb:v.ownBlock=some b):∃arr G H,w.heap[b]? =some (.cells arr G H):=by rcases h.2 with ⟨O,_⟩ | ⟨g,k,D,T,Y,K,_⟩;rw[O] at hb;simp[Value.ownBlock] at hb;rw[T] at hb;simp[Value.ownBlock] at hb;subst hb;exact⟨_,_,_,K⟩
theorem k7 (I:Im) (w:World):Same I w w:=λ_ _ _=>KeepB.refl
theorem SatAt.shareRow {E:Env} {S:AState} {a:Act} {w:World} {I:Im} {ρ:Nat->Value} {C:Nat->Prop} (h:SatAt E S a w I ρ C) {id e size:Nat} {sh:Bool} {cells:List DV} (hb:S.blk id= .row e size sh cells):
  ∃T:Im,(∀b j,I b j->T b j)/\SatAt E (S.setBlk id (.row e size true cells)) a w T ρ C/\Rep w T (ρ id) (.sl size cells):=by
 have hk:=h.blks id;rw[hb] at hk;obtain⟨hp,n,xs,Y,H,h1,K,hI⟩:=hk;have D:S.blk id≠ .none:=by rw[hb];simp
 let T:Im:=λb j=>I b j\/((ρ id).ownBlock=some b/\j<cells.length)
 have k:∀b j,I b j->T b j:=λb j hi=> .inl hi;refine⟨T,k,⟨λt=>(h.tmps t).mono (k7 I w) k,λi=>?_,λi i' b O hi ac=>?_,h.frame,λb j hi=>k b j (h.sub b j hi),λb j hi=>?_,h.size,h.defers,λb j hi=>?_,λi b hi aa=>?_,λi v hv hi=>h.nm i v hv ?_⟩,?_⟩
 ·rw[yO]
  by_cases G:id=i
  ·subst G
   simp only[dG];refine⟨hp,n,xs,Y,H,h1,K.mono (k7 I w) k,λg j hg hi=>⟨rfl,?_⟩⟩;rcases hi with hi | ⟨_,hi⟩
   ·exact(hI g j hg hi).2
   ·exact hi
  ·simp only[G,cV]
   refine(h.blks i).widenI k λb j hx ab hi=>?_;rcases hi with hi | ⟨hi,_⟩
   ·exact hi
   ·exact absurd ab (h.dist id i b G D hx (zBZ hi))
 ·have key:∀i,(S.setBlk id (.row e size true cells)).blk i≠ .none->S.blk i≠ .none:=by
   intro i hi;rw[yO] at hi;by_cases G:id=i
   ·subst G;exact D
   ·simpa[G] using hi
  exact h.dist i i' b O (key i hi) (key i' ac)
 ·rcases hi with hi | ⟨hi,_⟩
  ·exact h.old b j hi
  ·have:=h.blt id b D (zBZ hi)
   exact⟨this.2,.inr this.1⟩
 ·rcases hi with hi | ⟨hi,_⟩
  ·exact h.cI b j hi
  ·exact h.cB id b D (zBZ hi)
 ·refine h.cB i b ?_ aa
  rw[yO] at hi;by_cases G:id=i
  ·subst G;exact D
  ·simpa[G] using hi
 ·rw[yO] at hi
  by_cases G:id=i
  ·subst G;exact D
  ·simpa[G] using hi
 ·rcases H.2 with ⟨O,rfl⟩ | ⟨gb,Z,al,O,hB,hh,ad,ao,ap,au⟩
  ·have:cells= []:=cP (by simpa using Y)
   subst this;rw[O];exact .nil _ _ _
  ·rw[O]
   by_cases h0:n=0
   ·subst h0
    have:cells= []:=cP (by simpa using Y);subst this;exact .nil _ _ _
   ·refine .sl gb 0 n Z size xs cells (by omega) ad Y K.1 (λj x hj=>⟨?_,.inr ⟨by rw[O];rfl,?_⟩⟩) h1 (K.mono (k7 I w) k).2
    ·have:=H.cells (g:=gb) (by rw[O];rfl) j x hj
     rw[u7] at this;exact this
    ·rw[<-K.1,eE]
     exact(cX.1 hj).1
theorem SatAt.dv {E:Env} {S:AState} {a:Act} {w:World} {I:Im} {ρ:Nat->Value} {C:Nat->Prop} (h:SatAt E S a w I ρ C) {v:Value} {x:AV} {y:DV} (K:Holds w I ρ v x) (D:S.dv x=some y):
  ∃G:Im,(∀b j,I b j->G b j)/\SatAt E (S.shareAV x) a w G ρ C/\Rep w G v y:=by
 cases x with
 | d z=>simp[AState.dv] at D;subst D;exact⟨I,λ_ _ h=>h,h,K⟩
 | row id=>
  simp only[AState.dv] at D;cases hb:S.blk id with
  | row e size Z cells=>
   rw[hb] at D;simp at D;subst D;obtain⟨G,O,T,Y⟩:=h.shareRow hb;have H:v= ρ id:=K;refine⟨G,O,?_,by rw[H];exact Y⟩
   simp only[AState.shareAV,hb];exact T
  | none=>rw[hb] at D;simp at D
  | box e c=>rw[hb] at D;simp at D
  | map es=>rw[hb] at D;simp at D
  | it es q=>rw[hb] at D;simp at D
  | win e s k c=>rw[hb] at D;simp at D
 | _=>simp[AState.dv] at D
theorem zVI (S:AState) (x y:AV):(S.shareAV x).dv y=S.dv y:=by
 unfold AState.shareAV;split;rename_i id;split;rename_i e size k cells hb;cases y with
 | row i=>
  simp only[AState.dv,yO];by_cases h:id=i;subst h;simp[hb];simp[h]
 | _=>rfl
 rfl;rfl
def AState.dvL (S:AState):List AV->Option (List DV)
 | []=>some []
 | x::r=>match S.dv x,S.dvL r with
  | some y,some ys=>some (y::ys)
  | _,_=>none
def AState.shareL (S:AState):List AV->AState
 | []=>S
 | x::r=>(S.shareAV x).shareL r
theorem zYO (S:AState) (x:AV) (l:List AV):(S.shareAV x).dvL l=S.dvL l:=by
 induction l with
 | nil=>rfl
 | cons y l h=>simp only[AState.dvL,zVI,h]
theorem SatAt.dvL {E:Env} {a:Act} {w:World} {ρ:Nat->Value} {C:Nat->Prop} (l:List AV):∀{S:AState} {I:Im} (_:SatAt E S a w I ρ C) {vs:List Value} {ds:List DV} (_:Pw (Holds w I ρ) vs l) (_:S.dvL l=some ds),
  ∃H:Im,(∀b j,I b j->H b j)/\SatAt E (S.shareL l) a w H ρ C/\Reps w H vs ds:=by
 induction l with
 | nil=>
  intro S I h vs ds D k;simp[AState.dvL] at k;subst k;have:vs= []:=cP D.1;subst this;exact⟨I,λ_ _ h=>h,h,Pw.nil⟩
 | cons x l ih=>
  intro S I h vs ds D k;cases vs with
  | nil=>have:=D.1;simp at this
  | cons v vs=>
   simp only[AState.dvL] at k;cases G:S.dv x with
   | none=>simp[G] at k
   | some y=>
    cases K:S.dvL l with
    | none=>simp[G,K] at k
    | some ys=>
     simp[G,K] at k;subst k;obtain⟨T,Y,h2,h3⟩:=h.dv (D.2 0 v x rfl rfl) G;have O:Pw (Holds w T ρ) vs l:=⟨by have:=D.1;simpa using this,λj u z hu hz=>(D.2 (j+1) u z (by simpa using hu) (by simpa using hz)).mono (k7 I w) Y⟩
     obtain⟨I2,Z,h5,h6⟩:=ih h2 O (by rw[zYO];exact K)
     exact⟨I2,λb j hi=>Z b j (Y b j hi),h5,Pw.cons (h3.mono (k7 T w) Z) h6⟩
def z2U (w:World) (I:Im) (v:Value):List DV->Prop
 | [y]=>Rep w I v y
 | ys=> ∃xs,v= .tuple xs.toArray/\Reps w I xs ys
def gdNames:List (String×List Value):=[("unicodetext/ordering.hangulRanges",[.int .i64 4352,.int .i64 4370,.int .i64 4449,.int .i64 4469,.int .i64 4520,.int .i64 4546,.int .i64 44032,.int .i64 55203]),("internal/strconv.uint64pow10",[.int .u64 1,.int .u64 10,.int .u64 100,.int .u64 1000,.int .u64 10000,.int .u64 100000,.int .u64 1000000,.int .u64 10000000,.int .u64 100000000,.int .u64 1000000000,.int .u64 10000000000,.int .u64 100000000000,.int .u64 1000000000000,.int .u64 10000000000000,.int .u64 100000000000000,.int .u64 1000000000000000,.int .u64 10000000000000000,.int .u64 100000000000000000,.int .u64 1000000000000000000,.int .u64 10000000000000000000])]
def zAS (P:Program) (g:Nat):Option (List Value):=(gdNames.find? λp=>P.globalNamed p.1==some g).map Prod.snd
def zC (P:Program) (f:FuncId) (ds D:List DV):Prop:=
 (∃k,P.funcs[f]? =some k/\(k.name== "runtime.NumGoroutine")=false/\k.body.isNone=false)/\
 ∀(w:World) (I:Im) (vs:List Value),(∀b j,I b j->b<w.heap.size)->GlI (zAS P) w I->Reps w I vs ds->
  Calls P f vs.toArray w λe w'=> ∃v h,e= .returned v/\Below w.heap.size w w'/\(∀b j,I b j->h b j)/\(∀b j,h b j->b<w'.heap.size/\(I b j\/w.heap.size<=b))/\z2U w' h v D
def zYP:List DV->AV
 | [y]=> .d y
 | ys=> .tup ys
theorem zNL {w:World} {I:Im} {ρ:Nat->Value} {v:Value}:∀{k:List DV},z2U w I v k->Holds w I ρ v (zYP k)
 | [],h=>h
 | [_],h=>h
 | _::_::_,h=>h
section
variable {P:Program} {r:Option Nat} {E:Env} {S:AState} {d:Nat} {ty:TypeId} {pos:String} {af:Array Edge} {g:Option (Nat×Bool)}
theorem SatAt.widen {a:Act} {w:World} {I G:Im} {ρ:Nat->Value} {C:Nat->Prop} {B:Nat} (h:SatAt E S a w I ρ C) (D:∀b j,I b j->G b j) (k:∀b j,G b j->b<w.heap.size/\(I b j\/B<=b))
  (K:∀i b,S.blk i≠ .none->blockOf (ρ i)=some b->b<B) (T:E.B<=B) (O:∀b,C b->b<B):SatAt E S a w G ρ C:=by
 refine⟨λt=>(h.tmps t).mono (k7 I w) D,λi=>?_,h.dist,h.frame,λb j hi=>D b j (h.sub b j hi),λb j hi=>⟨(k b j hi).1,?_⟩,h.size,h.defers,λb j hi=>?_,h.cB,h.nm⟩
 ·refine(h.blks i).widenI D λb j Z H hi=>?_
  rcases (k b j hi).2 with hi | hi
  ·exact hi
  ·have:=K i b Z H;omega
 ·rcases (k b j hi).2 with hi | hi
  ·exact(h.old b j hi).2
  ·exact .inr (E.mineB b (by omega))
 ·rcases (k b j hi).2 with hi | hi
  ·exact h.cI b j hi
  ·intro Y;have:=O b Y;omega
theorem zB9 {A:Act} {w:World} {I:Im} {ρ:Nat->Value} {C:Nat->Prop} (h:SatAt E S A w I ρ C) (xs:List Operand):Pw (Holds w I ρ) (xs.map A.eval) (xs.map S.ev):=by
 induction xs with
 | nil=>exact Pw.nil
 | cons x xs k=>exact Pw.cons (h.ev x) k
theorem zYQ {f:FuncId} {xs:List Operand} {ats:Array TypeId} {ds rs:List DV} (hn:d<E.n) (ac:S.dvL (xs.map S.ev)=some ds) (hc:zC P f ds rs) (hG:E.gdt=zAS P:=by rfl):
  jJ P r E ⟨some d,.call {callee:= .value (.func f),args:=xs.toArray,argTypes:=ats},ty,pos,af,g⟩ S ((S.shareL (xs.map S.ev)).put d (zYP rs)):=by
 rintro A w K Q ⟨I,ρ,C,hs⟩ hk
 obtain⟨⟨fn,hf,D,h⟩,k⟩:=hc;obtain⟨I1,h1,G,h3⟩:=SatAt.dvL _ hs (zB9 hs xs) ac;have ab:=k w I1 (xs.map A.eval) (λb j hi=>(G.old b j hi).1) (hG▸G.gl) h3;refine⟨λf _=>trivial,?_⟩;rw[Oper.semAt_eq _ _ _ (by simp)];have T:(execOp A.eval ⟨some d,.call {callee:= .value (.func f),args:=xs.toArray,argTypes:=ats},ty,pos,af,g⟩).run P w= .ok (.enter f (xs.map A.eval).toArray) w:=by
  simp only[execOp,resolve,Act.eval,Deferred.ofValue];have ad:¬fn.name= "runtime.NumGoroutine" :=by simpa using D
  have ag:¬fn.body=none:=by intro e;simp[e] at h
  simp[invoke,callFunc,hf,ad,ag,eO]
 rw[T];refine⟨by simp[fen,Fence.wide],?_⟩;show CallsIn Fence.wide 0 P f _ w _;refine gJ.2 (ab.mono ?_)
 rintro e w' ⟨v,I',rfl,hb,Y,H,O⟩
 refine hk _ _ ⟨I',ρ,C,SatAt.put ?_ hn (zNL O)⟩;have h4:=G.grow hb;exact h4.widen Y H (λi b hi Z=>(G.blt i b hi Z).2) (E.size _ _ _ G.frame) (λb hc=>E.csize _ _ _ G.frame b hc)
end
open Go.RowKit
def yN9 (E:Env) (K:Exit->AState->Prop):Exit->Act->World->Prop:=λe a w=> ∃S,K e S/\Sat E S a w
def Avc (P:Program) (r:Option Nat) (E:Env) (c:Code) (K:Exit->AState->Prop) (S:AState):Prop:=
 ∀a w,Sat E S a w->c.wpIn (fen r) 0 P (yN9 E K) a w
def zGM (E:Env) (S S':AState):Prop:= ∀a w,Sat E S a w->Sat E S' a w
def yM6 (J:AState->Prop) (K:Exit->AState->Prop):Exit->AState->Prop
 | .normal,S=>J S
 | e,S=>K e S
def yEO (id:Nat) (K:Exit->AState->Prop):Exit->AState->Prop
 | .exit i,S=>if Nat.beq i id then K .normal S else K (.exit i) S
 | e,S=>K e S
def gd (h b:Bool):Bool:=match h with
 | true=>b
 | false=>!b
section
variable {P:Program} {r:Option Nat} {E:Env} {S S':AState} {K:Exit->AState->Prop} {J:AState->Prop} {ops:Array Oper} {rest:List Oper} {o:Oper} {d:Nat}
theorem SatAt.yield {a:Act} {w:World} {I:Im} {ρ:Nat->Value} {C:Nat->Prop} (D:SatAt E S a w I ρ C) {j t:Nat} {b:Bool} (G:(ops[j]?).bind (·.dst)=some t) (O:S.get t= .d (.v (.bool b))) (H:t<E.n):
    yielded ops a.tmps j=some b:=by
  have h:=D.tmps t;rw[O] at h;have k:t<a.tmps.size:=by rw[D.size];exact H
  have e:a.tmps.getD t undef=a.tmps[t]:=by simp[dF,k]
  rw[e] at h;generalize T:a.tmps[t]=v at h;cases h;simp[yielded,G,k,T]
theorem SatAt.yield2 {a:Act} {w:World} {I:Im} {ρ:Nat->Value} {C:Nat->Prop} (G:SatAt E S a w I ρ C) {j t:Nat} {b c:Bool} (D:(ops[j]?).bind (·.dst)=some t) (T:S.get t= .cond c (.d (.v (.bool b)))) (O:t<E.n):
    yielded ops a.tmps j=if c then some b else none:=by
  have h:=G.tmps t;rw[T] at h;have k:t<a.tmps.size:=by rw[G.size];exact O
  have e:a.tmps.getD t undef=a.tmps[t]:=by simp[dF,k]
  rw[e] at h;generalize H:a.tmps[t]=v at h;cases c with
  | true=>
    have h:=h.1 rfl;cases h;simp[yielded,D,k,H]
  | false=>
    have h:=h.2 rfl;subst h;simp[yielded,D,k,H,undef]
theorem z2V {c:Code} {D:Exit->AState->Prop} (h:Avc P r E c K S) (H:∀e S,K e S->D e S):Avc P r E c D S:=λa w O=>
 g7 (h a w O) λe _ _ ⟨S',G,k⟩=>⟨S',H e S' G,k⟩
theorem zI {c:Code} (D:zGM E S S') (h:Avc P r E c K S'):Avc P r E c K S:=λa w k=>h a w (D a w k)
theorem yJQ {x y:Code} (h:∀J:AState->Prop,(∀S,Avc P r E y K S->J S)->Avc P r E x (yM6 J K) S):Avc P r E (.seq x y) K S:=λa w H=>
 wpIn_seq (g7 (h _ (λ_ h=>h) a w H) λe G w' ⟨S',D,k⟩=>by
  cases e with
  | normal=>exact D G w' k
  | _=>exact⟨S',D,k⟩)
theorem yEP {c:Operand} {x y:Code} {b:Bool} (k:S.ev c= .d (.v (.bool b))) (H:b=true->Avc P r E x K S) (D:b=false->Avc P r E y K S):Avc P r E (.cond c x y) K S:=λa w G=>by obtain⟨I,ρ,C,h⟩:=G;exact wpIn_cond_split (h.val k) (λhb=>H hb a w ⟨I,ρ,C,h⟩) (λhb=>D hb a w ⟨I,ρ,C,h⟩)
theorem yT {id:Nat} {c:Code} (h:Avc P r E c (yEO id K) S):Avc P r E (.block id c) K S:=λa w G=>
 wpIn_block (g7 (h a w G) λe H w' ⟨S',D,k⟩=>by
  cases e with
  | exit i=>
   simp only[yEO,ib] at D;simp only[Exit.inBlock];by_cases e:i=id;simp only[e,dG] at D ⊢;exact⟨S',D,k⟩;simp only[e,cV] at D ⊢;exact⟨S',D,k⟩
  | _=>exact⟨S',D,k⟩)
theorem zD {id:Nat} (h:K (.exit id) S):Avc P r E (.exit id) K S:=λ_ _ k=>wpIn_exit ⟨S,h,k⟩
theorem yB (h:K .ret S):Avc P r E .ret K S:=λ_ _ k=>wpIn_ret ⟨S,h,k⟩
theorem zM (h:K .normal S):Avc P r E .skip K S:=λ_ _ k=>wpIn_skip ⟨S,h,k⟩
theorem yEQ {c:Code} {ι:Type} (T: ι->AState) (k: ι->Prop) (G: ι->Nat) (i0: ι) (Z:k i0) (hS:zGM E S (T i0))
  (round:∀i,k i->Avc P r E c (yM6 (λS'=> ∃j,k j/\G j<G i/\zGM E S' (T j)) K) (T i)):Avc P r E (.loop c) K S:=by
 intro a w H;have key:∀n i a w,k i->G i<n->Sat E (T i) a w->Code.roundsIn (fen r) 0 P c (yN9 E K) n a w:=by
  intro n
  induction n with
  | zero=>intro i a w _ h;omega
  | succ n ih=>
   intro i a w hp hn H;rw[roundsIn_succ];exact g7 (round i hp a w H) λe O w' ⟨S',Y,D⟩=>by
    cases e with
    | normal=>obtain⟨j,hj,ac,hw⟩:=Y;exact ih j O w' hj (by omega) (hw O w' D)
    | _=>exact⟨S',Y,D⟩
 exact wpIn_loop_rounds _ (key (G i0+1) i0 a w Z (by omega) (hS a w H))
theorem yJR (Z:∀p∈S'.tmps,S.get p.1=p.2\/p.2= .top) (hb:∀p∈S'.blks,S.blk p.1=p.2) (O:∀C w,E.fr S.ghost C w->E.fr S'.ghost C w):zGM E S S':=by
 have D:∀t,S'.get t= .top\/S.get t=S'.get t:=by
  intro t;unfold AState.get;generalize T:S'.tmps=l at Z;clear T
  induction l with
  | nil=>exact .inl rfl
  | cons p l ih=>
   obtain⟨i,x⟩:=p;rw[kK];by_cases e:i=t;simp only[e,dG];have:=Z (i,x) (by simp);simp only[e] at this;exact this.symm;simp only[e,cV];exact ih λq Y=>Z q (by simp[Y])
 have k:∀t,S'.blk t= .none\/S.blk t=S'.blk t:=by
  intro t;unfold AState.blk;generalize T:S'.blks=l at hb;clear T
  induction l with
  | nil=>exact .inl rfl
  | cons p l ih=>
   obtain⟨i,x⟩:=p;rw[kK];by_cases e:i=t;simp only[e,dG];have:=hb (i,x) (by simp);simp only[e] at this;exact .inr this;simp only[e,cV];exact ih λq Y=>hb q (by simp[Y])
 rintro a w ⟨I,ρ,C,h⟩
 refine⟨I,ρ,C,⟨λt=>?_,λi=>?_,λi i' b hn hi G=>?_,O _ _ h.frame,h.sub,h.old,h.size,h.defers,h.cI,λi b hi H=>?_,λi v hv hi=>h.nm i v hv ?_⟩⟩;rcases D t with e | e
 rw[e];trivial;rw[<-e];exact h.tmps t;rcases k i with e | e
 rw[e];trivial;rw[<-e];exact h.blks i;refine h.dist i i' b hn ?_ ?_;rcases k i with e | e
 exact absurd e hi;rw[e];exact hi;rcases k i' with e | e
 exact absurd e G;rw[e];exact G;refine h.cB i b ?_ H;rcases k i with e | e
 exact absurd e hi;rw[e];exact hi;rcases k i with e | e
 exact absurd e hi;rw[e];exact hi
theorem jZ {t:Nat} (id e size:Nat) (H:0<size) (G:t<E.n) (D:E.nm id=none) (O:S.get t= .d (.v (.slice none 0 0))):zGM E S (((S.kill id).setBlk id (.row e size false [])).put t (.row id)):=by
 rintro a w ⟨I,ρ,C,h⟩
 have k:=h.update (iu w none) (id:=id) (u:= .slice none 0 0) (x:= .row e size false []) (by simp) (k7 I w) (by simp[blockOf])
  ⟨⟨H,by simp[upd,Value.ownBlock]⟩,0,[],by simp,by simp only[upd,dG];exact ia w _ e size,by simp,Pw.nil,by simp[upd,Value.ownBlock]⟩ (.inl rfl) D
 refine⟨I,_,C,⟨λu=>?_,k.blks,k.dist,by have:=k.frame;rw[zA0 _ _ G];exact this,k.sub,k.old,k.size,k.defers,k.cI,k.cB,k.nm⟩⟩
 rw[uJ];by_cases e:t=u;subst e;simp only[dG];have:=h.tmps t;rw[O] at this;generalize a.tmps.getD t undef=v at this ⊢;cases this;simp[Holds,upd];simp only[e,cV];exact k.tmps u
def zNM:List DV->Nat->List (Nat×AV)
 | [],_=>[]
 | x::r,k=>(k,.d x)::zNM r (k+1)
theorem zYR (ds:List DV):∀(k t:Nat),(k<=t/\∃x,ds[t-k]? =some x/\look AV.top (zNM ds k) t= .d x)\/look AV.top (zNM ds k) t= .top:=by
 induction ds with
 | nil=>intro k t;exact .inr rfl
 | cons x ds H=>
  intro k t;simp only[zNM,kK];by_cases e:k=t;subst e;simp;simp only[e,cV];rcases H (k+1) t with ⟨O,y,G,D⟩ | h
  refine .inl ⟨by omega,y,?_,D⟩;have:t-k=(t-(k+1))+1:=by omega
  rw[this];simpa using G;exact .inr h
def yQZ (P:Program) (S:AState) (t:TypeId) (cells:List AV) (y:DV):Prop:=
 (OneTy P t/\∃av,cells= [av]/\S.dv av=some y)\/(∃ds,AggTy P t cells.length/\S.dvL cells=some ds/\y= .agg ds)
def RetS (P:Program) (S:AState):List ResultVar->List DV->Prop
 | [],ys=>ys= []
 | .tmp t::h,ys=> ∃y zs,ys=y::zs/\S.dv (S.get t).un=some y/\RetS P S h zs
 | .cell a t::h,ys=> ∃y zs id e cells,ys=y::zs/\(S.get a).un= .ptr id 0/\S.blk id= .box e cells/\yQZ P S t cells y/\RetS P S h zs
def yS5 (P:Program) (h:Func) (k:List DV):Exit->AState->Prop
 | .ret,S | .normal,S=>RetS P S h.results.toList k
 | _,_=>False
theorem zYS (S:AState) (x:AV) (t:Nat):(S.shareAV x).get t=S.get t:=by unfold AState.shareAV;split;split<;>rfl;rfl
theorem yBL {S:AState} {x:AV} {id e:Nat} {cells:List AV} (h:S.blk id= .box e cells):(S.shareAV x).blk id= .box e cells:=by unfold AState.shareAV;split;rename_i i;split;rename_i D size G cs hb;rw[yO];by_cases k:i=id;subst k;rw[h] at hb;cases hb;simp[k,h];exact h;exact h
theorem RetS.share {S:AState} (x:AV):∀{l:List ResultVar} {ys:List DV},RetS P S l ys->RetS P (S.shareAV x) l ys
 | [],_,h=>h
 | .tmp t::rs,_,⟨y,zs,e,k,D⟩=>⟨y,zs,e,by rw[zVI,zYS];exact k,RetS.share x D⟩
 | .cell a t::rs,_,⟨y,zs,id,e,cells,H,k,D,O,T⟩=>⟨y,zs,id,e,cells,H,by rw[zYS];exact k,yBL D,by
   rcases O with ⟨ho,av,Z,G⟩ | ⟨ds,Y,G,hy⟩
   ·exact .inl ⟨ho,av,Z,by rw[zVI];exact G⟩
   ·exact .inr ⟨ds,Y,by rw[zYO];exact G,hy⟩,RetS.share x T⟩
theorem RetS.shareL (xs:List AV):∀{S:AState} {l:List ResultVar} {ys:List DV},RetS P S l ys->RetS P (S.shareL xs) l ys:=by
 induction xs with
 | nil=>exact λh=>h
 | cons x xs k=>exact λh=>k (h.share x)
def zVJ (tmps:Array Value):ResultVar->Sem Value
 | .tmp t=>pure (tmps.getD t undef)
 | .cell a t=>do loadVar t (<-asAddr (tmps.getD a undef))
theorem RetS.holds {a:Act} {w:World} {ρ:Nat->Value} {C:Nat->Prop}:∀(l:List ResultVar) (rs:List DV) {S:AState} {I:Im} (_:SatAt E S a w I ρ C) (_:RetS P S l rs),
  ∃I':Im,(∀b j,I b j->I' b j)/\∃S2,SatAt E S2 a w I' ρ C/\∃xs:List Value,(l.mapM (zVJ a.tmps)).run P w= .ok xs w/\Reps w I' xs rs:=by
 intro l
 induction l with
 | nil=>
  intro rs S I h hr;cases hr;exact⟨I,λ_ _ h=>h,S,h,[],by simp,Pw.nil⟩
 | cons x l ih=>
  intro rs S I h hr;cases x with
  | tmp t=>
   obtain⟨y,ys,rfl,h1,h2⟩:=hr;obtain⟨I1,aa,O,G⟩:=h.dv (h.tmps t).un h1;obtain⟨I2,H,S2,D,xs,ab,k⟩:=ih ys O (h2.share _);exact⟨I2,λb j hi=>H b j (aa b j hi),S2,D,_::xs,by simp[ii,zVJ,ab],Pw.cons (G.mono (k7 I1 w) H) k⟩
  | cell ad t=>
   obtain⟨y,ys,id,e,cells,rfl,h1,h2,h3,h4⟩:=hr;have hp:=(h.tmps ad).un;rw[h1] at hp;obtain⟨b,am,hv⟩:=hp;have ai:=h.blks id;rw[h2] at ai;obtain⟨b',arr,an,hB,hh,aw,Z,hI⟩:=ai;have ay:b'=b:=by rw[an] at am;simpa[blockOf] using am
   subst ay;have T:∀(j:Nat) v,arr.toList[j]? =some v->w.cell? ⟨b',0+j,none⟩=some v:=λj v hj=>by
    rw[eE,fb w b' j arr e (0,0) hh];simpa using hj
   rcases h3 with ⟨ho,av,hc,hd⟩ | ⟨ds,ha,hd,rfl⟩
   ·subst hc
    have ak:=Z.1
    match ah:arr.toList,ak with
    | [v0],_=>
     rw[ah] at Z T;obtain⟨I1,aa,O,G⟩:=h.dv (Z.2 0 v0 av rfl rfl) hd;obtain⟨I2,H,S2,D,xs,ab,k⟩:=ih ys O (h4.share _);refine⟨I2,λb j hi=>H b j (aa b j hi),S2,D,v0::xs,?_,Pw.cons (G.mono (k7 I1 w) H) k⟩;have aj:=T 0 v0 rfl;simp only[fJ] at aj;simp[ii,zVJ,hv,asAddr,loadVar,ho.agg,run_load,aj,ab]
   ·obtain⟨I1,aa,O,G⟩:=SatAt.dvL cells h Z hd
    obtain⟨I2,H,S2,D,xs,ab,k⟩:=ih ys O (h4.shareL _);have al:=G.mono (k7 I1 w) H;refine⟨I2,λb j hi=>H b j (aa b j hi),S2,D,.agg arr.toList.toArray::xs,?_,Pw.cons (.agg _ _ al.1 aw al.2) k⟩;have Y:=zEB (P:=P) w ha b' 0 arr.toList Z.1 T;simp only[Instr.loadAt,Instr.sureAddr,cS,dV,cW] at Y;simp only[ii,zVJ,hv,asAddr,cS,dV,cW,Y,ab]
theorem zNN {k:Func} {tmps:Array Value} {w:World} {xs:List Value} (h:(k.results.toList.mapM (zVJ tmps)).run P w= .ok xs w):
  (results k tmps).run P w= .ok (if h:xs.toArray.size=1 then xs.toArray[0] else .tuple xs.toArray) w:=by
 have e:results k tmps=(do let vs <-k.results.mapM (zVJ tmps);pure (if h:vs.size=1 then vs[0] else .tuple vs)):=by
  unfold results;congr 1
 rw[e,Array.mapM_eq_mapM_toList];simp only[cS,dV,h,cW,Sem.run_map]
def Env.norm (gdt:Nat->Option (List Value)) (w0:World) (I0:Im) (O:∀b j,I0 b j->b<w0.heap.size) (hG:GlI gdt w0 I0) (n:Nat) (T:n<=1000000):Env where
 B:=w0.heap.size
 I0:=I0
 n:=n
 fr:=λ_ C w=>Below w0.heap.size w0 w/\∀b,¬C b
 wrB:=true
 nle:=T
 mine:=λb=>w0.heap.size<=b
 mineB:=λ_ h=>h
 nm:=λ_=>none
 size:=λ_ _ _ h=>h.1.size
 csize:=λ_ _ _ h b hb=>absurd hb (h.2 b)
 grow:=λ_ _ _ _ h hb=>⟨h.1.trans (hb.mono h.1.size),h.2⟩
 wr:=λ_ _ _ _ _ _ h D Y _=>⟨h.1.trans ⟨D.os,D.tape,D.output,D.size,λk H=>D.block k (eU H h.1.size) (λe=>by have:=(Y k e).1;omega)⟩,h.2⟩
 turn:=λ_ _ _ w w' l h Z G _=>⟨h.1.trans ⟨G.os,G.tape,G.output,by rw[G.size];exact dA _,λk H=>G.blk k (by omega)⟩,h.2⟩
 gdt:=gdt
 gl:=λ_ _ w h g zs D j=>⟨(World.cell?_of_block (a:=⟨g,j,none⟩) (h.1.block g (O g j (hG g zs D j).2))).trans (hG g zs D j).1,(hG g zs D j).2⟩
theorem zQR {w:World} {D:Nat} (h:w.heap[D]? =some (.deferred (some []))):(Instr.takeDeferred D).run P w= .ok [] {w with heap:=w.heap.setIfInBounds D (.deferred none)}:=by simp[Instr.takeDeferred,getObj,setObj,Sem.run,h]
structure Taken (w w':World):Prop where
 blk:∀k:Nat,w'.heap[k]? =w.heap[k]?\/(w.heap[k]? =some (Obj.deferred (some []))/\w'.heap[k]? =some (Obj.deferred none))
 size:w'.heap.size=w.heap.size
theorem Taken.same {I:Im} {w w':World} (h:Taken w w'):Same I w w':=by
 intro b j _;rcases h.blk b with e | ⟨e,k⟩
 exact KeepB.of e;exact⟨by simp[World.cell?,e,k],λ_ _ q=>by rw[e] at q;cases q⟩
theorem zQS {fn:Func} {tmps:Array Value} {R:Ending->World->Prop} {B:Nat} {ag:Bool} {C:Nat->Prop}:∀(ds:List Deferred) (w:World),DefOk B ag C w ds->
  (∀w',Below B w w'->Taken w w'->∃v,(results fn tmps).run P w'= .ok v w'/\R (.returned v) w')->
  LeavesInM (fen none) 0 P fn tmps R ds .returning w:=by
 intro ds
 induction ds with
 | nil=>intro w _ h;exact h w (Below.refl _ _) ⟨λ_=> .inl rfl,rfl⟩
 | cons d ds ih=>
  intro w O h;obtain⟨r,h1,h2,an,Z⟩:=O.each d (by simp);refine⟨by simp,.inl ⟨r,_,h1,zQR Z,ih _ ?_ ?_⟩⟩
  ·refine⟨λe he=>?_,(fE.1 O.dist).2,λ_=>O.wr (by simp)⟩
   obtain⟨r',G,Y,H,aa⟩:=O.each e (by simp[he]);have D:r≠r':=λad=>(fE.1 O.dist).1 e he r h1 (ad▸G);exact⟨r',G,Y,H,by simp only[dU D];exact aa⟩
  ·intro w' hb hk
   refine h w' ?_ ⟨λk=>?_,?_⟩
   ·refine⟨hb.os,hb.tape,hb.output,by have:=hb.size;simpa using this,λk ac=>?_⟩
    rw[hb.block k ac];exact dU (by omega)
   ·have T:=(cQ.1 Z).1
    by_cases D:r=k
    ·subst D
     refine .inr ⟨Z,?_⟩;rcases hk.blk r with e | ⟨e,_⟩
     ·rw[e];simp[T]
     ·simp[T] at e
    ·have e1:(w.heap.setIfInBounds r (Obj.deferred none))[k]? =w.heap[k]?:=dU D
     rcases hk.blk k with e | ⟨e,e'⟩
     ·exact .inl (e.trans e1)
     ·exact .inr ⟨e1.symm.trans e,e'⟩
   ·rw[hk.size];simp
theorem SatAt.taken {S:AState} {a:Act} {w w':World} {I:Im} {ρ:Nat->Value} {C:Nat->Prop} (h:SatAt E S a w I ρ C) (k:Taken w w') (D:E.fr S.ghost C w'):SatAt E S {a with defers:=[]} w' I ρ C:=by
 refine⟨λt=>(h.tmps t).mono k.same (λ_ _ h=>h),λi=>?_,h.dist,D,h.sub,λb j hi=>⟨by rw[k.size];exact(h.old b j hi).1,(h.old b j hi).2⟩,h.size,DefOk.nil,h.cI,h.cB,h.nm⟩
 cases G:S.blk i with
 | none=>trivial
 | _=>
  rw[<-G];refine(h.blks i).mono k.same (λb hb=>?_);obtain⟨o,H,O⟩:=h.cellBlk (by rw[G];simp) hb
  rcases k.blk b with e | ⟨e,_⟩;exact e;rw[H] at e;cases e;cases O
theorem RetS.run {S:AState} {a:Act} {w:World} {I:Im} {ρ:Nat->Value} {C:Nat->Prop} {Z:Func} {Y:List DV} (hs:SatAt E S a w I ρ C) (D:RetS P S Z.results.toList Y):
  ∃v H,(results Z a.tmps).run P w= .ok v w/\(∀b j,I b j->H b j)/\(∀b j,H b j->b<w.heap.size/\(E.I0 b j\/E.mine b))/\z2U w H v Y:=by
 obtain⟨I2,G,S2,O,xs,T,h⟩:=RetS.holds _ _ hs D;refine⟨_,I2,zNN T,G,O.old,?_⟩;have hl:=h.1
 match xs,Y,hl,h with
 | [],[],_,k=>exact⟨_,rfl,k⟩
 | [x],[y],_,k=>exact k.2 0 _ y rfl rfl
 | x::u::xs,y::z::ys,_,k=>exact⟨x::u::xs,by simp,k⟩
theorem z2W {f:FuncId} {k:Func} {c:Code} {ds rs:List DV} (hf:P.funcs[f]? =some k) (D:(k.name== "runtime.NumGoroutine")=false) (hb:k.body=some c) (hn:ds.length<=k.ntmps) (Z:k.ntmps<=1000000)
  (h:∀w0 I0 O hG,Avc P none (Env.norm (zAS P) w0 I0 O hG k.ntmps Z) c (yS5 P k rs) ⟨zNM ds 0,[]⟩):zC P f ds rs:=by
 refine⟨⟨k,hf,D,by simp[hb]⟩,λw I vs O hG ac=>?_⟩;refine gJ (n:=0) |>.1 (callsIn_of_wp_marks hf hb trivial ?_)
 have Y:vs.length=ds.length:=ac.1;have ab:Sat (Env.norm (zAS P) w I O hG k.ntmps Z) ⟨zNM ds 0,[]⟩ {tmps:=vs.toArray++Array.replicate (k.ntmps-vs.toArray.size) undef,defers:=[]} w:=by
  refine⟨I,λ_=>undef,λ_=>False,⟨λt=>?_,λ_=>trivial,λ_ _ _ _ h=>absurd rfl h,⟨Below.refl _ _,λ_ h=>h⟩,λ_ _ h=>h,λb j h=>⟨O b j h,.inl h⟩,by simp[Env.norm];omega,DefOk.nil,λ_ _ _ h=>h,λ_ _ h=>absurd rfl h,λ_ _ h=>by cases h⟩⟩
  rcases zYR ds 0 t with ⟨_,x,hx,hl⟩ | hl
  ·show Holds _ _ _ _ (look AV.top (zNM ds 0) t)
   rw[hl];simp only[Nat.sub_zero] at hx;have ht:t<vs.length:=by rw[Y];exact(cX.1 hx).1
   refine ac.2 t _ x ?_ hx;simp[dF,Array.getElem?_append,ht]
  ·show Holds _ _ _ _ (look AV.top (zNM ds 0) t)
   rw[hl];trivial
 refine g7 (h w I O hG _ w ab) ?_
 rintro e a w' ⟨S,hK,I1,ρ,C,G⟩
 have H:RetS P S k.results.toList rs->LeavesInM (fen none) 0 P k a.tmps (λe w'=> ∃v I',e= .returned v/\Below w.heap.size w w'/\(∀b j,I b j->I' b j)/\(∀b j,I' b j->b<w'.heap.size/\(I b j\/w.heap.size<=b))/\z2U w' I' v rs) a.defers .returning w':=by
  intro aa;refine zQS (B:=w.heap.size) a.defers w' G.defers λw2 T ai=>?_;have aj:=G.taken ai ⟨G.frame.1.trans T,G.frame.2⟩;obtain⟨v,I2,h1,h2,h3,h4⟩:=RetS.run aj aa;exact⟨v,h1,v,I2,rfl,G.frame.1.trans T,λb j hi=>h2 b j (G.sub b j hi),h3,h4⟩
 cases e with
 | normal=>exact H hK
 | ret=>exact H hK
 | _=>exact hK.elim
end
open Go.RowKit
theorem zS7 {w:World} {G e:Nat} {k:Array Value} (H:w.heap[G]? =some (.cells k e (0,0))) (D:Array Value) {j:Nat} (h:D[j]? =k[j]?):
  (w.setRow G D).cell? ⟨G,j,none⟩=w.cell? ⟨G,j,none⟩:=by
 rw[fb _ G j D e (0,0) (iy w G k D e _ H),fb w G j k e (0,0) H,h]
section
variable {P:Program} (w:World)
theorem z6I {B t ty e size bytes:Nat} {z:Value} (hT:SlTy P t e size bytes z) {v:Value} {n:Nat} {xs:List Value} (h:w.ownsRow B e size v n xs)
  {A:Option Addr} {m c:Nat} {news:List Value} (hl:news.length=m*size) (ah:0<m->∃b off,A=some ⟨b,off,none⟩/\∀(j:Nat) u,news[j]? =some u->w.cell? ⟨b,off+j,none⟩=some u)
  (h1:∀u∈news,u.oneCell'=true) (aj:n+m<=maxLen) (K:(n+m)*bytes<=140737488355328) (hB:B<=w.heap.size):
  ∃v' w',(Builtin.append_ #[t,t] ty #[v,.slice A m c]).run P w= .ok v' w'/\w'.ownsRow B e size v' (n+m) (xs++news)/\
   ((w.grownBy w' v.ownBlock/\v'.ownBlock=v.ownBlock/\∀Z,v.ownBlock=some Z->∀j,j<n*size->w'.cell? ⟨Z,j,none⟩=w.cell? ⟨Z,j,none⟩)\/(w.grownBy w' none/\v'.ownBlock=some w.heap.size)):=by
 obtain⟨i,hi,hz,rfl,rfl⟩:=hT.info;have ht:=hT.und;have ba:=hT.zs;have ap:n+m<=9223372036854775807:=by simp only[maxLen] at aj;omega
 have O:(xs++news).length=(n+m)*i.size:=by rw[cU,h.1,hl,eG]
 by_cases hm:m=0
 ·subst hm
  have hn:news= []:=cP (by simpa using hl);subst hn;refine⟨v,w,?_,by simpa using h,.inl ⟨iu w _,rfl,λ_ _ _ _=>rfl⟩⟩;rcases h.2 with ⟨rfl,rfl⟩ | ⟨Z,T,aa,rfl,_,_,am,_⟩
  ·cases A<;>simp[Builtin.append_,dJ ht,sizeOf,typeInfo,hi,Builtin.lenOf,Builtin.firstCells,loadCells,loadCellsFrom]
  ·cases A<;>simp[Builtin.append_,dJ ht,sizeOf,typeInfo,hi,Builtin.lenOf,Builtin.firstCells,am,storeCells,loadCells,loadCellsFrom]
 ·obtain⟨b,off,rfl,ac⟩:=ah (by omega)
  have D:∀(j:Nat) u,news[j]? =some u->w.cell? ((⟨b,off,none⟩:Addr).add j)=some u:=λj u hu=>by rw[u7];exact ac j u hu
  have ab:∀(H:Nat),
    (w.drew.alloc (.cells (xs.toArray++news.toArray++Builtin.zeroCells z.cells (grownCap w (n+m) H e-(n+m))) e)).ownsRow B e i.size
     (.slice (some ⟨w.heap.size,0,none⟩) (n+m) (grownCap w (n+m) H e)) (n+m) (xs++news)/\
    w.grownBy (w.drew.alloc (.cells (xs.toArray++news.toArray++Builtin.zeroCells z.cells (grownCap w (n+m) H e-(n+m))) e)) none:=by
   intro H;have ay:=grownCap_ge w (n+m) H e;have ad:grownCap w (n+m) H e<=maxLen:=grownCap_le_maxLen w (n+m) H e aj;refine⟨⟨O,.inr ⟨w.heap.size,_,_,rfl,hB,gV w.drew _,ay,ad,?_,?_⟩⟩,⟨rfl,rfl,rfl,by simp,λk hk _=>_root_.Go.heap_alloc_old w.drew _ hk⟩⟩
   ·simp only[Array.size_append,fW,size_zeroCells,ba,h.1,hl,<-eG]
    congr 1;omega
   ·simp only[Array.toList_append,c8]
    rw[<-c8,<-O];exact gW
  rcases h.2 with ⟨rfl,rfl⟩ | ⟨Z,T,aa,rfl,au,hg,am,ad,aw,ai⟩
  ·have hx:xs= []:=cP (by simpa using h.1)
   subst hx;have hr:=run_append_nil (P:=P) w t ty e i z ht hi hz ⟨b,off,none⟩ m c news hl D (by omega) (by omega) (by have hb:=K;simp only[eE] at hb;omega)
   have Y:=ab 0;simp only[eE,dP,Array.empty_append] at Y ⊢;exact⟨_,_,hr,Y.1,.inr ⟨Y.2,rfl⟩⟩
  ·by_cases G:n+m<=T
   ·have ak:n*i.size+news.length<=aa.size:=by rw[hl,aw,<-eG];exact dT _ G
    have hr:=run_append_room (P:=P) w t ty e i ht hi Z n T aa hg ⟨b,off,none⟩ m c news hl D h1 G ak;refine⟨_,_,hr,⟨O,.inr ⟨Z,T,_,rfl,au,iy w Z aa _ e _ hg,G,ad,?_,?_⟩⟩,.inl ⟨⟨rfl,rfl,rfl,by simp,λk _ hk=>setRow_other w Z k _ (λe=>hk (by simp[Value.ownBlock,e]))⟩,rfl,?_⟩⟩
    ·simp only[fW,cU,dZ,eH,eM]
     omega
    ·rw[ai,<-O]
     exact gW
    ·intro g' al j hj
     simp[Value.ownBlock] at al;subst al;refine zS7 hg _ ?_;have:j<aa.size:=by omega
     simp only[eX,c8];rw[dY (by simp;omega),d5,dI hj]
     simp
   ·have holds:∀j u,xs[j]? =some u->w.cell? ((⟨Z,0,none⟩:Addr).add j)=some u:=h.cells (g:=Z) rfl
    have hr:=run_append_grow (P:=P) w t ty e i z ht hi hz ⟨Z,0,none⟩ n T xs h.1 holds ⟨b,off,none⟩ m c news hl D (by omega) (by omega) (growslice_fits (by omega) K);have Y:=ab T;exact⟨_,_,hr,Y.1,.inr ⟨Y.2,rfl⟩⟩
end
section
variable {P:Program} {r:Option Nat} {E:Env} {S:AState} {d:Nat} {ty:TypeId} {pos:String} {af:Array Edge} {g:Option (Nat×Bool)}
theorem zPF {x:AV} {id e size:Nat} {k:Bool} {cells:List DV} (hb:S.blk id= .row e size k cells):∃D,(S.shareAV x).blk id= .row e size D cells:=by unfold AState.shareAV;split;rename_i i;split;rename_i O G K cs h;rw[yO];by_cases H:i=id;subst H;rw[hb] at h;cases h;exact⟨true,by simp⟩;exact⟨k,by simp[H,hb]⟩;exact⟨k,hb⟩;exact⟨k,hb⟩
def Blk.appended (b:Blk) (cells:List DV):Blk:=match b with
 | .row e size h cs=> .row e size h (cs++cells)
 | b=>b
theorem zYT {t e size bytes:Nat} {z:Value} {s x:Operand} {id:Nat} {sh:Bool} {cells news:List DV} {n m:Nat} (hn:d<E.n) (hT:SlTy P t e size bytes z) (hb:S.blk id= .row e size sh cells)
  (hx:S.dv (S.ev x)=some (.sl size news)) (hl:cells.length=n*size) (bi:news.length=m*size) (Z:(n+m)*bytes<=140737488355328) (bg:n+m<=maxLen) (hE:E.wrB=true) (aw:E.nm id=none):
  ∀{A:Act} {w:World} {I:Im} {ρ:Nat->Value} {C:Nat->Prop},SatAt E S A w I ρ C->A.eval s= ρ id->∃v w',(execOp A.eval ⟨some d,.call {callee:= .builtin .append,args:= #[s,x],argTypes:= #[t,t]},ty,pos,af,g⟩).run P w= .ok (.value v) w'/\
   Sat E ((((S.shareAV (S.ev x)).kill id).setBlk id (((S.shareAV (S.ev x)).blk id).appended news)).put d (.row id)) (A.put (some d) v) w':=by
  intro A w I ρ C ad bk;obtain⟨I1,bz,D,ay⟩:=ad.dv (ad.ev x) hx;obtain⟨az,ah⟩:=zPF (x:=S.ev x) hb;have hk:=D.blks id;rw[ah] at hk;obtain⟨hp,n',xs,ap,ac,h1,bj,am⟩:=hk;obtain rfl:=zII ap hl hp.1;obtain⟨Ax,m',c,ys,hv,_,ai,ax,al,bh⟩:=Rep.sl_inv ay;obtain rfl:=zII ai bi hp.1;obtain⟨v',w',hr,Y,H⟩:=z6I (ty:=ty) w hT ac (A:=Ax) (m:=m') (c:=c) (news:=ys) (by rw[ax.1,ai]) (λh0=>by
   obtain⟨b,off,hA,hc⟩:=bh h0;exact⟨b,off,hA,λj u hu=>(hc j u hu).1⟩) al bg Z (gH _)
  refine⟨v',w',?_,?_⟩
  ·simp only[execOp,resolve,invoke,builtin,cS,dV,cW,eO,ez,fI,bk,hv,hr]
  ·have K:Same I1 w w':=by
    intro b j hi;have aq:=(D.old b j hi).1;rcases H with ⟨T,_,aa⟩ | ⟨T,_⟩
    ·by_cases e':(ρ id).ownBlock=some b
     ·obtain⟨bl,br,bt,ao⟩:=zXI ac e'
      exact KeepB.ofCell ao (aa b e' j (by have:=(am b j e' hi).2;omega))
     ·exact KeepB.of (T.block b aq (λe2=>e' e2.symm))
    ·exact KeepB.of (T.block b aq (by simp))
   have ab:∀b,blockOf v'=some b->v'.ownBlock=some b:=by
    intro b O;rcases Y.2 with ⟨aj,_⟩ | ⟨gb,bo,bp,aj,_⟩
    ·rw[aj] at O;cases O
    ·rw[aj] at O ⊢;exact O
   have au:(S.shareAV (S.ev x)).blk id≠ .none:=by rw[ah];simp
   have an:((S.shareAV (S.ev x)).blk id).appended news= .row e size az (cells++news):=by rw[ah];rfl
   rw[an];have ar:BlkOk w' I1 (upd ρ id v') E.mine id (.row e size az (cells++news)):=by
    have eu:upd ρ id v' id=v':=by simp[upd]
    refine⟨⟨hp.1,λgb T=>?_⟩,n'+m',xs++ys,by rw[cU,ap,ai,eG],by rw[eu];exact Y,?_,Pw.append (bj.mono K (λ_ _ h=>h)) (ax.mono K (λ_ _ h=>h)),?_⟩
    ·rw[eu] at T
     rcases H with ⟨_,G,_⟩ | ⟨_,G⟩
     ·exact hp.2 gb (by rw[<-G];exact T)
     ·rw[G] at T;cases T;exact E.mineB _ (E.size _ _ _ D.frame)
    ·intro u hu
     rcases eQ.1 hu with hu | hu
     ·exact h1 u hu
     ·exact al u hu
    ·rw[eu]
     intro gb j T hi;rcases H with ⟨_,G,_⟩ | ⟨_,G⟩
     ·rw[G] at T
      have:=am gb j T hi;exact⟨this.1,by rw[cU];omega⟩
     ·rw[G] at T
      cases T;have:=(D.old _ j hi).1;omega
   rcases H with ⟨T,G,_⟩ | ⟨T,G⟩
   ·have h2:=D.update T (id:=id) (u:=v') (λk hk=>⟨au,zBZ hk⟩) K (λb O=> .inr ⟨au,zBZ (by rw[<-G];exact ab b O)⟩) ar (.inr hE) aw
    exact⟨I1,_,C,h2.put hn (by simp[Holds,upd])⟩
   ·have h2:=D.update T (id:=id) (u:=v') (λk hk=>by cases hk) K (λb O=> .inl (by have:=ab b O;rw[G] at this;cases this;exact dA _)) ar (.inl rfl) aw
    exact⟨I1,_,C,h2.put hn (by simp[Holds,upd])⟩
theorem z2X {t e size bytes:Nat} {z:Value} {s x:Operand} {id:Nat} {sh:Bool} {cells news:List DV} {n m:Nat} (Y:d<E.n) (O:SlTy P t e size bytes z) (Z:S.ev s= .row id) (hb:S.blk id= .row e size sh cells)
  (hx:S.dv (S.ev x)=some (.sl size news)) (T:cells.length=n*size) (G:news.length=m*size) (h:(n+m)*bytes<=140737488355328) (D:n+m<=maxLen) (K:E.wrB=true) (H:E.nm id=none):
  jJ P r E ⟨some d,.call {callee:= .builtin .append,args:= #[s,x],argTypes:= #[t,t]},ty,pos,af,g⟩ S
   ((((S.shareAV (S.ev x)).kill id).setBlk id (((S.shareAV (S.ev x)).blk id).appended news)).put d (.row id)):=
 zAM (by simp) λA w I ρ C k=>zYT Y O hb hx T G h D K H k (by have:=k.ev s;rw[Z] at this;exact this)
def vG:DV->List DV
 | .agg es=>es
 | x=>[x]
def okDV (size:Nat):DV->Bool
 | .agg es=>es.length==size
 | .v u=>u.oneCell'&&size==1
 | .sl _ _=>size==1
 | .pt _=>size==1
 | .fn _ _=>size==1
 | .bm _ _=>size==1
 | .mp _ _=>size==1
theorem Rep.flat {w:World} {I:Im} {v:Value} {x:DV} {size:Nat} (h:Rep w I v x) (k:okDV size x=true):
  Reps w I v.cells.toList (vG x)/\(∀u∈v.cells.toList,u.oneCell'=true)/\(vG x).length=size:=by
 cases h with
 | v=>
  simp[okDV] at k;rw[zLG k.1];exact⟨Pw.cons (.v v) Pw.nil,by simpa using k.1,by simp[vG,k.2]⟩
 | nil A c s=>
  simp[okDV] at k;exact⟨Pw.cons (.nil A c s) Pw.nil,by simp[Value.cells,Value.oneCell'],by simp[vG,k]⟩
 | sl b off n c s xs cells hn O hl G T K D=>
  simp[okDV] at k;exact⟨Pw.cons (.sl b off n c s xs cells hn O hl G T K D) Pw.nil,by simp[Value.cells,Value.oneCell'],by simp[vG,k]⟩
 | pt b off xs cells G T K D=>
  simp[okDV] at k;exact⟨Pw.cons (.pt b off xs cells G T K D) Pw.nil,by simp[Value.cells,Value.oneCell'],by simp[vG,k]⟩
 | fn f xs cells G D=>
  simp[okDV] at k;exact⟨Pw.cons (.fn f xs cells G D) Pw.nil,by simp[Value.cells,Value.oneCell'],by simp[vG,k]⟩
 | bm f xs cells G D=>
  simp[okDV] at k;exact⟨Pw.cons (.bm f xs cells G D) Pw.nil,by simp[Value.cells,Value.oneCell'],by simp[vG,k]⟩
 | mp b H ents vs Z hb G D Y=>
  simp[okDV] at k;exact⟨Pw.cons (.mp b H ents vs Z hb G D Y) Pw.nil,by simp[Value.cells,Value.oneCell'],by simp[vG,k]⟩
 | agg xs cells G K D=>
  simp[okDV] at k;exact⟨⟨by simpa[Value.cells,vG] using G,by simpa[Value.cells,vG] using D⟩,by simpa[Value.cells] using K,by simp[vG,k]⟩
theorem yBM (vs:List Value) (off:Nat):∀(k:Nat) (arr:Array Value),off+k+vs.length<=arr.size->
  ((vs.zipIdx k).foldl (λcs (p:Value×Nat)=>cs.setIfInBounds (off+p.2) p.1) arr).toList=arr.toList.take (off+k)++vs++arr.toList.drop (off+k+vs.length):=by
 induction vs with
 | nil=>intro k arr _;simp
 | cons v vs O=>
  intro k arr h;simp only[dO] at h;rw[List.zipIdx_cons,iv,O (k+1) _ (by simp;omega)]
  simp only[Array.toList_setIfInBounds,dO];have D:off+k<arr.toList.length:=by simp;omega
  rw[gA,dI D];have G:(arr.toList.take (off+k)).length=off+k:=by simp;omega
  have H:off+(k+1)=(arr.toList.take (off+k)).length+1:=by rw[G];omega
  have K:off+(k+1)+vs.length=(arr.toList.take (off+k)).length+(1+vs.length):=by rw[G];omega
  rw[K,H,List.take_length_add_append,List.drop_length_add_append];rw[Nat.add_comm 1 vs.length,List.drop_succ_cons,List.drop_drop,show off+k+1+vs.length=off+k+(vs.length+1) by omega];simp
theorem z2Y {k:Nat->Option (Nat×Nat)} {arr:Array Value} {i off size:Nat} {v:Value} {rest:List (Nat×Value)} (H:k i=some (off,size)) (K:v.cells.size=size) (D:off+size<=arr.size):
  Instr.fill k arr ((i,v)::rest)=Instr.fill k (arr.toList.take off++v.cells.toList++arr.toList.drop (off+size)).toArray rest:=by
 subst K;have h:=yBM v.cells.toList off 0 arr (by simpa using D);simp only[fJ] at h;have e:v.cells.zipIdx.foldl (λcs (x:Value×Nat)=>cs.setIfInBounds (off+x.2) x.1) arr=(arr.toList.take off++v.cells.toList++arr.toList.drop (off+v.cells.size)).toArray:=by
  apply Array.ext';rw[<-Array.foldl_toList,Array.toList_zipIdx];simpa using h
 have G:¬(v.cells.size≠v.cells.size ||off+v.cells.size > arr.size)=true:=by simp;omega
 simp only[Instr.fill,H];rw[dK G];congr 1
def zB0 {h:Type}:Nat->List h->List (Nat×h)
 | _,[]=>[]
 | k,x::r=>(k,x)::zB0 (k+1) r
theorem zL7 {h D:Type} (f: h->D):∀(l:List h) (k:Nat),(zB0 k l).map (λp=>(p.1,f p.2))=zB0 k (l.map f)
 | [],_=>rfl
 | x::l,k=>by simp[zB0,zL7 f l (k+1)]
theorem z2Z (size:Nat):∀(vs:List Value) (k:Nat) (arr:Array Value),(∀v∈vs,v.cells.size=size)->(k+vs.length)*size<=arr.size->
  Instr.fill (λi=>some (i*size,size)) arr (zB0 k vs)=some (arr.toList.take (k*size)++vs.flatMap (λv=>v.cells.toList)++arr.toList.drop ((k+vs.length)*size)).toArray:=by
 intro vs
 induction vs with
 | nil=>intro k arr _ _;simp[zB0,Instr.fill]
 | cons v vs Z=>
  intro k arr K h;simp only[dO] at h;have T:(k+(vs.length+1))*size=k*size+size+vs.length*size:=by
   rw[eG,eG,Nat.one_mul];omega
  have D:(k+1)*size=k*size+size:=by rw[eG,Nat.one_mul]
  have H:(k+1+vs.length)*size=k*size+size+vs.length*size:=by rw[eG,D]
  have G:v.cells.toList.length=size:=by rw[eM];exact K v (by simp)
  rw[zB0,z2Y rfl (K v (by simp)) (by omega),Z (k+1) _ (λu Y=>K u (by simp[Y])) (by simp[G];omega)]
  congr 2;rw[H,D];simp only[dO,d9,T];have O:(arr.toList.take (k*size)++v.cells.toList).length=k*size+size:=by simp[G];omega
  rw[<-O,gW,List.drop_length_add_append,List.drop_drop];simp only[c8]
theorem zR2 {w:World} {I:Im} {size:Nat}:∀{vs:List Value} {ds:List DV},Reps w I vs ds->ds.all (okDV size)=true->
  Reps w I (vs.flatMap λv=>v.cells.toList) (ds.flatMap vG)/\(∀u∈vs.flatMap (λv=>v.cells.toList),u.oneCell'=true)/\(∀v∈vs,v.cells.size=size)/\(ds.flatMap vG).length=ds.length*size
 | [],[],_,_=>⟨Pw.nil,by simp,by simp,by simp⟩
 | [],_::_,h,_=>by have:=h.1;simp at this
 | _::_,[],h,_=>by have:=h.1;simp at this
 | v::vs,x::ds,h,D=>by
  simp only[iq,dE] at D;have k:=(h.2 0 v x rfl rfl).flat D.1;have H:Reps w I vs ds:=⟨by have:=h.1;simpa using this,λj u y hu K=>h.2 (j+1) u y (by simpa using hu) (by simpa using K)⟩
  obtain⟨a1,a2,a3,G⟩:=zR2 H D.2;refine⟨by simp only[d9];exact Pw.append k.1 a1,?_,?_,?_⟩
  ·intro u hu
   simp only[d9,eQ] at hu;rcases hu with hu | hu
   ·exact k.2.1 u hu
   ·exact a2 u hu
  ·intro u hu
   rcases dL.1 hu with rfl | hu
   ·have:=k.1.1;rw[k.2.2,eM] at this;exact this
   ·exact a3 u hu
  ·simp only[d9,cU,dO,k.2.2,G,eG];omega
theorem zFF {t e size bytes:Nat} {z:Value} {len:Nat} {H:List (Nat×Operand)} {ds:List DV} (hn:d<E.n) (K:SlTy P t e size bytes z) (G:H=zB0 0 (H.map Prod.snd)) (Y:H.length=len)
    (O:S.dvL ((H.map Prod.snd).map S.ev)=some ds) (ah:ds.all (okDV size)=true) (aw:len*size<=16777216) (ag:E.nm d=none):
    jJ P r E ⟨some d,.buildSlice t len H.toArray,ty,pos,af,g⟩ S
      ((((S.shareL ((H.map Prod.snd).map S.ev)).kill d).setBlk d (.row e size false (ds.flatMap vG))).put d (.row d)):=
  zAM (by simp) λA w I ρ C hs=>by
    generalize aj:H.map Prod.snd=xs at G O ⊢;obtain⟨I1,h1,h2,h3⟩:=SatAt.dvL _ hs (zB9 hs xs) O;obtain⟨a1,a2,a3,a4⟩:=zR2 h3 ah;have D:(xs.map A.eval).length=len:=by rw[<-Y,<-aj];simp
    have ac:ds.length=len:=by rw[<-h3.1];exact D
    have ad:len<=maxLen:=by
      have:=K.pos;have:len*1<=len*size:=gS _ this;simp only[maxLen];omega
    have ab:=h2.newRow (id:=d) (e:=e) (size:=size) (n:=len) (c:=len) (rest:=[]) K.pos (by rw[a4,ac]) (dA _) ad (by simp) a1 a2 ag;refine⟨.slice (some ⟨w.heap.size,0,none⟩) len len,_,?_,I1,_,C,ab.put hn (by simp[Holds,upd])⟩;obtain⟨i,hi,hz,au,aq⟩:=K.info;have k:=z2Z size (xs.map A.eval) 0 ((Array.range (len*size)).map ((if len*size=0 then (#[]:Array Value) else z.cells)[· % (if len*size=0 then (#[]:Array Value) else z.cells).size]!)) a3 (by simp[<-D]);have Z:H.toArray.map (λp:Nat×Operand=>(p.1,A.eval p.2))=(zB0 0 (xs.map A.eval)).toArray:=by
      rw[G,eO,zL7]
    have aa:¬(len*size > 2 ^ 24):=by omega
    simp only[gB,iC,dP,eE,D] at k;rw[dC (by simp)] at k;simp only[eA] at k ⊢;simp only[execOp,Instr.buildSlice,cS,dJ K.und,cW,K.size w,aa,cV,dV];by_cases h0:len*size=0
    · have T:len=0:=by
        rcases Nat.mul_eq_zero.1 h0 with h | h
        · exact h
        · have:=K.pos;omega
      have ai:xs= []:=cP (by simpa[T] using D);subst ai;subst T;simp[Z,zB0,Instr.fill,newRow,Array.range_zero']
    · simp only[h0,cV] at k ⊢
      simp[zeroValue,typeInfo,hi,hz,Z,k,newRow]
def zKK (z:Value) (n:Nat):List DV:=(List.replicate n (z.cells.toList.map DV.v)).flatten
theorem zVK (z:Array Value) (n:Nat):(madeCells z (n*z.size)).toList=(List.replicate n z.toList).flatten:=by
 apply fV;intro j;simp only[madeCells,Array.toList_map,Array.toList_range,dX]
 induction n generalizing j with
 | zero=>simp
 | succ n G=>
  rw[List.replicate_succ,gQ];by_cases D:j<z.size;rw[dY (by simpa using D)];have h:j<(n+1)*z.size:=by rw[eG,Nat.one_mul];omega
  rw[List.getElem?_range h];simp[Nat.mod_eq_of_lt D,D];rw[dW (by simp;omega),<-G]
  simp only[eM];by_cases h:j<(n+1)*z.size;have k:j-z.size<n*z.size:=by rw[eG,Nat.one_mul] at h;omega
  rw[List.getElem?_range h,List.getElem?_range k];simp only[eZ];have:j%z.size=(j-z.size)%z.size:=by
   rw[Nat.mod_eq_sub_mod (by omega)]
  rw[this];have k:¬j-z.size<n*z.size:=by rw[eG,Nat.one_mul] at h;omega
  rw[fG (by simpa using h),fG (by simpa using k)]
theorem zPV (w:World) (I:Im) (vs:List Value):Reps w I vs (vs.map DV.v):=by refine⟨by simp,λj x y k h=>?_⟩;simp[k] at h;subst h;exact .v x
theorem zYU {t e size bytes:Nat} {z:Value} {x:Operand} {n:Nat} {m:Int} (hn:d<E.n) (G:SlTy P t e size bytes z) (hx:S.ev x= .d (.v (.int .i64 m))) (hm:m=(n:Int)) (hb:n*bytes<=140737488355328) (T:n<=maxLen) (ac:E.nm d=none):
  jJ P r E ⟨some d,.makeSlice t x x,ty,pos,af,g⟩ S (((S.kill d).setBlk d (.row e size false (zKK z n))).put d (.row d)):=
 zAM (by simp) λA w I ρ C hs=>by
  subst hm;obtain⟨i,hi,hz,ad,ab⟩:=G.info;subst ad ab;have k:zKK z n=((List.replicate n z.cells.toList).flatten).map DV.v:=by simp[zKK,List.map_flatten]
  have H:((List.replicate n z.cells.toList).flatten).length=n*i.size:=by simp[G.zs]
  have Y:=hs.newRow (id:=d) (e:=e) (size:=i.size) (n:=n) (c:=n) (xs:=(List.replicate n z.cells.toList).flatten) (cells:=zKK z n) (rest:=[]) G.pos (by rw[k];simpa using H) (dA _) T (by simp)
   (by rw[k];exact zPV _ _ _) (by
    intro u Z;obtain⟨l,hl,Z⟩:=List.mem_flatten.1 Z;rw[List.mem_replicate] at hl;rw[hl.2] at Z;exact G.one u Z) ac
  refine⟨.slice (some ⟨w.heap.size,0,none⟩) n n,_,?_,I,_,C,Y.put hn (by simp[Holds,upd])⟩;have K:=zVK z.cells n;rw[G.zs] at K;have O:madeCells z.cells (n*i.size)=((List.replicate n z.cells.toList).flatten).toArray:=by
   apply Array.ext';simpa using K
  have aa:(i.bytes:Int)*(n:Int)<=281474976710656:=by
   have h:((i.bytes*n:Nat):Int)<=281474976710656:=by rw[Nat.mul_comm];omega
   rwa [Int.natCast_mul] at h
  have D:=run_make (P:=P) w t e i z G.und hi hz .i64 .i64 n n (by omega) (by omega) aa (by simp only[maxLen] at T;omega)
  simp only[Int.toNat_natCast] at D;simp only[execOp,hs.val hx,cS,eA];rw[D,O];rfl
end
open Go.RowKit
structure Agree (S S':AState) (o:Oper):Prop where
 blks:S'.blks=S.blks
 get:∀t,Operand.tmp t∈o.op.operands->S'.get t=S.get t
theorem Agree.ev {S S':AState} {o:Oper} (h:Agree S S' o) {x:Operand} (k:x∈o.op.operands):S'.ev x=S.ev x:=by
 cases x with
 | tmp t=>simp only[AState.ev,h.get t k]
 | _=>rfl
theorem Agree.blk {S S':AState} {o:Oper} (h:Agree S S' o) (id:Nat):S'.blk id=S.blk id:=by unfold AState.blk;rw[h.blks]
def AOp (P:Program) (r:Option Nat) (E:Env) (S:AState) (o:Oper) (d:Nat) (x:AV):Prop:=
 o.dst=some d/\d<E.n/\∀S',Agree S S' o->jJ P r E o S' (S'.put d x)
theorem AOp.step {P:Program} {r:Option Nat} {E:Env} {S:AState} {o:Oper} {d:Nat} {x:AV} (h:AOp P r E S o d x):jJ P r E o S (S.put d x):=h.2.2 S ⟨rfl,λ_ _=>rfl⟩
section
variable {P:Program} {r:Option Nat} {E:Env} {S:AState} {d:Nat} {ty:TypeId} {pos:String} {af:Array Edge} {g:Option (Nat×Bool)}
theorem yOA {x:Operand} (k:d<E.n):AOp P r E S ⟨some d,.move x,ty,pos,af,g⟩ d (S.ev x):=
 ⟨rfl,k,λS' h=>by have:=yBG (P:=P) (r:=r) (S:=S') (x:=x) (ty:=ty) (pos:=pos) (af:=af) (g:=g) k;rwa [h.ev (by simp[Op.operands])] at this⟩
theorem yER {x:Operand} (k:d<E.n):AOp P r E S ⟨some d,.assign x,ty,pos,af,g⟩ d (S.ev x):=
 ⟨rfl,k,λS' h=>by have:=z2S (P:=P) (r:=r) (S:=S') (x:=x) (ty:=ty) (pos:=pos) (af:=af) (g:=g) k;rwa [h.ev (by simp[Op.operands])] at this⟩
section ints
variable {k:IntKind} {x y:Operand} {a b:Int} {tx tz:TypeId} (hn:d<E.n) (hx:S.ev x= .d (.v (.int k a))) (hy:S.ev y= .d (.v (.int k b)))
include hn hx hy
theorem zQT:AOp P r E S ⟨some d,.binOp .lss tx x y tz,ty,pos,af,g⟩ d (.d (.v (.bool (decide (a<b))))):=
 ⟨rfl,hn,λ_ h=>yEF hn ((h.ev (by simp[Op.operands])).trans hx) ((h.ev (by simp[Op.operands])).trans hy)⟩
theorem zLH:AOp P r E S ⟨some d,.binOp .leq tx x y tz,ty,pos,af,g⟩ d (.d (.v (.bool (decide (a<=b))))):=
 ⟨rfl,hn,λ_ h=>yEG hn ((h.ev (by simp[Op.operands])).trans hx) ((h.ev (by simp[Op.operands])).trans hy)⟩
theorem zQU:AOp P r E S ⟨some d,.binOp .gtr tx x y tz,ty,pos,af,g⟩ d (.d (.v (.bool (decide (b<a))))):=
 ⟨rfl,hn,λ_ h=>yEH hn ((h.ev (by simp[Op.operands])).trans hx) ((h.ev (by simp[Op.operands])).trans hy)⟩
theorem zNO:AOp P r E S ⟨some d,.binOp .geq tx x y tz,ty,pos,af,g⟩ d (.d (.v (.bool (decide (b<=a))))):=
 ⟨rfl,hn,λ_ h=>yEI hn ((h.ev (by simp[Op.operands])).trans hx) ((h.ev (by simp[Op.operands])).trans hy)⟩
theorem zMY:AOp P r E S ⟨some d,.binOp .eql tx x y tz,ty,pos,af,g⟩ d (.d (.v (.bool (decide (a=b))))):=
 ⟨rfl,hn,λ_ h=>yEJ hn ((h.ev (by simp[Op.operands])).trans hx) ((h.ev (by simp[Op.operands])).trans hy)⟩
theorem zS8:AOp P r E S ⟨some d,.binOp .neq tx x y tz,ty,pos,af,g⟩ d (.d (.v (.bool (!decide (a=b))))):=
 ⟨rfl,hn,λ_ h=>yEK hn ((h.ev (by simp[Op.operands])).trans hx) ((h.ev (by simp[Op.operands])).trans hy)⟩
end ints
theorem yQ0 {k O:IntKind} {x y:Operand} {a:Int} {m:Nat} {tx tz:TypeId} (D:d<E.n) (H:S.ev x= .d (.v (.int k a))) (K:S.ev y= .d (.v (.int O (m:Int))))
  (G:m<=k.bits):AOp P r E S ⟨some d,.binOp .shr tx x y tz,ty,pos,af,g⟩ d (.d (.v (.int k (a/2 ^ m)))):=
 ⟨rfl,D,λ_ h=>yEL D ((h.ev (by simp[Op.operands])).trans H) ((h.ev (by simp[Op.operands])).trans K) G⟩
theorem zYV {x:Operand} {b:Bool} {tx:TypeId} (k:d<E.n) (D:S.ev x= .d (.v (.bool b))):AOp P r E S ⟨some d,.unOp .not tx x,ty,pos,af,g⟩ d (.d (.v (.bool (!b)))):=
 ⟨rfl,k,λ_ h=>yEM k ((h.ev (by simp[Op.operands])).trans D)⟩
theorem zGT {c:Operand} {t:Nat} {b k:Bool} (D:d<E.n) (G:S.ev c= .d (.v (.bool b))) (H:S.get t= .cond b (.d (.v (.bool k)))):
  AOp P r E S ⟨some d,.pick c (.tmp t) (.const (.bool false)),ty,pos,af,g⟩ d (.d (.v (.bool (b&&k)))):=
 ⟨rfl,D,λ_ h=>zXD D ((h.ev (by simp[Op.operands])).trans G) ((h.get t (by simp[Op.operands])).trans H)⟩
theorem zR3 {c:Operand} {t:Nat} {b k:Bool} (D:d<E.n) (G:S.ev c= .d (.v (.bool b))) (H:S.get t= .cond (!b) (.d (.v (.bool k)))):
  AOp P r E S ⟨some d,.pick c (.const (.bool true)) (.tmp t),ty,pos,af,g⟩ d (.d (.v (.bool (b ||k)))):=
 ⟨rfl,D,λ_ h=>z0A D ((h.ev (by simp[Op.operands])).trans G) ((h.get t (by simp[Op.operands])).trans H)⟩
section strs
variable {x y:Operand} {a b:ByteArray} {tx tz:TypeId} (hn:d<E.n) (hx:S.ev x= .d (.v (.string a))) (hy:S.ev y= .d (.v (.string b)))
include hn hx hy
theorem yOB:AOp P r E S ⟨some d,.binOp .eql tx x y tz,ty,pos,af,g⟩ d (.d (.v (.bool (a.toList==b.toList)))):=
 ⟨rfl,hn,λ_ h=>yBH hn ((h.ev (by simp[Op.operands])).trans hx) ((h.ev (by simp[Op.operands])).trans hy)⟩
theorem yOC:AOp P r E S ⟨some d,.binOp .neq tx x y tz,ty,pos,af,g⟩ d (.d (.v (.bool (!(a.toList==b.toList))))):=
 ⟨rfl,hn,λ_ h=>yBI hn ((h.ev (by simp[Op.operands])).trans hx) ((h.ev (by simp[Op.operands])).trans hy)⟩
theorem yOD:AOp P r E S ⟨some d,.binOp .lss tx x y tz,ty,pos,af,g⟩ d (.d (.v (.bool (Op.bytesLess a.toList b.toList)))):=
 ⟨rfl,hn,λ_ h=>yBJ hn ((h.ev (by simp[Op.operands])).trans hx) ((h.ev (by simp[Op.operands])).trans hy)⟩
end strs
theorem z6J {k D:IntKind} {x:Operand} {a:Int} {H td:TypeId} {ds:TypeDesc} (G:d<E.n) (O:P.underlying H=some ds) (K:P.underlying td=some (.int D)) (T:S.ev x= .d (.v (.int k a))):
  AOp P r E S ⟨some d,.convert H td x,ty,pos,af,g⟩ d (.d (.v (.int D (D.wrap a)))):=
 ⟨rfl,G,λ_ h=>zXE G O K ((h.ev (by simp[Op.operands])).trans T)⟩
theorem zYW {x:Operand} {i:Nat} {ds:List DV} {e:DV} (k:d<E.n) (D:S.ev x= .tup ds) (hi:ds[i]? =some e):AOp P r E S ⟨some d,.extract x i,ty,pos,af,g⟩ d (.d e):=
 ⟨rfl,k,λ_ h=>z0B k ((h.ev (by simp[Op.operands])).trans D) hi⟩
theorem yJS {t e size bytes:Nat} {z:Value} {x:Operand} {cells:List DV} {n:Nat} (k:d<E.n) (D:SlTy P t e size bytes z) (H:S.ev x= .d (.sl size cells)) (G:cells.length=n*size):
  AOp P r E S ⟨some d,.call {callee:= .builtin .len,args:= #[x],argTypes:= #[t]},ty,pos,af,g⟩ d (.d (.v (.int .i64 n))):=
 ⟨rfl,k,λ_ h=>z6H k D ((h.ev (by simp[Op.operands,Call.operands])).trans H) G⟩
theorem yBN {t e size bytes:Nat} {z:Value} {x:Operand} {id:Nat} {K:Bool} {cells:List DV} {n:Nat} (k:d<E.n) (D:SlTy P t e size bytes z) (H:S.ev x= .row id) (hb:S.blk id= .row e size K cells) (G:cells.length=n*size):
  AOp P r E S ⟨some d,.call {callee:= .builtin .len,args:= #[x],argTypes:= #[t]},ty,pos,af,g⟩ d (.d (.v (.int .i64 n))):=
 ⟨rfl,k,λ_ h=>z0C k D ((h.ev (by simp[Op.operands,Call.operands])).trans H) ((h.blk id).trans hb) G⟩
theorem yBO {t:TypeId} {x:Operand} {s:ByteArray} (k:d<E.n) (D:P.underlying t=some .string) (G:S.ev x= .d (.v (.string s))):
  AOp P r E S ⟨some d,.call {callee:= .builtin .len,args:= #[x],argTypes:= #[t]},ty,pos,af,g⟩ d (.d (.v (.int .i64 s.size))):=
 ⟨rfl,k,λ_ h=>z0D k D ((h.ev (by simp[Op.operands,Call.operands])).trans G)⟩
theorem yBP {t e size bytes:Nat} {z:Value} {x H:Operand} {cells:List DV} {n k:Nat} {Z:IntKind} {i:Int} (G:d<E.n) (K:SlTy P t e size bytes z) (Y:S.ev x= .d (.sl size cells))
  (hi:S.ev H= .d (.v (.int Z i))) (O:i=(k:Int)) (T:cells.length=n*size) (D:k<n):
  AOp P r E S ⟨some d,.indexAddr t x H,ty,pos,af,g⟩ d (.ip cells (k*size)):=
 ⟨rfl,G,λ_ h=>z0E G K ((h.ev (by simp[Op.operands])).trans Y) ((h.ev (by simp[Op.operands])).trans hi) O T D⟩
theorem z21 {t e size bytes:Nat} {z:Value} {x H:Operand} {id:Nat} {sh:Bool} {cells:List DV} {n k:Nat} {Z:IntKind} {i:Int} (G:d<E.n) (K:SlTy P t e size bytes z) (Y:S.ev x= .row id)
  (hb:S.blk id= .row e size sh cells) (hi:S.ev H= .d (.v (.int Z i))) (O:i=(k:Int)) (T:cells.length=n*size) (D:k<n):
  AOp P r E S ⟨some d,.indexAddr t x H,ty,pos,af,g⟩ d (.ptr id (k*size)):=
 ⟨rfl,G,λ_ h=>zVC G K ((h.ev (by simp[Op.operands])).trans Y) ((h.blk id).trans hb) ((h.ev (by simp[Op.operands])).trans hi) O T D⟩
theorem kW {t:TypeId} {x:Operand} {cells:List DV} {off:Nat} {e:DV} (k:d<E.n) (D:OneTy P t) (H:S.ev x= .ip cells off) (G:cells[off]? =some e):
  AOp P r E S ⟨some d,.load t x,ty,pos,af,g⟩ d (.d e):=
 ⟨rfl,k,λ_ h=>z0F k D ((h.ev (by simp[Op.operands])).trans H) G⟩
theorem zL8 {t n:Nat} {x:Operand} {cells:List DV} {off:Nat} {es:List DV} (k:d<E.n) (D:AggTy P t n) (K:S.ev x= .ip cells off) (G:(cells.drop off).take n=es) (H:es.length=n):
  AOp P r E S ⟨some d,.load t x,ty,pos,af,g⟩ d (.d (.agg es)):=
 ⟨rfl,k,λ_ h=>zXF k D ((h.ev (by simp[Op.operands])).trans K) G H⟩
theorem zGU {t:TypeId} {x:Operand} {id off eb:Nat} {cells:List AV} {av:AV} (k:d<E.n) (D:OneTy P t) (H:S.ev x= .ptr id off) (hb:S.blk id= .box eb cells) (G:cells[off]? =some av):
  AOp P r E S ⟨some d,.load t x,ty,pos,af,g⟩ d av:=
 ⟨rfl,k,λ_ h=>zXG k D ((h.ev (by simp[Op.operands])).trans H) ((h.blk id).trans hb) G⟩
theorem z6K {t:TypeId} {x:Operand} {id off e size:Nat} {K:Bool} {cells:List DV} {y:DV} (k:d<E.n) (D:OneTy P t) (H:S.ev x= .ptr id off) (hb:S.blk id= .row e size K cells) (G:cells[off]? =some y):
  AOp P r E S ⟨some d,.load t x,ty,pos,af,g⟩ d (.d y):=
 ⟨rfl,k,λ_ h=>zXH k D ((h.ev (by simp[Op.operands])).trans H) ((h.blk id).trans hb) G⟩
theorem z23 {t n:Nat} {x:Operand} {id off e size:Nat} {O:Bool} {cells es:List DV} (k:d<E.n) (D:AggTy P t n) (K:S.ev x= .ptr id off) (hb:S.blk id= .row e size O cells)
  (G:(cells.drop off).take n=es) (H:es.length=n):AOp P r E S ⟨some d,.load t x,ty,pos,af,g⟩ d (.d (.agg es)):=
 ⟨rfl,k,λ_ h=>zVD k D ((h.ev (by simp[Op.operands])).trans K) ((h.blk id).trans hb) G H⟩
def unD:List AV->Option (List DV)
 | []=>some []
 | .d x::r=>match unD r with
  | some ys=>some (x::ys)
  | none=>none
 | _::_=>none
theorem zJE (S:AState):∀{l:List AV} {ds:List DV},unD l=some ds->S.dvL l=some ds/\S.shareL l=S
 | [],ds,h=>by simp[unD] at h;subst h;exact⟨rfl,rfl⟩
 | .d x::l,ds,h=>by
  simp only[unD] at h;cases k:unD l with
  | none=>simp[k] at h
  | some ys=>
   simp[k] at h;subst h;obtain⟨D,G⟩:=zJE S k;exact⟨by simp[AState.dvL,AState.dv,D],by simpa[AState.shareL,AState.shareAV] using G⟩
 | .top::_,_,h=>by simp[unD] at h
 | .row _::_,_,h=>by simp[unD] at h
 | .ptr _ _::_,_,h=>by simp[unD] at h
 | .ip _ _::_,_,h=>by simp[unD] at h
 | .tup _::_,_,h=>by simp[unD] at h
 | .cond _ _::_,_,h=>by simp[unD] at h
 | .gh _::_,_,h=>by simp[unD] at h
 | .rs _ _ _::_,_,h=>by simp[unD] at h
theorem jO {f:FuncId} {xs:List Operand} {ats:Array TypeId} {ds H:List DV} (G:d<E.n) (k:unD (xs.map S.ev)=some ds) (T:zC P f ds H) (hG:E.gdt=zAS P:=by rfl):
  AOp P r E S ⟨some d,.call {callee:= .value (.func f),args:=xs.toArray,argTypes:=ats},ty,pos,af,g⟩ d (zYP H):=
 ⟨rfl,G,λS' h=>by
  have D:xs.map S'.ev=xs.map S.ev:=gw λx Y=>h.ev (by simp[Op.operands,Call.operands,Y]);obtain⟨K,O⟩:=zJE S' k;have:=zYQ (P:=P) (r:=r) (S:=S') (ty:=ty) (pos:=pos) (af:=af) (g:=g) (ats:=ats) G (by rw[D];exact K) T hG
  rwa [D,O] at this⟩
def z24 (P:Program) (r:Option Nat) (E:Env) (ops:Array Oper) (o:Oper) (S S':AState):Prop:=
 ∀a w (K:Act->World->Prop) (Q:Exit->Act->World->Prop),Sat E S a w->(∀h w',Sat E S' h w'->K h w')->
  if Region.wanted o (yielded ops a.tmps) then o.wpIn (fen r) 0 P a w K Q else (∀f,o.about P w a.eval=some f->(fen r).fn f)/\K (a.put o.dst undef) w
def z25 (P:Program) (r:Option Nat) (E:Env) (ops:Array Oper) (S:AState) (o:Oper) (d:Nat) (x:AV):Prop:=
 o.dst=some d/\d<E.n/\∀S',S'.blks=S.blks->(∀t∈o.looksAt ops,S'.get t=S.get t)->z24 P r E ops o S' (S'.put d x)
theorem zOK {ops:Array Oper} {o:Oper} {t:Nat} (h:Operand.tmp t∈o.op.operands):t∈o.looksAt ops:=
 List.mem_append_left _ (List.mem_filterMap.2 ⟨.tmp t,by simpa using h,rfl⟩)
theorem zJF {ops:Array Oper} {o:Oper} {S':AState} (k:o.guard=none) (h:jJ P r E o S S'):z24 P r E ops o S S':=λa w K Q G D=>by simp only[Region.wanted,k,dG];exact h a w K Q G D
theorem z26 {ops:Array Oper} {o:Oper} {x:AV} (k:o.guard=none) (h:AOp P r E S o d x):z25 P r E ops S o d x:=
 ⟨h.1,h.2.1,λS' hb D=>zJF k (h.2.2 S' ⟨hb,λt G=>D t (zOK G)⟩)⟩
theorem z27 {a:Act} {w:World} {c:Bool} {x:AV} (T:d<E.n) (O:c=true) (h:Sat E (S.put d x) a w):Sat E (S.put d (.cond c x)) a w:=by
 obtain⟨K,D,H,k⟩:=h;refine⟨K,D,H,⟨λu=>?_,k.blks,k.dist,by have:=k.frame;rw[zA0 _ _ T] at this ⊢;exact this,k.sub,k.old,k.size,k.defers,k.cI,k.cB,k.nm⟩⟩
 have:=k.tmps u;rw[uJ] at this ⊢;by_cases e:d=u;simp only[e,dG] at this ⊢;exact⟨λ_=>this,λG=>by rw[O] at G;cases G⟩
 simp only[e,cV] at this ⊢;exact this
theorem z29 {ops:Array Oper} {o:Oper} {j t:Nat} {k b:Bool} {x:AV} (hg:o.guard=some (j,k)) (hj:(ops[j]?).bind (·.dst)=some t) (hd:o.dst=some d) (K:d<E.n) (O:t<E.n)
    (Y:S.get t= .d (.v (.bool b))) (h:gd k b=true->AOp P r E S o d x):z25 P r E ops S o d (.cond (gd k b) x):=by
  refine⟨hd,K,λS' hb hl a w Kn Q hs hk=>?_⟩;obtain⟨I,ρ,C,D⟩:=hs;have Z:t∈o.looksAt ops:=List.mem_append_right _ (by simp[hg,hj]);have hy:=D.yield (ops:=ops) hj ((hl t Z).trans Y) O;have H:Region.wanted o (yielded ops a.tmps)=gd k b:=by
    simp only[Region.wanted,hg,hy];cases k<;>cases b<;>rfl
  rw[H];cases G:gd k b with
  | true=>
    simp only[dG];refine(h G).2.2 S' ⟨hb,λt Y=>hl t (zOK Y)⟩ a w Kn Q ⟨I,ρ,C,D⟩ λa' w' T=>hk a' w' ?_;rw[G];exact z27 K rfl T
  | false=>
    simp only[dN,cV];refine⟨λ_ _=>trivial,hk _ _ ?_⟩;rw[hd,G];exact⟨I,ρ,C,D.put K ⟨λhf=>(by cases hf),λ_=>rfl⟩⟩
theorem zYX {ops:Array Oper} {o:Oper} {j t:Nat} {k b c:Bool} {x:AV} (hg:o.guard=some (j,k)) (hj:(ops[j]?).bind (·.dst)=some t) (hd:o.dst=some d) (K:d<E.n) (O:t<E.n)
    (Y:S.get t= .cond c (.d (.v (.bool b)))) (h:(c&&gd k b)=true->AOp P r E S o d x):z25 P r E ops S o d (.cond (c&&gd k b) x):=by
  refine⟨hd,K,λS' hb hl a w Kn Q hs hk=>?_⟩;obtain⟨I,ρ,C,D⟩:=hs;have Z:t∈o.looksAt ops:=List.mem_append_right _ (by simp[hg,hj]);have hy:=D.yield2 (ops:=ops) hj ((hl t Z).trans Y) O;have H:Region.wanted o (yielded ops a.tmps)=(c&&gd k b):=by
    simp only[Region.wanted,hg,hy];cases k<;>cases b<;>cases c<;>rfl
  rw[H];cases G:(c&&gd k b) with
  | true=>
    simp only[dG];refine(h G).2.2 S' ⟨hb,λt Y=>hl t (zOK Y)⟩ a w Kn Q ⟨I,ρ,C,D⟩ λa' w' T=>hk a' w' ?_;rw[G];exact z27 K rfl T
  | false=>
    simp only[dN,cV];refine⟨λ_ _=>trivial,hk _ _ ?_⟩;rw[hd,G];exact⟨I,ρ,C,D.put K ⟨λhf=>(by cases hf),λ_=>rfl⟩⟩
def Sq (P:Program) (r:Option Nat) (E:Env) (ops:Array Oper):List Oper->AState->(AState->Prop)->Prop
 | [],S,J=>J S
 | o::rest,S,J=> ∃S',z24 P r E ops o S S'/\Sq P r E ops rest S' J
theorem zJ {ops:Array Oper} {J:AState->Prop} (h:J S):Sq P r E ops [] S J:=h
theorem yOE {ops:Array Oper} {o:Oper} {rest:List Oper} {J:AState->Prop} {x:AV} (h:z25 P r E ops S o d x) (k:Sq P r E ops rest (S.put d x) J):Sq P r E ops (o::rest) S J:=
 ⟨_,h.2.2 S rfl (λ_ _=>rfl),k⟩
theorem yC {ops:Array Oper} {o:Oper} {rest:List Oper} {J:AState->Prop} {S':AState} (D:o.guard=none) (h:jJ P r E o S S') (k:Sq P r E ops rest S' J):Sq P r E ops (o::rest) S J:=
 ⟨_,zJF D h,k⟩
theorem zEN {ops:Array Oper} {rest:List Oper} {J:AState->Prop} {S':AState} (O:zGM E S S') (k:Sq P r E ops rest S' J) (D:rest≠[]):Sq P r E ops rest S J:=by
 cases rest with
 | nil=>exact absurd rfl D
 | cons o rest=>
  obtain⟨S2,h,k⟩:=k;exact⟨S2,λa w K Q H G=>h a w K Q (O a w H) G,k⟩
theorem Sq.wp {ops:Array Oper} {Q:Exit->Act->World->Prop}:∀(l:List Oper) {S:AState} {J:AState->Prop} (_:Sq P r E ops l S J) (a:Act) (w:World),Sat E S a w->(∀S' D w',J S'->Sat E S' D w'->Q .normal D w')->wpListIn (fen r) 0 P ops Q l a w
 | [],_,_,h,a,w,H,G=>G _ a w h H
 | _::l,_,_,⟨_,h,k⟩,a,w,H,G=>wpListIn_step λK T=>h a w K Q H λD w' O=>T D w' (Sq.wp l k D w' O G)
theorem xH {id:Nat} {l:List Oper} {K:Exit->AState->Prop} (h:Sq P r E l.toArray l S (K .normal)):Avc P r E (.region id l.toArray false) K S:=λa w G=>
 wpIn_region_lit (Sq.wp l h a w G λS' _ _ D k=>⟨S',D,k⟩)
end
open Go.RowKit
def aft (o:Oper):List Nat:=(o.after.toList.filter λe=>Region.binds .any e).map (·.on)
def clo:List Oper->List (List Nat)->List (List Nat)
 | [],acc=>acc
 | o::l,acc=>clo l (acc++ [((aft o).flatMap λj=>j::acc.getD j []).eraseDups])
inductive Reach (l:List Oper):Nat->Nat->Prop
 | one {i j:Nat} {o:Oper} (h:l[i]? =some o) (hj:j∈aft o):Reach l i j
 | more {i k j:Nat} {o:Oper} (h:l[i]? =some o) (hk:k∈aft o) (hr:Reach l k j):Reach l i j
theorem yBQ (H:List Oper):∀(l:List Oper) (acc:List (List Nat)),(∀(k:Nat) o,l[k]? =some o->H[acc.length+k]? =some o)->(∀i j,j∈acc.getD i []->Reach H i j)->∀i j,j∈(clo l acc).getD i []->Reach H i j:=by
 intro l
 induction l with
 | nil=>intro acc _ h i j hj;exact h i j hj
 | cons o l Y=>
  intro acc T D;refine Y _ (λk Z G=>?_) (λi j hj=>?_)
  ·have:=T (k+1) Z (by simpa using G)
   simp only[cU,hJ]
   rwa [show acc.length+1+k=acc.length+(k+1) by omega]
  ·have O:H[acc.length]? =some o:=by simpa using T 0 o rfl
   rcases Nat.lt_trichotomy i acc.length with K | heq | hgt
   ·have:(acc++ [((aft o).flatMap λj=>j::acc.getD j []).eraseDups]).getD i []=acc.getD i []:=by
     simp[List.getD,dY K]
    rw[this] at hj;exact D i j hj
   ·subst heq
    have:(acc++ [((aft o).flatMap λj=>j::acc.getD j []).eraseDups]).getD acc.length []=((aft o).flatMap λj=>j::acc.getD j []).eraseDups:=by
     simp[List.getD]
    rw[this,List.mem_eraseDups,List.mem_flatMap] at hj;obtain⟨k,G,hj⟩:=hj;rcases dL.1 hj with rfl | hj
    ·exact .one O G
    ·exact .more O G (D k j hj)
   ·have:(acc++ [((aft o).flatMap λj=>j::acc.getD j []).eraseDups]).getD i []= []:=by
     simp only[List.getD];rw[fG (by simp;omega)]
     rfl
    rw[this] at hj;cases hj
def dstAt (l:List Oper) (i:Nat):Option Nat:=(l[i]?).bind (·.dst)
def z0G (l:List Oper) (N:Nat):Bool:=
 let c:=clo l []
 decide (N<=l.length)&&
 (List.range l.length).all λi=>match l[i]? with
  | none=>true
  | some o=>
   ((aft o).all λj=>decide (j<i))&&
   (if i<N then
    ((o.looksAt l.toArray).all λt=>(List.range N).all λj=>(Nat.beq j i ||(dstAt l j != some t)) ||(if j<i then (c.getD i []).contains j else (c.getD j []).contains i))&&
    ((List.range N).all λj=>Nat.beq j i ||(dstAt l j != o.dst))
   else (List.range i).all λj=>(c.getD i []).contains j)
structure DrawOk (l:List Oper) (N:Nat):Prop where
 le:N<=l.length
 aft:∀i o,l[i]? =some o->∀j∈aft o,j<i
 looks:∀i o,i<N->l[i]? =some o->∀t∈o.looksAt l.toArray,∀j,j<N->j≠i->dstAt l j=some t->if j<i then Reach l i j else Reach l j i
 dist:∀i o,i<N->l[i]? =some o->∀j,j<N->j≠i->dstAt l j≠o.dst
 tail:∀i o,N<=i->l[i]? =some o->∀j,j<i->Reach l i j
theorem z3A {l:List Oper} {N:Nat} (h:z0G l N=true):DrawOk l N:=by
 have T:∀i j,j∈(clo l []).getD i []->Reach l i j:=yBQ l l [] (λk o hk=>by simpa using hk) (λi j G=>by simp at G);simp only[z0G,dE,cZ,dS,fH] at h;obtain⟨Y,h⟩:=h;have hi:∀(i:Nat) o,l[i]? =some o->i<l.length:=λi o D=>(cX.1 D).1;refine⟨Y,λi o D j G=>?_,λi o O D t ht j G H Z=>?_,λi o O D j G H=>?_,λi o O D j G=>?_⟩;have:=h i (hi i o D);simp only[D,dE,dS,cZ] at this;exact this.1 j G;have:=h i (hi i o D);simp only[D,dE,dS,cZ,O,dG,fH,fB,ib] at this;have h2:=this.2.1 t ht j G;rcases h2 with (h2 | h2) | h2
 exact absurd h2 H;rw[Z] at h2;simp at h2;by_cases K:j<i;simp only[K,dG] at h2 ⊢;exact T i j (by simpa using h2);simp only[K,cV] at h2 ⊢;exact T j i (by simpa using h2);have:=h i (hi i o D);simp only[D,dE,dS,cZ,O,dG,fH,fB,ib] at this;rcases this.2.2 j G with h2 | h2
 exact absurd h2 H;simpa using h2;have:=h i (hi i o D);have hn:¬i<N:=by omega
 simp only[D,dE,dS,cZ,hn,cV,fH] at this;exact T i j (by simpa using this.2 j G)
def DA (P:Program) (r:Option Nat) (E:Env) (ops:Array Oper):List Oper->AState->(AState->Prop)->Prop
 | [],S,J=>J S
 | o::rest,S,J=> ∃d x,z25 P r E ops S o d x/\DA P r E ops rest (S.put d x) J
section
variable {P:Program} {r:Option Nat} {E:Env} {S:AState} {d:Nat}
theorem xI {ops:Array Oper} {J:AState->Prop} (h:J S):DA P r E ops [] S J:=h
theorem yOF {ops:Array Oper} {o:Oper} {rest:List Oper} {J:AState->Prop} {x:AV} (h:z25 P r E ops S o d x) (k:DA P r E ops rest (S.put d x) J):DA P r E ops (o::rest) S J:=⟨d,x,h,k⟩
def zQV (S:AState):List (Nat×AV)->AState
 | []=>S
 | p::h=>zQV (S.put p.1 p.2) h
theorem zR4 (S:AState) (h:List (Nat×AV)):(zQV S h).blks=S.blks:=by
 induction h generalizing S with
 | nil=>rfl
 | cons q h k=>exact k _
theorem DA.list {ops:Array Oper}:∀(l:List Oper) {S:AState} {J:AState->Prop},DA P r E ops l S J->
  ∃D:List (Nat×AV),D.length=l.length/\J (zQV S D)/\∀(i:Nat) o p,l[i]? =some o->D[i]? =some p->z25 P r E ops (zQV S (D.take i)) o p.1 p.2
 | [],S,_,h=>⟨[],rfl,h,by simp⟩
 | o::l,S,_,⟨d,x,h,k⟩=>by
  obtain⟨D,K,O,T⟩:=DA.list l k;refine⟨(d,x)::D,by simp[K],O,λi Y p G H=>?_⟩;cases i with
  | zero=>simp at G H;subst G;subst H;exact h
  | succ i=>exact T i Y p (by simpa using G) (by simpa using H)
theorem z3B (h:List (Nat×AV)):∀(S:AState),(∀(i j:Nat) p q,h[i]? =some p->h[j]? =some q->i≠j->p.1≠q.1)->
  (∀(i:Nat) p,h[i]? =some p->(zQV S h).get p.1=p.2)/\∀t,(∀(i:Nat) p,h[i]? =some p->p.1≠t)->(zQV S h).get t=S.get t:=by
 induction h with
 | nil=>intro S _;exact⟨by simp,λt _=>rfl⟩
 | cons q h Z=>
  intro S H;have D:∀(i j:Nat) p q,h[i]? =some p->h[j]? =some q->i≠j->p.1≠q.1:=λi j p q k Y T=>H (i+1) (j+1) p q (by simpa using k) (by simpa using Y) (by omega);obtain⟨O,G⟩:=Z (S.put q.1 q.2) D;refine⟨λi p k=>?_,λt K=>?_⟩
  ·cases i with
   | zero=>
    simp at k;subst k;show (zQV (S.put q.1 q.2) h).get q.1=q.2;rw[G q.1 (λi p k=>H (i+1) 0 p q (by simpa using k) rfl (by omega)),uJ];simp
   | succ i=>exact O i p (by simpa using k)
  ·show (zQV (S.put q.1 q.2) h).get t=S.get t
   rw[G t (λi p k=>K (i+1) p (by simpa using k)),uJ,dK (K 0 q rfl)]
theorem zYY {S S':AState} (hb:S'.blks=S.blks) (H:∀t,S'.get t=S.get t) {a:Act} {w:World} (h:Sat E S a w):Sat E S' a w:=by
 obtain⟨I,ρ,C,h⟩:=h;have k:∀i,S'.blk i=S.blk i:=λi=>by unfold AState.blk;rw[hb]
 exact⟨I,ρ,C,⟨λt=>by rw[H];exact h.tmps t,λi=>by rw[k];exact h.blks i,λi T b K hi G=>h.dist i T b K (by rw[<-k];exact hi) (by rw[<-k];exact G),by have:=h.frame;unfold AState.ghost at this ⊢;rw[H];exact this,h.sub,h.old,h.size,h.defers,h.cI,λi b hi D=>h.cB i b (by rw[<-k];exact hi) D,λi v O hi=>h.nm i v O (by rw[<-k];exact hi)⟩⟩
theorem z3C {S:AState} {a:Act} {w:World} (h:Sat E S a w):Sat E S a {w with drawn:=w.drawn+1}:=by obtain⟨I,ρ,C,h⟩:=h;exact⟨I,ρ,C,h.grow (Below.drew (Below.refl _ _))⟩
structure Lst (S:AState) (ps:List (Nat×AV)) (L:Nat->Bool) (S':AState):Prop where
 blks:S'.blks=S.blks
 yes:∀(i:Nat) p,ps[i]? =some p->L i=true->S'.get p.1=p.2
 no:∀t,(∀(i:Nat) p,ps[i]? =some p->L i=true->p.1≠t)->S'.get t=S.get t
def unl (listed:Array Bool):Nat:=(listed.toList.filter (λb=>!b)).length
theorem z9A {listed:Array Bool} {i:Nat} (h:listed[i]? =some false):unl (listed.setIfInBounds i true)+1=unl listed:=by
 obtain⟨G,O⟩:=cQ.1 h;unfold unl;rw[Array.toList_setIfInBounds];have D:i<listed.toList.length:=by simpa using G
 have k:listed.toList=listed.toList.take i++false::listed.toList.drop (i+1):=by
  have K:listed.toList[i]=false:=by simpa using O
  have H:listed.toList.drop i=listed.toList[i]::listed.toList.drop (i+1):=cY D;rw[K] at H;rw[<-H,et]
 rw[gA,dI D]
 conv=>rhs;rw[k]
 simp;omega
theorem zEC {l:List Oper} {listed:Array Bool} {i:Nat} (h:i∈Region.ready .any l.toArray listed):
  i<l.length/\listed.getD i true=false/\∀o,l[i]? =some o->∀j∈aft o,listed.getD j false=true:=by
 simp only[Region.ready,e6,fH,dE,fS,fW] at h;obtain⟨D,G,h3⟩:=h;refine⟨D,G,λo K j k=>?_⟩;simp only[eX,K,eZ,gD,Array.all_eq_true_iff_forall_mem,fB,fS] at h3;simp only[aft,eK,e6] at k;obtain⟨e,⟨H,hb⟩,rfl⟩:=k;rcases h3 e (by simpa using H) with h3 | h3
 ·rw[hb] at h3;cases h3
 ·exact h3
theorem zVL {l:List Oper} {listed:Array Bool} {i:Nat} {o:Oper} (h:l[i]? =some o) (k:listed.getD i true=false) (D:∀j∈aft o,listed.getD j false=true):
  i∈Region.ready .any l.toArray listed:=by
 simp only[Region.ready,e6,fH,dE,fS,fW];refine⟨(cX.1 h).1,k,?_⟩;simp only[eX,h,eZ,gD,Array.all_eq_true_iff_forall_mem,fB,fS];intro e G;cases hb:Region.binds .any e with
 | false=>exact .inl rfl
 | true=>exact .inr (D e.on (by simp only[aft,eK,e6];exact⟨e,⟨by simpa using G,hb⟩,rfl⟩))
structure Down (l:List Oper) (listed:Array Bool):Prop where
 size:listed.size=l.length
 down:∀(i:Nat) o,l[i]? =some o->listed.getD i false=true->∀j∈aft o,listed.getD j false=true
theorem Down.reach {l:List Oper} {listed:Array Bool} (h:Down l listed) {i j:Nat} (T:Reach l i j) (hi:∀o,l[i]? =some o->∀k∈aft o,listed.getD k false=true):listed.getD j false=true:=by
 induction T with
 | one G K=>exact hi _ G _ K
 | more G O _ Y=>exact Y λo' H Z D=>h.down _ o' H (hi _ G _ O) Z D
theorem Down.set {l:List Oper} {listed:Array Bool} (h:Down l listed) {i:Nat} (hi:∀o,l[i]? =some o->∀k∈aft o,listed.getD k false=true):Down l (listed.setIfInBounds i true):=by
 have mono:∀k,listed.getD k false=true->(listed.setIfInBounds i true).getD k false=true:=by
  intro k D;simp only[dF] at D ⊢;by_cases e:i=k;subst e;by_cases H:i<listed.size;simp[H];simp[H] at D;rw[dU e];exact D
 refine⟨by simp[h.size],λj o K G k D=>mono k ?_⟩;by_cases e:i=j;subst e;exact hi o K k D;refine h.down j o K ?_ k D;simp only[dF] at G ⊢
 rwa [dU e] at G
theorem zNP {listed:Array Bool} {i k:Nat} (hi:i<listed.size):(listed.setIfInBounds i true).getD k false=(if i=k then true else listed.getD k false):=by simp only[dF];by_cases e:i=k;subst e;simp[hi];rw[dU e,dK e]
theorem zYZ {l:List Oper} {N:Nat} (G:DrawOk l N) {listed:Array Bool} (O:listed.size=l.length) (h:Region.ready .any l.toArray listed= []):∀i,i<l.length->listed.getD i false=true:=by
 intro i
 induction i using Nat.strongRecOn with
 | _ i T=>
  intro hi;cases hb:listed.getD i false with
  | true=>rfl
  | false=>
   exfalso;have D:i<listed.size:=by omega
   have H:listed.getD i true=false:=by simpa[dF,D] using hb
   have:=zVL (l:=l) (o:=l[i]) (cO hi) H (λj K=>by
    have k:=G.aft i _ (cO hi) j K;exact T j k (by omega))
   rw[h] at this;cases this
theorem z3D {listed:Array Bool} (h:unl listed=0):∀i,i<listed.size->listed.getD i false=true:=by intro i hi;unfold unl at h;have:=cP h;rw[List.filter_eq_nil_iff] at this;have k:=this listed[i] (by simp);simp[dF,hi];simpa using k
theorem zY0 {l:List Oper} {listed:Array Bool} (h:∀i,i<l.length->listed.getD i false=true) (H:listed.size=l.length):Region.ready .any l.toArray listed= []:=by
 apply gK.2;intro i hi;obtain⟨G,k,_⟩:=zEC hi;have:=h i G;have D:i<listed.size:=by omega
 simp[dF,D] at this k;rw[this] at k;cases k
variable {l:List Oper} {N:Nat} {Q:Exit->Act->World->Prop}
theorem yES (ad:DrawOk l N) {J:AState->Prop} (hq:∀S' a' w',J S'->Sat E S' a' w'->Q .normal a' w'):
  ∀(fuel m:Nat) (listed:Array Bool) (S:AState) (a:Act) (w:World),N<=m->Down l listed->unl listed<=fuel->(∀i,i<l.length->(listed.getD i false=true↔i<m))->
   Sq P r E l.toArray (l.drop m) S J->Sat E S a w->wpAnyIn (fen r) 0 P .any l.toArray Q fuel listed a w:=by
 intro fuel
 induction fuel with
 | zero=>
  intro m listed S a w hm K hu Y D hs;have G:∀i,i<l.length->listed.getD i false=true:=λi hi=>z3D (by omega) i (by rw[K.size];exact hi)
  have O:l.length<=m:=by
   rcases fK m l.length with h | h
   ·have:=(Y m h).1 (G m h);omega
   ·exact h
  rw[dC O] at D;exact⟨zY0 G K.size,hq S a w D hs⟩
 | succ fuel ih=>
  intro m listed S a w hm K hu Y D hs;refine⟨λac=>?_,λi hi=>?_⟩
  ·have G:=zYZ ad K.size ac
   have O:l.length<=m:=by
    rcases fK m l.length with h | h
    ·have:=(Y m h).1 (G m h);omega
    ·exact h
   rw[dC O] at D;exact hq S a w D hs
  ·obtain⟨h1,h2,h3⟩:=zEC hi
   have H:i<listed.size:=by rw[K.size];exact h1
   have ab:=cO h1;have Z:listed.getD i false=false:=by simpa[dF,H] using h2
   have ap:m<=i:=by
    rcases fK i m with h | h
    ·have:=(Y i h1).2 h;rw[Z] at this;cases this
    ·exact h
   have aa:i=m:=by
    rcases fK m i with h | h
    ·have hr:=ad.tail i _ (by omega) ab m h
     have:=K.reach hr h3;have:=(Y m (by omega)).1 this;omega
    ·omega
   subst aa;rw[cY h1] at D;obtain⟨S',T,ag⟩:=D;have ak:listed[i]? =some false:=by
    have:listed[i]=false:=by simpa[dF,H] using Z
    rw[fO H,this]
   unfold wpOpIn;simp only[eX,ab];refine T a w _ Q hs λa' w' al=>?_;refine ih (i+1) _ S' a' w' (by omega) (K.set h3) (by have:=z9A ak;omega) (λk hk=>?_) ag al
   rw[zNP H];by_cases e:i=k
   ·subst e;simp
   ·simp only[e,cV]
    rw[Y k hk];omega
theorem yBR (ak:DrawOk l N) {J:AState->Prop} (hq:∀S' a' w',J S'->Sat E S' a' w'->Q .normal a' w') (S:AState) (T:List (Nat×AV)) (cb:T.length=N)
  (hA:∀(i:Nat) o p,i<N->l[i]? =some o->T[i]? =some p->z25 P r E l.toArray (zQV S (T.take i)) o p.1 p.2) (hB:Sq P r E l.toArray (l.drop N) (zQV S T) J):
  ∀(fuel:Nat) (listed:Array Bool) (S':AState) (a:Act) (w:World),Down l listed->unl listed<=fuel->(∀i,N<=i->i<l.length->listed.getD i false=false)->
   Lst S T (λi=>listed.getD i false) S'->Sat E S' a w->wpAnyIn (fen r) 0 P .any l.toArray Q fuel listed a w:=by
 have cn:=ak.le;have aa:∀(i:Nat) p,T[i]? =some p->∃o,l[i]? =some o/\i<N/\o.dst=some p.1:=by
  intro i p H;have hi:i<N:=by rw[<-cb];exact(cX.1 H).1
  have ac:=cO (l:=l) (i:=i) (by omega);exact⟨_,ac,hi,(hA i _ p hi ac H).1⟩
 have G:∀(i j:Nat) p q,T[i]? =some p->T[j]? =some q->i≠j->p.1≠q.1:=by
  intro i j p q H al az he;obtain⟨o,ho,hi,hd⟩:=aa i p H;obtain⟨o',ba,hj,bp⟩:=aa j q al;refine ak.dist i o hi ho j hj (λe=>az e.symm) ?_;simp only[dstAt,ba,Option.bind_some,bp,hd,he]
 have au:∀S',Lst S T (λ_=>true) S'->∀t,S'.get t=(zQV S T).get t:=by
  intro S' h t;obtain⟨g1,g2⟩:=z3B T S G;by_cases am:∃(i:Nat) (p:Nat×AV),T[i]? =some p/\p.1=t
  ·obtain⟨i,p,H,rfl⟩:=am
   rw[h.yes i p H rfl,g1 i p H]
  ·have ao:∀(i:Nat) p,T[i]? =some p->p.1≠t:=λi p H e=>am ⟨i,p,H,e⟩
   rw[h.no t (λi p H _=>ao i p H),g2 t ao]
 intro fuel
 induction fuel with
 | zero=>
  intro listed S' a w hd hu hN Z hs;have O:∀i,i<l.length->listed.getD i false=true:=λi hi=>z3D (by omega) i (by rw[hd.size];exact hi)
  have ax:N=l.length:=by
   rcases fK N l.length with h | h
   ·have:=hN N (dA _) h;rw[O N h] at this;cases this
   ·omega
  rw[ax,dC (dA _)] at hB;refine⟨zY0 O hd.size,hq _ a w hB (zYY (by rw[zR4,Z.blks]) (λt=>(au S' ⟨Z.blks,λi p H _=>Z.yes i p H ?_,λt ht=>Z.no t λi p H _=>ht i p H rfl⟩ t).symm) hs)⟩;exact O i (by obtain⟨_,_,h,_⟩:=aa i p H;omega)
 | succ fuel ih=>
  intro listed S' a w hd hu hN Z hs;have ai:(∀i,i<N->listed.getD i false=true)->Sat E (zQV S T) a w:=λh=>
   zYY (by rw[zR4,Z.blks]) (λt=>(au S' ⟨Z.blks,λi p H _=>Z.yes i p H (h i (aa i p H).choose_spec.2.1),λt ht=>Z.no t λi p H _=>ht i p H rfl⟩ t).symm) hs
  refine⟨λbj=>?_,λi hi=>?_⟩
  ·have O:=zYZ ak hd.size bj
   have ax:N=l.length:=by
    rcases fK N l.length with h | h
    ·have:=hN N (dA _) h;rw[O N h] at this;cases this
    ·omega
   have ap:=ai λi hi=>O i (by omega);rw[ax,dC (dA _)] at hB;exact hq _ a w hB ap
  ·obtain⟨h1,h2,h3⟩:=zEC hi
   have ag:i<listed.size:=by rw[hd.size];exact h1
   have ac:=cO h1;have ay:listed.getD i false=false:=by simpa[dF,ag] using h2
   have bv:listed[i]? =some false:=by
    have:listed[i]=false:=by simpa[dF,ag] using ay
    rw[fO ag,this]
   by_cases bh:i<N
   ·have ca:i<T.length:=by omega
    have H:=cO ca;obtain⟨cj,ck,bb⟩:=hA i _ _ bh ac H;have bo:∀t∈(l[i]).looksAt l.toArray,S'.get t=(zQV S (T.take i)).get t:=by
     intro t ht;have aq:∀(a b:Nat) p q,(T.take i)[a]? =some p->(T.take i)[b]? =some q->a≠b->p.1≠q.1:=by
      intro a b p q H al az;rw[d5] at H al;split at H
      ·split at al
       ·exact G a b p q H al az
       ·cases al
      ·cases H
     obtain⟨g1,g2⟩:=z3B (T.take i) S aq;have K:∀(k:Nat) p,(T.take i)[k]? =some p->k<i/\T[k]? =some p:=by
      intro k p D;rw[d5] at D;split at D
      ·exact⟨by assumption,D⟩
      ·cases D
     by_cases am:∃(j:Nat) (q:Nat×AV),T[j]? =some q/\q.1=t
     ·obtain⟨j,q,ah,rfl⟩:=am
      obtain⟨o',ba,br,bq⟩:=aa j q ah;have bg:dstAt l j=some q.1:=by simp[dstAt,ba,bq]
      by_cases bi:j=i
      ·subst bi
       rw[Z.no q.1 (λk p D Y he=>by
         have:k=j:=by
          rcases Nat.decEq k j with h | h
          ·exact absurd he (G k j p q D ah h)
          ·exact h
         subst this;rw[ay] at Y;cases Y),
        g2 q.1 (λk p D he=>by
         obtain⟨bt,ad⟩:=K k p D;exact G k j p q ad ah (by omega) he)]
      ·have:=ak.looks i _ bh ac q.1 ht j br bi bg
       by_cases an:j<i
       ·simp only[an,dG] at this
        have bw:=hd.reach this h3;rw[Z.yes j q ah bw];exact(g1 j q (by rw[d5,dI an];exact ah)).symm
       ·simp only[an,cV] at this
        have bx:listed.getD j false=false:=by
         cases hb:listed.getD j false with
         | false=>rfl
         | true=>
          have:=hd.reach this (λo ho k D=>hd.down j o ho hb k D);rw[ay] at this;cases this
        rw[Z.no q.1 (λk p D Y he=>by
          have:k=j:=by
           rcases Nat.decEq k j with h | h
           ·exact absurd he (G k j p q D ah h)
           ·exact h
          subst this;rw[bx] at Y;cases Y),
         g2 q.1 (λk p D he=>by
          obtain⟨bt,ad⟩:=K k p D;exact G k j p q ad ah (by omega) he)]
     ·have ao:∀(k:Nat) p,T[k]? =some p->p.1≠t:=λk p D e=>am ⟨k,p,D,e⟩
      rw[Z.no t (λk p D _=>ao k p D),g2 t (λk p D=>ao k p (K k p D).2)]
    have ap:=bb S' (by rw[zR4,Z.blks]) bo;unfold wpOpIn;simp only[eX,ac];refine ap a w _ Q hs λa' w' cd=>?_;refine ih _ (S'.put T[i].1 T[i].2) a' w' (hd.set h3) (by have:=z9A bv;omega) (λk D bu=>?_) ⟨Z.blks,λk p D Y=>?_,λt ht=>?_⟩ cd
    ·rw[zNP ag,dK (by omega)];exact hN k D bu
    ·rw[zNP ag] at Y
     rw[uJ];by_cases e:i=k
     ·subst e
      rw[H] at D;cases D;simp
     ·simp only[e,cV] at Y
      rw[dK (G i k _ p H D e)];exact Z.yes k p D Y
    ·rw[uJ,dK (ht i _ H (by rw[zNP ag];simp))]
     exact Z.no t λk p D Y=>ht k p D (by rw[zNP ag];split<;>simp_all)
   ·have ab:∀k,k<i->listed.getD k false=true:=λk D=>hd.reach (ak.tail i _ (by omega) ac k D) h3
    have cg:i=N:=by
     rcases fK N i with h | h
     ·have:=ab N h;rw[hN N (dA _) (by omega)] at this;cases this
     ·omega
    have ap:=ai λk D=>ab k (by omega);have bc:=yES (P:=P) (r:=r) ak hq (fuel+1) N listed (zQV S T) a w (dA _) hd hu (λk D=>⟨λad=>(by
      rcases fK k N with h | h
      ·exact h
      ·rw[hN k h D] at ad;cases ad),λad=>ab k (by omega)⟩) hB ap
    exact bc.2 i hi
theorem zED {id:Nat} {K:Exit->AState->Prop} {S:AState} (N:Nat) (hm:P.follows .mixedOrders=true) (k:z0G l N=true)
  (h:DA P r E l.toArray (l.take N) S (λT=>Sq P r E l.toArray (l.drop N) T (K .normal))):Avc P r E (.region id l.toArray true) K S:=by
 intro a w hs;have H:=z3A k;obtain⟨O,Y,Z,h3⟩:=DA.list _ h;have D:O.length=N:=by rw[Y,dZ];have:=H.le;omega
 refine wpIn_region_any hm (yBR H (J:=K .normal) (λS' a' w' hj G=>⟨S',hj,G⟩) S O D (λi o p hi ho hp=>h3 i o p (by rw[d5,dI hi];exact ho) hp) Z _ _ S a _ ⟨by simp,λi o _ hi=>?_⟩ ?_ (λi _ hi=>by simp[hi]) ⟨rfl,λi p _ hi=>?_,λt _=>rfl⟩ (z3C hs))
 ·simp[dF,Array.getElem?_replicate] at hi
  split at hi<;>simp at hi
 ·simp[unl]
 ·simp[dF,Array.getElem?_replicate] at hi
  split at hi<;>simp at hi
end
open Go.RowKit
def di (n:Int):DV:= .v (.int .i64 n)
def db (b:Bool):DV:= .v (.bool b)
theorem w64 {n:Int} (h: -9223372036854775808<=n) (k:n<=9223372036854775807):IntKind.i64.wrap n=n:=IntWalk.i64_in _ (by omega)
def Cov (S:AState):List (Nat×AV)->Prop
 | []=>True
 | p::r=>S.get p.1=p.2/\Cov S r
def zPW (S:AState):List (Nat×Blk)->Prop
 | []=>True
 | p::r=>S.blk p.1=p.2/\zPW S r
theorem yET {E : Env} {S S' : AState} (ht : Cov S S'.tmps) (hb : zPW S S'.blks) (hgh : ∀ C w, E.fr S.ghost C w -> E.fr S'.ghost C w := by exact λ_ _ h => h) : zGM E S S' := by
  have h1 : ∀ l, Cov S l -> ∀ p ∈ l, S.get p.1 = p.2 := by
    intro l
    induction l with
    | nil => intro _ p hp; cases hp
    | cons q l ih => intro h p hp; rcases dL.1 hp with rfl | hp
                     · exact h.1
                     · exact ih h.2 p hp
  have h2 : ∀ l, zPW S l -> ∀ p ∈ l, S.blk p.1 = p.2 := by
    intro l
    induction l with
    | nil => intro _ p hp; cases hp
    | cons q l ih => intro h p hp; rcases dL.1 hp with rfl | hp
                     · exact h.1
                     · exact ih h.2 p hp
  exact yJR (λp hp => .inl (h1 _ ht p hp)) (h2 _ hb) hgh
section
variable {P:Program} {r:Option Nat} {E:Env} {S:AState} {d:Nat} {ty:TypeId} {pos:String} {af:Array Edge} {g:Option (Nat×Bool)}
theorem zFN {x:Operand} {y:AV} (h:d<E.n) (k:S.ev x=y):AOp P r E S ⟨some d,.move x,ty,pos,af,g⟩ d y:=k▸yOA h
theorem zKL {x:Operand} {y:AV} (h:d<E.n) (k:S.ev x=y):AOp P r E S ⟨some d,.assign x,ty,pos,af,g⟩ d y:=k▸yER h
theorem kE {x:Operand} {y:DV} (h:d<E.n) (k:S.ev x= .d y):AOp P r E S ⟨some d,.move x,ty,pos,af,g⟩ d (.d y):=zFN h k
theorem zJG {x:Operand} {i:Nat} (h:d<E.n) (k:S.ev x= .row i):AOp P r E S ⟨some d,.move x,ty,pos,af,g⟩ d (.row i):=zFN h k
theorem zVM {x:Operand} {i k:Nat} (h:d<E.n) (D:S.ev x= .ptr i k):AOp P r E S ⟨some d,.move x,ty,pos,af,g⟩ d (.ptr i k):=zFN h D
theorem zL9 {x:Operand} {c:List DV} (h:d<E.n) (k:S.ev x= .tup c):AOp P r E S ⟨some d,.move x,ty,pos,af,g⟩ d (.tup c):=zFN h k
theorem zPX {x:Operand} {y:DV} (h:d<E.n) (k:S.ev x= .d y):AOp P r E S ⟨some d,.assign x,ty,pos,af,g⟩ d (.d y):=zKL h k
theorem zIS {x:Operand} {i:Nat} (h:d<E.n) (k:S.ev x= .row i):AOp P r E S ⟨some d,.assign x,ty,pos,af,g⟩ d (.row i):=zKL h k
theorem zIT {x:Operand} {i k:Nat} (h:d<E.n) (D:S.ev x= .ptr i k):AOp P r E S ⟨some d,.assign x,ty,pos,af,g⟩ d (.ptr i k):=zKL h D
section
variable {ops:Array Oper} {o:Oper} {rest:List Oper} {J:AState->Prop} {j t:Nat} {want b c:Bool} {x:AV}
theorem yQ1 (H:o.guard=some (j,want)) (K:(ops[j]?).bind (·.dst)=some t) (G:o.dst=some d) (O:d<E.n) (D:t<E.n) (T:S.get t= .d (.v (.bool b)))
    (h:gd want b=true->AOp P r E S o d x) (k:Sq P r E ops rest (S.put d (.cond (gd want b) x)) J):Sq P r E ops (o::rest) S J:=yOE (z29 H K G O D T h) k
theorem wE (H:o.guard=some (j,want)) (K:(ops[j]?).bind (·.dst)=some t) (G:o.dst=some d) (O:d<E.n) (D:t<E.n) (T:S.get t= .cond c (.d (.v (.bool b))))
    (h:(c&&gd want b)=true->AOp P r E S o d x) (k:Sq P r E ops rest (S.put d (.cond (c&&gd want b) x)) J):Sq P r E ops (o::rest) S J:=yOE (zYX H K G O D T h) k
theorem yQ2 (H:o.guard=some (j,want)) (K:(ops[j]?).bind (·.dst)=some t) (G:o.dst=some d) (O:d<E.n) (D:t<E.n) (T:S.get t= .d (.v (.bool b)))
    (h:gd want b=true->AOp P r E S o d x) (k:DA P r E ops rest (S.put d (.cond (gd want b) x)) J):DA P r E ops (o::rest) S J:=yOF (z29 H K G O D T h) k
theorem zE1 (H:o.guard=some (j,want)) (K:(ops[j]?).bind (·.dst)=some t) (G:o.dst=some d) (O:d<E.n) (D:t<E.n) (T:S.get t= .cond c (.d (.v (.bool b))))
    (h:(c&&gd want b)=true->AOp P r E S o d x) (k:DA P r E ops rest (S.put d (.cond (c&&gd want b) x)) J):DA P r E ops (o::rest) S J:=yOF (zYX H K G O D T h) k
end
def yQ3 (P:Program) (r:Option Nat) (E:Env) (y:Code) (K:Exit->AState->Prop):Exit->AState->Prop
 | .normal,S=>Avc P r E y K S
 | e,S=>K e S
theorem yP {x y:Code} {K:Exit->AState->Prop} (h:Avc P r E x (yQ3 P r E y K) S):Avc P r E (.seq x y) K S:=
 yJQ λJ D=>z2V h λe S' k=>by
  cases e with
  | normal=>exact D S' k
  | _=>exact k
theorem zT {id:Nat} {l:List Oper} {K:Exit->AState->Prop} (D:P.follows .mixedOrders=true) (k:z0G l l.length=true) (h:DA P r E l.toArray l S (K .normal)):Avc P r E (.region id l.toArray true) K S:=
 zED l.length D k (by rw[List.take_length,gX];exact h)
theorem zJH {c:Operand} {x y:Code} {K:Exit->AState->Prop} {b:Bool} (k:S.ev c= .d (.v (.bool b))) (h:(b=true->Avc P r E x K S)/\(b=false->Avc P r E y K S)):Avc P r E (.cond c x y) K S:=
 yEP k h.1 h.2
end
def AState.app (S:AState) (id:Nat) (news:List DV):AState:=S.setBlk id ((S.blk id).appended news)
section
variable {P:Program} {r:Option Nat} {E:Env} {S:AState} {d:Nat} {ty:TypeId} {pos:String} {af:Array Edge} {g:Option (Nat×Bool)}
theorem yEU (S:AState) (id:Nat) (news:List DV):(S.kill id).app id news=(S.kill id).setBlk id (zUI id (S.blk id) |>.appended news):=by unfold AState.app;rw[zJB]
theorem yEV {t e size bytes:Nat} {z:Value} {s x:Operand} {id:Nat} {sh:Bool} {cells news:List DV} {n m:Nat} (Z:d<E.n) (T:SlTy P t e size bytes z) (hs:S.ev s= .row id) (hb:S.blk id= .row e size sh cells)
  (hx:S.dv (S.ev x)=some (.sl size news)) (Y:cells.length=n*size) (H:news.length=m*size) (G:0<bytes) (h:(n+m)*bytes<=140737488355328) (O:E.wrB=true) (K:E.nm id=none):
  jJ P r E ⟨some d,.call {callee:= .builtin .append,args:= #[s,x],argTypes:= #[t,t]},ty,pos,af,g⟩ S ((((S.shareAV (S.ev x)).kill id).app id news).put d (.row id)):=by
 have k:n+m<=maxLen:=by
  have:(n+m)*1<=(n+m)*bytes:=gS _ G;simp only[maxLen];omega
 have:=z2X (P:=P) (r:=r) (ty:=ty) (pos:=pos) (af:=af) (g:=g) Z T hs hb hx Y H h k O K;rw[yEU];obtain⟨ad,D⟩:=zPF (x:=S.ev x) hb;rw[D] at this ⊢;exact this
theorem z6L {t e size bytes:Nat} {z:Value} {s x:Operand} {id:Nat} {sh:Bool} {cells news:List DV} {n m:Nat} (Y:d<E.n) (O:SlTy P t e size bytes z) (Z:S.ev s= .row id) (hb:S.blk id= .row e size sh cells)
  (H:S.ev x= .d (.sl size news)) (T:cells.length=n*size) (D:news.length=m*size) (k:0<bytes) (h:(n+m)*bytes<=140737488355328) (K:E.wrB=true) (G:E.nm id=none):
  jJ P r E ⟨some d,.call {callee:= .builtin .append,args:= #[s,x],argTypes:= #[t,t]},ty,pos,af,g⟩ S (((S.kill id).app id news).put d (.row id)):=by
 have:=yEV (P:=P) (r:=r) (ty:=ty) (pos:=pos) (af:=af) (g:=g) Y O Z hb (by rw[H];rfl) T D k h K G
 rw[H] at this;exact this
theorem zK5 {t:TypeId} {x y:Operand} {id off eb:Nat} {cells:List AV} {u:DV} (H:OneTy P t) (K:S.ev x= .ptr id off) (hb:S.blk id= .box eb cells) (h:off<cells.length)
  (k:S.ev y= .d u) (D:(AV.d u).one=true) (G:E.wrB=true):jJ P r E ⟨none,.store t x y,ty,pos,af,g⟩ S (S.setBlk id (.box eb (cells.set off (.d u)))):=by
 have:=zJC (P:=P) (r:=r) (E:=E) (ty:=ty) (pos:=pos) (af:=af) (g:=g) (y:=y) H K hb h (by rw[k];exact D) (by rw[k];rfl) G
 rwa [k] at this
theorem zTU {t:TypeId} {x y:Operand} {id off eb i:Nat} {cells:List AV} (H:OneTy P t) (K:S.ev x= .ptr id off) (hb:S.blk id= .box eb cells) (h:off<cells.length)
  (k:S.ev y= .row i) (D:zS6 S (.row i)=true) (G:E.wrB=true):jJ P r E ⟨none,.store t x y,ty,pos,af,g⟩ S (S.setBlk id (.box eb (cells.set off (.row i)))):=by
 have:=zJC (P:=P) (r:=r) (E:=E) (ty:=ty) (pos:=pos) (af:=af) (g:=g) (y:=y) H K hb h (by rw[k];rfl) (by rw[k];exact D) G
 rwa [k] at this
theorem yEW {f:FuncId} {xs:List Operand} {ats:Array TypeId} {h:List AV} {ds G:List DV} (K:d<E.n) (D:xs.map S.ev=h) (k:S.dvL h=some ds) (H:zC P f ds G) (hG:E.gdt=zAS P:=by rfl):
  jJ P r E ⟨some d,.call {callee:= .value (.func f),args:=xs.toArray,argTypes:=ats},ty,pos,af,g⟩ S ((S.shareL h).put d (zYP G)):=by
 subst D;exact zYQ K k H hG
theorem SatAt.newImm {A:Act} {w:World} {I:Im} {ρ:Nat->Value} {C:Nat->Prop} (H:SatAt E S A w I ρ C) {e size n:Nat} {xs:List Value} {cells:List DV} (O:cells.length=n*size) (G:Reps w I xs cells) (Y:∀x∈xs,x.oneCell'=true):
  ∃D:Im,SatAt E S A (w.alloc (.cells xs.toArray e)) D ρ C/\Rep (w.alloc (.cells xs.toArray e)) D (.slice (some ⟨w.heap.size,0,none⟩) n n) (.sl size cells):=by
 have K:∀b j,I b j->b<w.heap.size:=λb j h=>(H.old b j h).1;have hg:=H.grow (w':=w.alloc (.cells xs.toArray e)) ((Below.refl _ _).alloc (dA _) _)
 let D:Im:=λb j=>I b j\/b=w.heap.size
 have k:∀b j,I b j->D b j:=λ_ _ h=> .inl h;refine⟨D,hg.widen (B:=w.heap.size) k (λb j hi=>?_) (λi b hi hb=>(H.blt i b hi hb).2) (E.size _ _ _ H.frame) (λb Z=>E.csize _ _ _ H.frame b Z),?_⟩
 ·rcases hi with hi | hi
  ·exact⟨by simp;have:=K b j hi;omega,.inl hi⟩
  ·exact⟨by simp;omega,.inr (by omega)⟩
 ·by_cases T:n=0
  ·subst T
   have:cells= []:=cP (by simpa using O);subst this;exact .nil _ _ _
  ·refine .sl _ 0 n n size xs cells (by omega) (dA _) O G.1 (λj x hj=>⟨?_,.inr rfl⟩) Y (G.mono (zFK _ K) k).2
   rw[eE,World.cell?_alloc_new];simpa using hj
theorem yEX {t e size bytes:Nat} {z:Value} {len:Nat} {H:List (Nat×Operand)} {ds:List DV} (hn:d<E.n) (hT:SlTy P t e size bytes z) (G:H=zB0 0 (H.map Prod.snd)) (T:H.length=len)
    (K:unD ((H.map Prod.snd).map S.ev)=some ds) (ai:ds.all (okDV size)=true) (ax:len*size<=16777216):
    jJ P r E ⟨some d,.buildSlice t len H.toArray,ty,pos,af,g⟩ S (S.put d (.d (.sl size (ds.flatMap vG)))):=
  zAM (by simp) λA w I ρ C hs=>by
    generalize ak:H.map Prod.snd=xs at G K;obtain⟨ad,ag⟩:=zJE S K;obtain⟨I1,h1,h2,h3⟩:=SatAt.dvL _ hs (zB9 hs xs) ad;rw[ag] at h2;obtain⟨a1,a2,a3,a4⟩:=zR2 h3 ai;have D:(xs.map A.eval).length=len:=by rw[<-T,<-ak];simp
    have ah:ds.length=len:=by rw[<-h3.1];exact D
    obtain⟨I2,ab,aa⟩:=h2.newImm (e:=e) (size:=size) (n:=len) (by rw[a4,ah]) a1 a2;refine⟨.slice (some ⟨w.heap.size,0,none⟩) len len,_,?_,I2,_,C,ab.put hn aa⟩;obtain⟨i,hi,hz,aw,ar⟩:=hT.info;have k:=z2Z size (xs.map A.eval) 0 ((Array.range (len*size)).map ((if len*size=0 then (#[]:Array Value) else z.cells)[· % (if len*size=0 then (#[]:Array Value) else z.cells).size]!)) a3 (by simp[<-D]);have Y:H.toArray.map (λp:Nat×Operand=>(p.1,A.eval p.2))=(zB0 0 (xs.map A.eval)).toArray:=by
      rw[G,eO,zL7]
    have Z:¬(len*size > 2 ^ 24):=by omega
    simp only[gB,iC,dP,eE,D] at k;rw[dC (by simp)] at k;simp only[eA] at k ⊢;simp only[execOp,Instr.buildSlice,cS,dJ hT.und,cW,hT.size w,Z,cV,dV];by_cases h0:len*size=0
    · have O:len=0:=by
        rcases Nat.mul_eq_zero.1 h0 with h | h
        · exact h
        · have:=hT.pos;omega
      have aj:xs= []:=cP (by simpa[O] using D);subst aj;subst O;simp[Y,zB0,Instr.fill,newRow,Array.range_zero']
    · simp only[h0,cV] at k ⊢
      simp[zeroValue,typeInfo,hi,hz,Y,k,newRow]
theorem yEY {t e size bytes:Nat} {z:Value} {len:Nat} {k:List (Nat×Operand)} {ds cells:List DV} (T:d<E.n) (Y:SlTy P t e size bytes z) (G:k=zB0 0 (k.map Prod.snd)) (D:k.length=len)
  (H:unD ((k.map Prod.snd).map S.ev)=some ds) (K:ds.all (okDV size)=true) (O:len*size<=16777216) (Z:ds.flatMap vG=cells):
  AOp P r E S ⟨some d,.buildSlice t len k.toArray,ty,pos,af,g⟩ d (.d (.sl size cells)):=
 ⟨rfl,T,λS' h=>by
  subst Z;have he:(k.map Prod.snd).map S'.ev=(k.map Prod.snd).map S.ev:=gw λx hx=>h.ev (by simp[Op.operands];simpa using hx)
  exact yEX T Y G D (by rw[he];exact H) K O⟩
end
open Go.RowKit
def dby (n:Int):DV:= .v (.int .u8 n)
def DV.bytes (l:List Int):DV:= .sl 1 (l.map dby)
section
variable {P:Program} {r:Option Nat} {E:Env} {S:AState} {d:Nat} {ty:TypeId} {pos:String} {af:Array Edge} {g:Option (Nat×Bool)}
theorem yQ4 {k:IntKind} {x y:Operand} {a b:Int} {ats:Array TypeId} (H:d<E.n) (O:S.ev x= .d (.v (.int k a))) (T:S.ev y= .d (.v (.int k b))):
  AOp P r E S ⟨some d,.call {callee:= .builtin .min,args:= #[x,y],argTypes:=ats},ty,pos,af,g⟩ d (.d (.v (.int k (min a b)))):=
 ⟨rfl,H,λS' h=>jQ rfl H (by simp) λA w I ρ C K=>by
  have D:=(h.ev (x:=x) (by simp[Op.operands,Call.operands])).trans O;have G:=(h.ev (x:=y) (by simp[Op.operands,Call.operands])).trans T;simp only[execOp,resolve,eO,ez,fI,K.val D,K.val G];simp[invoke,builtin,Builtin.min_,Builtin.min2];split<;>omega⟩
theorem z9B {k:IntKind} {x y:Operand} {a b:Int} {ats:Array TypeId} (H:d<E.n) (O:S.ev x= .d (.v (.int k a))) (T:S.ev y= .d (.v (.int k b))):
  AOp P r E S ⟨some d,.call {callee:= .builtin .max,args:= #[x,y],argTypes:=ats},ty,pos,af,g⟩ d (.d (.v (.int k (max a b)))):=
 ⟨rfl,H,λS' h=>jQ rfl H (by simp) λA w I ρ C K=>by
  have D:=(h.ev (x:=x) (by simp[Op.operands,Call.operands])).trans O;have G:=(h.ev (x:=y) (by simp[Op.operands,Call.operands])).trans T;simp only[execOp,resolve,eO,ez,fI,K.val D,K.val G];simp[invoke,builtin,Builtin.max_,Builtin.max2];split<;>omega⟩
theorem yEZ {t:TypeId} {x K:Operand} {s:ByteArray} {k:Nat} {kk:IntKind} {i:Int} (O:d<E.n) (hu:P.underlying t=some .string) (hx:S.ev x= .d (.v (.string s))) (hi:S.ev K= .d (.v (.int kk i))) (hk:i=(k:Int)) (D:k<s.size):
  AOp P r E S ⟨some d,.index t x K,ty,pos,af,g⟩ d (.d (.v (.int .u8 (s.data.toList.getD k 0).toNat))):=
 ⟨rfl,O,λS' h=>jQ rfl O (by simp) λA w I ρ C T=>by
  subst hk;have H:=(h.ev (x:=x) (by simp[Op.operands])).trans hx;have G:=(h.ev (x:=K) (by simp[Op.operands])).trans hi;have Y:s[k]? =some (s.data.toList.getD k 0):=by
   have Z:k<s.data.size:=D;have:s[k]? =some s[k]:=by simp[getElem?_pos,D]
   rw[this];simp only[List.getD,Array.getElem?_toList,fO Z];rfl
  simp only[execOp,T.val H,T.val G];simp[Instr.index,asIntOf,dJ hu,Y]⟩
theorem wC (w:World) (k:IntKind) (i y:Nat) (D:BoundsCode) (h:i<=y):(Instr.sliceBound (.int k i) y D).run P w= .ok i w:=by simp[Instr.sliceBound,asIntOf,h]
structure Bd (S:AState) (n:Nat) (lo hi:Option Operand) (l h:Nat):Prop where
 lo:match lo with
  | none=>l=0
  | some x=> ∃k i,S.ev x= .d (.v (.int k i))/\i=(l:Int)
 hi:match hi with
  | none=>h=n
  | some x=> ∃k i,S.ev x= .d (.v (.int k i))/\i=(h:Int)
 le:l<=h
 len:h<=n
theorem zOL (w:World) {t e size:Nat} (T:P.underlying t=some (.slice e)) (K:(sizeOf e).run P w= .ok size w) (A:Option Addr) (n c l h:Nat) (lo hi:Option Value) (H:lo=none/\l=0\/∃k,lo=some (.int k l)) (G:hi=none/\h=n\/∃k,hi=some (.int k h))
    (D:l<=h) (Z:h<=n) (Y:n<=c):(Instr.sliceAt t (.slice A n c) lo hi none).run P w= .ok (.slice (if c=l then A else A.map (·.add (l*size))) (h-l) (c-l)) w:=by
  have hb:(Instr.sliceBounds true n c lo hi none).run P w= .ok (l,h,c) w:=by
    rcases H with ⟨rfl,rfl⟩ | ⟨k,rfl⟩<;>rcases G with ⟨rfl,rfl⟩ | ⟨O,rfl⟩
    · simp[Instr.sliceBounds]
    · simp[Instr.sliceBounds,wC (P:=P) w O h c _ (by omega)]
    · simp[Instr.sliceBounds,wC (P:=P) w k l h _ D]
    · simp[Instr.sliceBounds,wC (P:=P) w O h c _ (by omega),wC (P:=P) w k l h _ D]
  simp[Instr.sliceAt,Instr.slice,dJ T,hb,K]
theorem Bd.vals {n l h:Nat} {lo hi:Option Operand} (hb:Bd S n lo hi l h) {A:Act} {w:World} {I:Im} {ρ:Nat->Value} {C:Nat->Prop} (G:SatAt E S A w I ρ C):
  (lo.map A.eval=none/\l=0\/∃k,lo.map A.eval=some (.int k l))/\(hi.map A.eval=none/\h=n\/∃k,hi.map A.eval=some (.int k h)):=by
 constructor
 ·cases lo with
  | none=>exact .inl ⟨rfl,hb.lo⟩
  | some x=>obtain⟨k,i,D,rfl⟩:=hb.lo;exact .inr ⟨k,by simp[G.val D]⟩
 ·cases hi with
  | none=>exact .inl ⟨rfl,hb.hi⟩
  | some x=>obtain⟨k,i,D,rfl⟩:=hb.hi;exact .inr ⟨k,by simp[G.val D]⟩
theorem Bd.agree {n l h:Nat} {lo hi:Option Operand} {t:TypeId} {x:Operand} {K:Option Operand} {S':AState} (hb:Bd S n lo hi l h) (H:Agree S S' ⟨some d,.slice t x lo hi K,ty,pos,af,g⟩):Bd S' n lo hi l h:=by
 refine⟨?_,?_,hb.le,hb.len⟩;cases lo with
 | none=>exact hb.lo
 | some y=>obtain⟨k,i,D,G⟩:=hb.lo;exact⟨k,i,(H.ev (by simp[Op.operands])).trans D,G⟩
 cases hi with
 | none=>exact hb.hi
 | some y=>obtain⟨k,i,D,G⟩:=hb.hi;exact⟨k,i,(H.ev (by simp[Op.operands])).trans D,G⟩
theorem zY2 {w:World} {I:Im} {A:Option Addr} {n c l h size:Nat} {cells:List DV} (hr:Rep w I (.slice A n c) (.sl size cells)) (hl:cells.length=n*size) (hp:0<size) (ad:l<=h) (hn:h<=n):
    Rep w I (.slice (if c=l then A else A.map (·.add (l*size))) (h-l) (c-l)) (.sl size ((cells.take (h*size)).drop (l*size))):=by
  by_cases Y:h-l=0
  · have:(cells.take (h*size)).drop (l*size)= []:=by
      apply dC;rw[dZ];have:h*size<=l*size:=dT _ (by omega);omega
    rw[this,Y];exact .nil _ _ _
  · obtain⟨A',n',c',xs,hv,T,ac,O,Z,K⟩:=Rep.sl_inv hr
    cases hv;obtain⟨b,off,rfl,H⟩:=K (by omega);rw[dK (by omega)];simp only[eZ,u7];have aa:h*size<=n*size:=dT _ hn;have D:((cells.take (h*size)).drop (l*size)).length=(h-l)*size:=by
      rw[eH,dZ,hl,Nat.sub_mul];omega
    have k:=(O.take (h*size)).drop (l*size);refine .sl b (off+l*size) (h-l) (c-l) size ((xs.take (h*size)).drop (l*size)) _ (by omega) (by omega) D k.1 (λj x G=>?_) (λx hx=>Z x (eC (eP hx))) k.2;rw[eT,d5] at G;split at G
    · rw[fX];exact H _ x G
    · cases G
theorem zR5 {t e size bytes:Nat} {z:Value} {x:Operand} {lo hi:Option Operand} {cells k:List DV} {n l h:Nat} (hn:d<E.n) (H:SlTy P t e size bytes z) (hx:S.ev x= .d (.sl size cells)) (hl:cells.length=n*size)
  (hb:Bd S n lo hi l h) (hc:(cells.take (h*size)).drop (l*size)=k):AOp P r E S ⟨some d,.slice t x lo hi none,ty,pos,af,g⟩ d (.d (.sl size k)):=
 ⟨rfl,hn,λS' Z=>zY rfl hn (by simp) λA w I ρ C hs=>by
  have Y:=hs.ev x;rw[(Z.ev (x:=x) (by simp[Op.operands])).trans hx] at Y;have D:Rep w I (A.eval x) (.sl size cells):=Y;obtain⟨A',n',c,xs,hv,G,O,_⟩:=Rep.sl_inv D;obtain rfl:=zII O hl H.pos;obtain⟨T,K⟩:=(hb.agree Z).vals hs;subst hc;rw[hv] at D;refine⟨_,?_,zY2 D hl H.pos hb.le hb.len⟩;simp only[execOp,hv,cS,gy,zOL w H.und (H.size w) A' n' c l h _ _ T K hb.le hb.len G];rfl⟩
theorem yJT {w:World} {I:Im} {ρ:Nat->Value} {M:Nat->Prop} {id e size:Nat} {sh:Bool} {cells:List DV} {n:Nat} (h:BlkOk w I ρ M id (.row e size sh cells)) (Z:cells.length=n*size):
  ∃A c,ρ id= .slice A n c/\n<=c/\(0<n->∃b,blockOf (ρ id)=some b/\A=some ⟨b,0,none⟩):=by
 obtain⟨Y,n',xs,G,k,_⟩:=h;obtain rfl:=zII G Z Y.1;rcases k.2 with ⟨D,rfl⟩ | ⟨T,K,O,D,_,_,H,_⟩
 ·exact⟨_,_,D,by omega,λh=>absurd h (by omega)⟩
 ·exact⟨_,_,D,H,λ_=>⟨T,by rw[D];rfl,rfl⟩⟩
theorem z3E {t e size bytes:Nat} {z:Value} {x:Operand} {lo hi:Option Operand} {id:Nat} {sh:Bool} {cells:List DV} {n l h:Nat} (hn:d<E.n) (hT:SlTy P t e size bytes z) (hx:S.ev x= .row id) (T:S.blk id= .row e size sh cells) (hl:cells.length=n*size)
    (hb:Bd S n lo hi l h):AOp P r E S ⟨some d,.slice t x lo hi none,ty,pos,af,g⟩ d (.rs id (l*size) (h-l)):=
  ⟨rfl,hn,λS' H=>zY rfl hn (by simp) λA w I ρ C hs=>by
    have h1:=hs.ev x;rw[(H.ev (x:=x) (by simp[Op.operands])).trans hx] at h1;have hv:A.eval x= ρ id:=h1;have hk:=hs.blks id;rw[(H.blk id).trans T] at hk;obtain⟨G,c,ab,D,k⟩:=yJT hk hl;obtain⟨Z,Y⟩:=(hb.agree H).vals hs;have ah:=hb.len;have ak:=hb.le;refine⟨_,?_,(if c=l then G else G.map (·.add (l*size))),c-l,rfl,by omega,λh0=>?_⟩
    · simp only[execOp,hv,ab,cS,gy,zOL w hT.und (hT.size w) G n c l h _ _ Z Y hb.le hb.len D]
      rfl
    · obtain⟨b,K,O⟩:=k (by omega)
      refine⟨b,K,?_⟩;rw[dK (by omega),O];simp[u7]⟩
theorem SatAt.congr' {S':AState} {A:Act} {w:World} {I:Im} {ρ:Nat->Value} {C:Nat->Prop} (h:SatAt E S A w I ρ C) (H:∀t,S'.get t=S.get t) (k:∀i,S'.blk i=S.blk i):SatAt E S' A w I ρ C:=
 ⟨λt=>by rw[H];exact h.tmps t,λi=>by rw[k];exact h.blks i,λi T b K hi G=>h.dist i T b K (by rw[<-k];exact hi) (by rw[<-k];exact G),by have:=h.frame;unfold AState.ghost at this ⊢;rw[H];exact this,h.sub,h.old,h.size,h.defers,h.cI,λi b hi D=>h.cB i b (by rw[<-k];exact hi) D,λi v O hi=>h.nm i v O (by rw[<-k];exact hi)⟩
def spl (cells:List DV) (off:Nat) (news:List DV):List DV:=cells.take off++news++cells.drop (off+news.length)
theorem zMA {t e size:Nat} (O:P.underlying t=some (.slice e)) (w w':World) (G:(sizeOf e).run P w= .ok size w) (D B:Option Addr) (H T m K:Nat) (ys:List Value)
  (h:(Builtin.firstCells size (Nat.min m H) (.slice B m K)).run P w= .ok ys.toArray w) (k:match D with | some a=>(storeCells a ys).run P w= .ok () w' | none=>w'=w):
  (Builtin.copy_ #[t,t] ty #[.slice D H T,.slice B m K]).run P w= .ok (.int .i64 (Nat.min m H)) w':=by
 cases D with
 | none=>simp only at k;subst k;simp[Builtin.copy_,dJ O,Builtin.lenOf,G,h,goInt]
 | some a=>simp only at k;simp[Builtin.copy_,dJ O,Builtin.lenOf,G,h,k,goInt]
theorem z9C {k:TypeId} {x:Operand} {u:DV} (O:d<E.n) (T:S.ev x= .d u) (K:(AV.d u).one=true) (G:E.nm d=none):
  jJ P r E ⟨some d,.box k x,ty,pos,af,g⟩ S (((S.kill d).setBlk d (.box k [.d u])).put d (.ptr d 0)):=
 zAM (by simp) λA w I ρ C H=>by
  have h:=H.ev x;rw[T] at h;have D:=zPU H.blks h K (by intro _ e;cases e)
  have hb:=H.newBox (id:=d) (e:=k) (arr:= #[A.eval x]) (cells:=[.d u]) (Pw.cons h Pw.nil) (by simpa using D) G;refine⟨.pointer (some ⟨w.heap.size,0,none⟩),w.alloc (.cells #[A.eval x] k),?_,I,_,C,hb.put O ⟨w.heap.size,by simp[upd,blockOf],rfl⟩⟩;simp only[execOp,Instr.box,newVar,zLG D];simp[newRow]
theorem zQ {t id e:Nat} {cells:List AV} {ds:List DV} (hn:t<E.n) (ht:S.get t= .ptr id 0) (hb:S.blk id= .box e cells) (T:unD cells=some ds):zGM E S ((S.setBlk id .none).put t (.d (.pt ds))):=by
 rintro a w ⟨I,ρ,C,h⟩
 have hk:=h.blks id;rw[hb] at hk;obtain⟨b,arr,O,hM,hh,h1,D,hI⟩:=hk;have Y:S.blk id≠ .none:=by rw[hb];simp
 have Z:=h.blt id b Y (by rw[O];rfl)
 have K:Reps w I arr.toList ds:=by
  clear hb hh h1;generalize arr.toList=xs at D
  induction cells generalizing xs ds with
  | nil=>simp[unD] at T;subst T;have:xs= []:=cP D.1;subst this;exact Pw.nil
  | cons c cells ih=>
   cases xs with
   | nil=>have:=D.1;simp at this
   | cons x xs=>
    cases c with
    | d y=>
     simp only[unD] at T;cases hu:unD cells with
     | none=>simp[hu] at T
     | some ys=>
      simp[hu] at T;subst T;exact Pw.cons (D.2 0 x (.d y) rfl rfl) (ih hu xs ⟨by have:=D.1;simpa using this,λj u z hu hz=>D.2 (j+1) u z (by simpa using hu) (by simpa using hz)⟩)
    | _=>simp[unD] at T
 let I':Im:=λG j=>I G j\/G=b
 have k:∀b j,I b j->I' b j:=λ_ _ h=> .inl h;have key:∀i,(S.setBlk id .none).blk i≠ .none->S.blk i≠ .none/\i≠id:=by
  intro i hi;rw[yO] at hi;by_cases e:id=i;subst e;simp at hi;simp only[e,cV] at hi;exact⟨hi,λe'=>e e'.symm⟩
 refine⟨I',ρ,C,⟨λu=>?_,λi=>?_,λi i' G ag hi ad=>h.dist i i' G ag (key i hi).1 (key i' ad).1,by rw[zA0 _ _ hn];exact h.frame,λb j hi=>k b j (h.sub b j hi),λG j hi=>?_,h.size,h.defers,λG j hi=>?_,λi G hi H=>h.cB i G (key i hi).1 H,λi v hv hi=>h.nm i v hv (key i hi).1⟩⟩
 rw[uJ];by_cases e:t=u;subst e;simp only[dG];have:=h.tmps t;rw[ht] at this;obtain⟨G,H,hv⟩:=this;rw[O] at H;simp[blockOf] at H;subst H;rw[hv];have ah:=K.mono (k7 I w) k;exact Rep.pt b 0 arr.toList ds K.1 (λj x hj=>⟨by rw[eE,fb w b j arr e (0,0) hh];simpa using hj,.inr rfl⟩) h1 ah.2
 simp only[e,cV];exact(h.tmps u).mono (k7 I w) k;show BlkOk w I' ρ E.mine i ((S.setBlk id .none).blk i);by_cases e:id=i;subst e;rw[yO];simp only[dG];trivial;rw[yO,dK e];refine(h.blks i).widenI k λb2 j hx ac hi=>?_;rcases hi with hi | hi
 exact hi;subst hi;exact absurd ac (h.dist id i b2 e Y hx (by rw[O];rfl))
 rcases hi with hi | hi;exact h.old G j hi;subst hi;exact⟨Z.2,.inr Z.1⟩;rcases hi with hi | hi;exact h.cI G j hi;subst hi;exact h.cB id G Y (by rw[O];rfl)
theorem yBS {t:TypeId} {x:Operand} {cells:List DV} {e:DV} (T:d<E.n) (Y:OneTy P t) (hx:S.ev x= .d (.pt cells)) (O:cells[0]? =some e):
  AOp P r E S ⟨some d,.load t x,ty,pos,af,g⟩ d (.d e):=
 ⟨rfl,T,λS' Z=>zY rfl T (by simp) λA w I ρ C hs=>by
  have h:=hs.ev x;rw[(Z.ev (x:=x) (by simp[Op.operands])).trans hx] at h;have K:Rep w I (A.eval x) (.pt cells):=h;generalize hv:A.eval x=v at K;cases K with
  | pt b o xs cells H D h1 hr=>
   have G:0<xs.length:=by rw[H];exact(cX.1 O).1
   have k:=cO G;refine⟨xs[0],?_,hr 0 _ e k O⟩;have:=(D 0 _ k).1;simp only[fJ] at this;simp only[execOp,hv,cS,zHN w Y b o _ this];rfl⟩
theorem z6M {f:FuncId} {h:List Operand} {ds:List DV} (O:d<E.n) (D:unD (h.map S.ev)=some ds):
  AOp P r E S ⟨some d,.makeFunc (.func f) #[] h.toArray,ty,pos,af,g⟩ d (.d (.fn f ds)):=
 ⟨rfl,O,λS' Z=>zY rfl O (by simp) λA w I ρ C hs=>by
  have K:h.map S'.ev=h.map S.ev:=gw λx hx=>Z.ev (by simp[Op.operands];simpa using hx)
  rw[<-K] at D;obtain⟨T,Y⟩:=zJE S' D;have k:Reps w I (h.map A.eval) ds:=by
   have:=zB9 hs h;generalize h.map A.eval=vs at this ⊢;generalize h.map S'.ev=H at this D;clear T Y K
   induction H generalizing vs ds with
   | nil=>simp[unD] at D;subst D;have:vs= []:=cP this.1;subst this;exact Pw.nil
   | cons c cells ih=>
    cases vs with
    | nil=>have:=this.1;simp at this
    | cons x xs=>
     cases c with
     | d y=>
      simp only[unD] at D;cases G:unD cells with
      | none=>simp[G] at D
      | some ys=>
       simp[G] at D;subst D;exact Pw.cons (this.2 0 x (.d y) rfl rfl) (ih xs ⟨by have:=this.1;simpa using this,λj u z G hz=>this.2 (j+1) u z (by simpa using G) (by simpa using hz)⟩ G)
     | _=>simp[unD] at D
  refine⟨.func (.func f) #[] (h.map A.eval).toArray,?_,.fn f _ ds k.1 k.2⟩;simp[execOp,Instr.makeFunc]⟩
theorem yJU {f:FuncId} {x:Operand} {xs:List Operand} {ats:Array TypeId} {h ds rs:List DV} (hn:d<E.n) (hx:S.ev x= .d (.fn f h)) (Z:unD (xs.map S.ev)=some ds) (hc:zC P f (ds++h) rs) (hG:E.gdt=zAS P:=by rfl):
  AOp P r E S ⟨some d,.call {callee:= .value x,args:=xs.toArray,argTypes:=ats},ty,pos,af,g⟩ d (zYP rs):=
 ⟨rfl,hn,λS' ha=>by
  have he:xs.map S'.ev=xs.map S.ev:=gw λx hx=>ha.ev (by simp[Op.operands,Call.operands,hx]);rw[<-he] at Z;obtain⟨am,an⟩:=zJE S' Z
  rintro A w K Q ⟨I,ρ,C,hs⟩ hk
  obtain⟨⟨fn,hf,T,H⟩,O⟩:=hc;obtain⟨I1,h1,G,h3⟩:=SatAt.dvL _ hs (zB9 hs xs) am;rw[an] at G;have ag:=hs.ev x;rw[(ha.ev (x:=x) (by simp[Op.operands,Call.operands])).trans hx] at ag;have k:Rep w I (A.eval x) (.fn f h):=ag;generalize ar:A.eval x=vx at k;cases k with
  | fn f D h al ak=>
   have Y:Reps w I1 D h:=⟨al,λj u z hu hz=>(ak j u z hu hz).mono (k7 I w) h1⟩;have aj:=O w I1 (xs.map A.eval++D) (λb j hi=>(G.old b j hi).1) (hG▸G.gl) (Pw.append h3 Y);refine⟨λf _=>trivial,?_⟩;rw[Oper.semAt_eq _ _ _ (by simp)];have ac:(execOp A.eval ⟨some d,.call {callee:= .value x,args:=xs.toArray,argTypes:=ats},ty,pos,af,g⟩).run P w= .ok (.enter f (xs.map A.eval++D).toArray) w:=by
    simp only[execOp,resolve,ar,Deferred.ofValue];have ao:¬fn.name= "runtime.NumGoroutine" :=by simpa using T
    have ap:¬fn.body=none:=by intro e;simp[e] at H
    simp[invoke,callFunc,hf,ao,ap,eO]
   rw[ac];refine⟨by simp[fen,Fence.wide],?_⟩;show CallsIn Fence.wide 0 P f _ w _;refine gJ.2 (aj.mono ?_)
   rintro e w' ⟨v,I',rfl,hb,ad,aa,ab⟩
   refine hk _ _ ⟨I',ρ,C,SatAt.put ?_ hn (zNL ab)⟩;have h4:=G.grow hb;exact h4.widen ad aa (λi b hi ah=>(G.blt i b hi ah).2) (E.size _ _ _ G.frame) (λb hc=>E.csize _ _ _ G.frame b hc)⟩
end
open Go.RowKit
section
variable {P:Program} {r:Option Nat} {E:Env} {S:AState} {d:Nat} {ty:TypeId} {pos:String} {af:Array Edge} {g:Option (Nat×Bool)}
def DV.isV:DV->Bool
 | .v _=>true
 | _=>false
theorem yE1 {w w':World} {I D:Im} {xs:List Value} {ds:List DV} (h:Reps w I xs ds) (H:ds.all DV.isV=true):Reps w' D xs ds:=by
 refine⟨h.1,λj x d K k=>?_⟩;have:=dS.1 H d (eN k);have G:=h.2 j x d K k;cases d with
 | v u=>cases G;exact .v _
 | _=>simp[DV.isV] at this
def Env.own (w0:World) (I0:Im) (v:Value) (n:Nat) (T:n<=1000000):Env where
 B:=w0.heap.size
 I0:=I0
 n:=n
 fr:=λ_ C w=>(w0.grownBy w v.ownBlock/\Same I0 w0 w)/\(∀b j,I0 b j->b<w0.heap.size)/\∀b,¬C b
 wrB:=true
 nle:=T
 mine:=λb=>w0.heap.size<=b\/v.ownBlock=some b
 mineB:=λ_ h=> .inl h
 nm:=λ_=>none
 size:=λ_ _ _ h=>h.1.1.size
 csize:=λ_ _ _ h b hb=>absurd hb (h.2.2 b)
 grow:=λ_ _ w w' h hb=>⟨⟨⟨hb.os.trans h.1.1.os,hb.tape.trans h.1.1.tape,hb.output.trans h.1.1.output,d8 h.1.1.size hb.size,λk G D=>(hb.block k (eU G h.1.1.size)).trans (h.1.1.block k G D)⟩,
  λb j hi=>(KeepB.of (hb.block b (eU (h.2.1 b j hi) h.1.1.size))).trans (h.1.2 b j hi)⟩,h.2⟩
 wr:=λ_ _ _ w w' row h H Y O=>⟨⟨⟨H.os.trans h.1.1.os,H.tape.trans h.1.1.tape,H.output.trans h.1.1.output,d8 h.1.1.size H.size,λk G D=>(H.block k (eU G h.1.1.size) (λe=>by
   rcases (Y k e).1 with h1 | h1
   ·omega
   ·exact D h1.symm)).trans (h.1.1.block k G D)⟩,λb j hi=>(O b j hi).trans (h.1.2 b j hi)⟩,h.2⟩
 turn:=λ_ _ _ w w' l h Z K O=>⟨⟨⟨K.os.trans h.1.1.os,K.tape.trans h.1.1.tape,K.output.trans h.1.1.output,by rw[K.size];exact h.1.1.size,λk G D=>(K.blk k (by omega)).trans (h.1.1.block k G D)⟩,λb j hi=>(O b j hi).trans (h.1.2 b j hi)⟩,h.2⟩
 gdt:=λ_=>none
 gl:=λ_ _ _ _=>GlI.none
end
end Go.AV


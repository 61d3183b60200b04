/- The layer of abstract values: what a temporary holds, said once; every rule of it is proved from the model. Conditions: none. -/
import Derived.WalkKit
import Derived.TacticsIn
import Derived.OrdersIn
import Derived.RangeFuncLeaves
import Derived.Deep.AppendLies
import Derived.Below
import Derived.LoopNIn
import Derived.IntWalk
import Derived.Laws.BytesArg
set_option linter.unusedSimpArgs false
set_option linter.unusedVariables false
set_option linter.unnecessarySimpa false
namespace Go
open Go.RowKit
theorem dN:type_of% @cond_false:=@cond_false
theorem dO:type_of% @cond_true:=@cond_true
theorem dP:type_of% @Sem.run_bind:=@Sem.run_bind
theorem dQ:type_of% @List.eq_nil_of_length_eq_zero:=@List.eq_nil_of_length_eq_zero
theorem dR:type_of% @Result.andThen_ok:=@Result.andThen_ok
theorem dS:type_of% @decide_eq_false_iff_not:=@decide_eq_false_iff_not
theorem dT:type_of% @List.getElem?_eq_getElem:=@List.getElem?_eq_getElem
theorem dU:type_of% @if_neg:=@if_neg
theorem dV:type_of% @List.getElem?_eq_some_iff:=@List.getElem?_eq_some_iff
theorem dW:type_of% @List.append_assoc:=@List.append_assoc
theorem dX:type_of% @Array.getElem?_eq_some_iff:=@Array.getElem?_eq_some_iff
theorem dY:type_of% @Bool.not_true:=@Bool.not_true
theorem dZ:type_of% @Array.getD_eq_getD_getElem?:=@Array.getD_eq_getD_getElem?
theorem d7:type_of% @decide_eq_true_eq:=@decide_eq_true_eq
theorem d8:type_of% @List.length_append:=@List.length_append
theorem d9:type_of% @Nat.le_refl:=@Nat.le_refl
theorem eA:type_of% @List.drop_eq_getElem_cons:=@List.drop_eq_getElem_cons
theorem eC:type_of% @Bool.and_eq_true:=@Bool.and_eq_true
theorem eD:type_of% @Bool.not_false:=@Bool.not_false
theorem eE:type_of% @if_false:=@if_false
theorem eF:type_of% @List.length_cons:=@List.length_cons
theorem eG:type_of% @if_pos:=@if_pos
theorem eH:type_of% @decide_true:=@decide_true
theorem eJ:type_of% @List.drop_of_length_le:=@List.drop_of_length_le
theorem eK:type_of% @if_true:=@if_true
theorem eM:type_of% @run_underlying:=@run_underlying
theorem eN:type_of% @List.nil_append:=@List.nil_append
theorem eO:type_of% @List.all_eq_true:=@List.all_eq_true
theorem eP:type_of% @List.mem_cons:=@List.mem_cons
theorem eQ:type_of% @Sem.run_pure:=@Sem.run_pure
theorem eT:type_of% @List.getD_eq_getElem?_getD:=@List.getD_eq_getElem?_getD
theorem eU:type_of% @List.getElem?_append_right:=@List.getElem?_append_right
theorem eV:type_of% @Bool.true_and:=@Bool.true_and
theorem eX:type_of% @Array.getElem?_setIfInBounds_ne:=@Array.getElem?_setIfInBounds_ne
theorem eY:type_of% @Bool.and_eq_false_iff:=@Bool.and_eq_false_iff
theorem eZ:type_of% @List.getElem?_append_left:=@List.getElem?_append_left
theorem e6:type_of% @decide_false:=@decide_false
theorem e7:type_of% @List.getElem?_map:=@List.getElem?_map
theorem e9:type_of% @List.drop_zero:=@List.drop_zero
theorem fg:type_of% @Bool.false_eq_true:=@Bool.false_eq_true
theorem fh:type_of% @List.take_append_drop:=@List.take_append_drop
theorem fj:type_of% @Bool.false_and:=@Bool.false_and
theorem fk:type_of% @List.mem_append:=@List.mem_append
theorem fm:type_of% @List.append_nil:=@List.append_nil
theorem fo:type_of% @Bool.false_or:=@Bool.false_or
theorem fp:type_of% @List.map_cons:=@List.map_cons
theorem fq:type_of% @List.map_toArray:=@List.map_toArray
theorem ft:type_of% @List.getElem?_take:=@List.getElem?_take
theorem fw:type_of% @Sum.elim_inl:=@Sum.elim_inl
theorem fA:type_of% @Nat.le_trans:=@Nat.le_trans
theorem fB:type_of% @Array.length_toList:=@Array.length_toList
theorem fC:type_of% @List.flatMap_cons:=@List.flatMap_cons
theorem fD:type_of% @List.length_drop:=@List.length_drop
theorem fE:type_of% @List.length_nil:=@List.length_nil
theorem fF:type_of% @Nat.lt_of_lt_of_le:=@Nat.lt_of_lt_of_le
theorem fG:type_of% @Bool.not_eq_true':=@Bool.not_eq_true'
theorem fH:type_of% @List.mem_of_getElem?:=@List.mem_of_getElem?
theorem fI:type_of% @List.getElem_mem:=@List.getElem_mem
theorem fJ:type_of% @List.getElem?_toArray:=@List.getElem?_toArray
theorem fK:type_of% @List.getElem?_drop:=@List.getElem?_drop
theorem fL:type_of% @List.mem_map:=@List.mem_map
theorem fM:type_of% @Nat.zero_add:=@Nat.zero_add
theorem fN:type_of% @List.getElem?_eq_none:=@List.getElem?_eq_none
theorem fO:type_of% @List.length_map:=@List.length_map
theorem fP:type_of% @Nat.mul_le_mul_right:=@Nat.mul_le_mul_right
theorem fQ:type_of% @List.mem_range:=@List.mem_range
theorem fR:type_of% @Bool.or_eq_false_iff:=@Bool.or_eq_false_iff
theorem fS:type_of% @Bool.true_or:=@Bool.true_or
theorem fT:type_of% @Nat.add_mul:=@Nat.add_mul
theorem fU:type_of% @List.length_take:=@List.length_take
theorem fV:type_of% @List.cons_append:=@List.cons_append
theorem fW:type_of% @List.mem_of_mem_drop:=@List.mem_of_mem_drop
theorem fX:type_of% @List.mem_filter:=@List.mem_filter
theorem fY:type_of% @List.mem_singleton:=@List.mem_singleton
theorem fZ:type_of% @List.map_congr_left:=@List.map_congr_left
theorem gA:type_of% @List.mem_of_mem_take:=@List.mem_of_mem_take
theorem gB:type_of% @List.pairwise_cons:=@List.pairwise_cons
theorem gC:type_of% @Array.getElem?_eq_getElem:=@Array.getElem?_eq_getElem
theorem gD:type_of% @Option.some.injEq:=@Option.some.injEq
theorem gE:type_of% @List.map_nil:=@List.map_nil
theorem gG:type_of% @List.foldl_cons:=@List.foldl_cons
theorem gH:type_of% @Nat.lt_or_ge:=@Nat.lt_or_ge
theorem gI:type_of% @List.mem_cons_of_mem:=@List.mem_cons_of_mem
theorem gJ:type_of% @Option.map_some:=@Option.map_some
theorem gK:type_of% @List.getElem_of_mem:=@List.getElem_of_mem
theorem gL:type_of% @List.length_singleton:=@List.length_singleton
theorem gN:type_of% @cell_of_row:=@cell_of_row
theorem gO:type_of% @List.size_toArray:=@List.size_toArray
theorem gP:type_of% @List.filter_cons_of_pos:=@List.filter_cons_of_pos
theorem gQ:type_of% @Bool.or_eq_true:=@Bool.or_eq_true
theorem gR:type_of% @List.drop_length:=@List.drop_length
theorem gS:type_of% @List.take_of_length_le:=@List.take_of_length_le
theorem gU:type_of% @List.mem_of_find?_eq_some:=@List.mem_of_find?_eq_some
theorem gV:type_of% @List.singleton_append:=@List.singleton_append
theorem gW:type_of% @List.filter_cons_of_neg:=@List.filter_cons_of_neg
theorem gX:type_of% @List.any_eq_true:=@List.any_eq_true
theorem gY:type_of% @List.reverse_reverse:=@List.reverse_reverse
theorem gZ:type_of% @Nat.add_zero:=@Nat.add_zero
theorem g4:type_of% @Int.tmod_eq_emod_of_nonneg:=@Int.tmod_eq_emod_of_nonneg
theorem g5:type_of% @Nat.zero_le:=@Nat.zero_le
theorem g6:type_of% @Option.map_eq_some_iff:=@Option.map_eq_some_iff
theorem g7:type_of% @wpIn_mono:=@wpIn_mono
theorem g8:type_of% @callsIn_wide:=@callsIn_wide
theorem g9:type_of% @Bool.and_self:=@Bool.and_self
theorem hF:type_of% @heap_alloc_new:=@heap_alloc_new
theorem hJ:type_of% @List.ext_getElem?:=@List.ext_getElem?
theorem hP:type_of% @Int.toNat_natCast:=@Int.toNat_natCast
theorem hQ:type_of% @List.set_eq_take_append_cons_drop:=@List.set_eq_take_append_cons_drop
theorem hY:type_of% @Nat.add_assoc:=@Nat.add_assoc
theorem hZ:type_of% @Nat.le_of_ble_eq_true:=@Nat.le_of_ble_eq_true
theorem im:type_of% @List.contains_iff_mem:=@List.contains_iff_mem
theorem io:type_of% @false_iff:=@false_iff
theorem iq:type_of% @Int.le_refl:=@Int.le_refl
theorem ir:type_of% @List.eq_nil_iff_forall_not_mem:=@List.eq_nil_iff_forall_not_mem
theorem iu:type_of% @Option.map_none:=@Option.map_none
theorem iw:type_of% @Option.isSome_iff_exists:=@Option.isSome_iff_exists
theorem iy:type_of% @List.any_eq_false:=@List.any_eq_false
theorem iz:type_of% @List.flatten_cons:=@List.flatten_cons
theorem iA:type_of% @List.take_add_one:=@List.take_add_one
theorem iB:type_of% @List.take_left:=@List.take_left
theorem iC:type_of% @List.drop_drop:=@List.drop_drop
theorem iD:type_of% @List.take_length:=@List.take_length
theorem iE:type_of% @List.ext_getElem:=@List.ext_getElem
theorem iF:type_of% @World.grownBy.refl:=@World.grownBy.refl
theorem iG:type_of% @Nat.eq_of_beq_eq_true:=@Nat.eq_of_beq_eq_true
theorem iH:type_of% @Option.some.inj:=@Option.some.inj
theorem iI:type_of% @List.mem_of_mem_erase:=@List.mem_of_mem_erase
theorem iJ:type_of% @List.head?_cons:=@List.head?_cons
theorem iK:type_of% @List.all_cons:=@List.all_cons
theorem iL:type_of% @Int.tdiv_eq_ediv_of_nonneg:=@Int.tdiv_eq_ediv_of_nonneg
theorem iM:type_of% @Bool.eq_false_iff:=@Bool.eq_false_iff
theorem iN:type_of% @Nat.beq_eq:=@Nat.beq_eq
theorem iO:type_of% @List.mem_or_eq_of_mem_set:=@List.mem_or_eq_of_mem_set
theorem iP:type_of% @List.getElem?_eq_none_iff:=@List.getElem?_eq_none_iff
theorem iQ:type_of% @setRow_heap:=@setRow_heap
theorem iR:type_of% @Nat.mul_one:=@Nat.mul_one
theorem iS:type_of% @List.mapM_cons:=@List.mapM_cons
theorem iT:type_of% @List.take_zero:=@List.take_zero
theorem iU:type_of% @Option.getD_some:=@Option.getD_some
theorem iV:type_of% @Array.getElem?_replicate:=@Array.getElem?_replicate
theorem iW:type_of% @Bool.not_eq_true:=@Bool.not_eq_true
theorem iX:type_of% @Sum.elim_inr:=@Sum.elim_inr
theorem iY:type_of% @Nat.mul_le_mul_left:=@Nat.mul_le_mul_left
theorem iZ:type_of% @List.length_pos_iff:=@List.length_pos_iff
theorem i4:type_of% @Bool.eq_iff_iff:=@Bool.eq_iff_iff
theorem i5:type_of% @List.filter_eq_nil_iff:=@List.filter_eq_nil_iff
theorem i6:type_of% @Bool.and_false:=@Bool.and_false
theorem i7:type_of% @List.length_filter_le:=@List.length_filter_le
theorem i8:type_of% @List.pairwise_append:=@List.pairwise_append
theorem i9:type_of% @List.sum_cons:=@List.sum_cons
theorem ja:type_of% @List.map_append:=@List.map_append
theorem jb:type_of% @Nat.min_eq_left:=@Nat.min_eq_left
theorem jc:type_of% @List.find?_some:=@List.find?_some
theorem jd:type_of% @decide_eq_false:=@decide_eq_false
theorem je:type_of% @Bool.or_self:=@Bool.or_self
end Go
namespace Go.AV
open Go.RowKit
variable {c i j e d B t m n bytes off eb len N h:Nat} {v z:Value} {w w':World} {b wrB b' sh want:Bool} {arr tmps:Array Value} {xs:List Value} {C M:Nat->Prop} {a A:Act} {x y s ix:Operand} {P:Program} {r:Option Nat} {o:Oper} {ty tx tz src dst:TypeId} {pos:String} {af:Array Edge} {g:Option (Nat×Bool)} {k k' kk:IntKind} {f:FuncId} {ats:Array TypeId} {ops:Array Oper} {rest l:List Oper} {fn:Func} {ps:List (Nat×Operand)} {listed:Array Bool} {lo hi:Option Operand}
inductive DV where
 | v (u:Value)
 | sl (size:Nat) (cells:List DV)
 | agg (cells:List DV)
 | pt (cells:List DV)
 | fn (f:FuncId) (caps:List DV)
 | bm (f:FuncId) (fs:List DV)
 | mp (ks:List Value) (vs:List DV)
variable {cells es rs news:List DV} {u:DV}
structure Born (ents:Array MapEntry) (clock:Nat):Prop where
 nd:(ents.toList.map (·.born)).Nodup
 lt:∀x∈ents.toList,x.born<clock
theorem Born.nil:Born #[] 0:=⟨List.nodup_nil,λx h=>by simp at h⟩
theorem Born.push {D:Array MapEntry} {k:Value} (h:Born D c):Born (D.push {key:=k,val:=v,born:=c}) (c+1):=by
 refine⟨?_,λx hx=>?_⟩;simp only[Array.toList_push,ja,fp,gE];refine List.nodup_append.2 ⟨h.nd,by simp,λa G b hb e=>?_⟩;simp at hb;subst hb;subst e;obtain⟨x,hx,e⟩:=fL.1 G;have:=h.lt x hx;omega;rw[Array.toList_push,fk] at hx;rcases hx with hx | hx
 have:=h.lt x hx;omega;simp at hx;subst hx;exact Nat.lt_succ_self _
theorem Born.modify {D:Array MapEntry} {f:MapEntry->MapEntry} (h:Born D c) (H:∀y,(f y).born=y.born):Born (D.modify i f) c:=by
 have e:(D.modify i f).toList.map (·.born)=D.toList.map (·.born):=by
  rw[Array.toList_modify];apply hJ;intro j;simp only[e7,List.getElem?_modify];split;cases D.toList[j]? <;> simp[H];cases D.toList[j]? <;> simp
 refine⟨by rw[e];exact h.nd,λx K=>?_⟩
 have:x.born∈(D.modify i f).toList.map (·.born):=fL.2 ⟨x,K,rfl⟩;rw[e] at this;obtain⟨y,O,G⟩:=fL.1 this;rw[<-G];exact h.lt y O
abbrev Im:=Nat->Nat->Prop
variable {I I':Im}
inductive Rep (w:World) (I:Im):Value->DV->Prop
  | v (u:Value):Rep w I u (.v u)
  | nil (A:Option Addr) (c size:Nat):Rep w I (.slice A 0 c) (.sl size [])
  | sl (b off n c size:Nat) (xs:List Value) (cells:List DV) (hn:0<n) (hcap:n<=c) (hl:cells.length=n*size) (hx:xs.length=cells.length)
      (hc:∀(j:Nat) x,xs[j]? =some x->w.cell? ⟨b,off+j,none⟩=some x/\I b (off+j)) (h1:∀x∈xs,x.oneCell'=true)
      (hr:∀(j:Nat) x d,xs[j]? =some x->cells[j]? =some d->Rep w I x d):Rep w I (.slice (some ⟨b,off,none⟩) n c) (.sl size cells)
  | agg (xs:List Value) (cells:List DV) (hx:xs.length=cells.length) (h1:∀x∈xs,x.oneCell'=true)
      (hr:∀(j:Nat) x d,xs[j]? =some x->cells[j]? =some d->Rep w I x d):Rep w I (.agg xs.toArray) (.agg cells)
  | pt (b off:Nat) (xs:List Value) (cells:List DV) (hx:xs.length=cells.length)
      (hc:∀(j:Nat) x,xs[j]? =some x->w.cell? ⟨b,off+j,none⟩=some x/\I b (off+j)) (h1:∀x∈xs,x.oneCell'=true)
      (hr:∀(j:Nat) x d,xs[j]? =some x->cells[j]? =some d->Rep w I x d):Rep w I (.pointer (some ⟨b,off,none⟩)) (.pt cells)
  | fn (f:FuncId) (xs:List Value) (caps:List DV) (hx:xs.length=caps.length)
      (hr:∀(j:Nat) x d,xs[j]? =some x->caps[j]? =some d->Rep w I x d):Rep w I (.func (.func f) #[] xs.toArray) (.fn f caps)
  | bm (f:FuncId) (xs:List Value) (fs:List DV) (hx:xs.length=fs.length)
      (hr:∀(j:Nat) x d,xs[j]? =some x->fs[j]? =some d->Rep w I x d):Rep w I (.func (.func f) xs.toArray #[]) (.bm f fs)
  | mp (b clock:Nat) (ents:Array MapEntry) (vs:List DV) (hh:w.heap[b]? =some (.map ents clock)) (hI:I b 0) (hx:ents.size=vs.length)
      (hr:∀(j:Nat) x d,ents.toList[j]? =some x->vs[j]? =some d->Rep w I x.val d) (hN:Born ents clock):Rep w I (.map (some b)) (.mp (ents.toList.map (·.key)) vs)
structure KeepB (w w':World) (b j:Nat):Prop where
 cell:w'.cell? ⟨b,j,none⟩=w.cell? ⟨b,j,none⟩
 map:∀ents c,w.heap[b]? =some (.map ents c)->w'.heap[b]? =some (.map ents c)
theorem KeepB.refl {b:Nat}:KeepB w w b j:=⟨rfl,λ_ _ h=>h⟩
theorem KeepB.trans {D G:World} {b:Nat} (h:KeepB D G b j) (k:KeepB w D b j):KeepB w G b j:=⟨h.cell.trans k.cell,λe c q=>h.map e c (k.map e c q)⟩
theorem KeepB.of {b:Nat} (h:w'.heap[b]? =w.heap[b]?):KeepB w w' b j:=⟨World.cell?_of_block (a:=⟨b,j,none⟩) h,λ_ _ q=>h.trans q⟩
theorem KeepB.ofCell {b:Nat} {fr:Nat×Nat} (hb:w.heap[b]? =some (.cells arr e fr)) (h:w'.cell? ⟨b,j,none⟩=w.cell? ⟨b,j,none⟩):KeepB w w' b j:=⟨h,λ_ _ q=>by rw[hb] at q;cases q⟩
def Same (I:Im) (w w':World):Prop:= ∀b j,I b j->KeepB w w' b j
theorem Rep.mono {d:DV} (h:Rep w I v d) (hs:Same I w w') (hI:∀b j,I b j->I' b j):Rep w' I' v d:=by
 induction h with
 | v u=>exact .v u
 | nil A c size=>exact .nil A c size
 | sl b off n c size xs cells hn ab hl D K h1 hr G=>
  exact .sl b off n c size xs cells hn ab hl D (λj x O=>⟨(hs _ _ (K j x O).2).cell.trans (K j x O).1,hI _ _ (K j x O).2⟩) h1 G
 | agg xs cells D h1 hr G=>exact .agg xs cells D h1 G
 | pt b off xs cells D K h1 hr G=>
  exact .pt b off xs cells D (λj x O=>⟨(hs _ _ (K j x O).2).cell.trans (K j x O).1,hI _ _ (K j x O).2⟩) h1 G
 | fn f xs T D hr G=>exact .fn f xs T D G
 | bm f xs fs D hr G=>exact .bm f xs fs D G
 | mp b H Z vs hh hb D hr hN G=>exact .mp b H Z vs ((hs _ _ hb).map _ _ hh) (hI _ _ hb) D G hN
def Pw {D G:Type} (R: D->G->Prop) (xs:List D) (ys:List G):Prop:=
 xs.length=ys.length/\∀(j:Nat) x y,xs[j]? =some x->ys[j]? =some y->R x y
section
variable {α β:Type} {R R': α->β->Prop} {xs xs':List α} {ys ys':List β}
theorem Pw.imp (h:Pw R xs ys) (G:∀x y,R x y->R' x y):Pw R' xs ys:=⟨h.1,λj x d H D=>G _ _ (h.2 j x d H D)⟩
theorem Pw.nil:Pw R [] []:=⟨rfl,λj x d h=>by simp at h⟩
theorem Pw.cons {x: α} {y: β} (h:R x y) (H:Pw R xs ys):Pw R (x::xs) (y::ys):=by
 refine⟨by simp[H.1],λj y e G D=>?_⟩;cases j with
 | zero=>simp at G D;subst G;subst D;exact h
 | succ j=>simp at G D;exact H.2 j y e G D
theorem Pw.append (h:Pw R xs ys) (k:Pw R xs' ys'):Pw R (xs++xs') (ys++ys'):=by
 refine⟨by simp[h.1,k.1],λj x d G D=>?_⟩;by_cases H:j<xs.length;rw[eZ H] at G;rw[eZ (h.1▸H)] at D;exact h.2 j x d G D;rw[eU (by omega)] at G;rw[eU (by rw[<-h.1];omega)] at D
 rw[<-h.1] at D;exact k.2 _ x d G D
theorem Pw.take (h:Pw R xs ys) (n:Nat):Pw R (xs.take n) (ys.take n):=by refine⟨by simp[h.1],λj x y D H=>?_⟩;rw[ft] at D H;split at D;rename_i G;rw[eG G] at H;exact h.2 j x y D H;cases D
theorem Pw.drop (h:Pw R xs ys) (n:Nat):Pw R (xs.drop n) (ys.drop n):=by refine⟨by simp[h.1],λj x y D G=>?_⟩;rw[fK] at D G;exact h.2 _ x y D G
theorem Pw.set (h:Pw R xs ys) {x: α} {y: β} (K:R x y) (n:Nat):Pw R (xs.set n x) (ys.set n y):=by refine⟨by simp[h.1],λj u v D G=>?_⟩;rw[List.getElem?_set] at D G;by_cases e:n=j;subst e;by_cases H:n<xs.length;simp[H] at D;rw[h.1] at H;simp[H] at G;subst D;subst G;exact K;simp[H] at D;simp[e] at D G;exact h.2 j u v D G
end
abbrev Reps (w:World) (I:Im) (xs:List Value) (ds:List DV):Prop:=Pw (Rep w I) xs ds
theorem Reps.mono {ds:List DV} (h:Reps w I xs ds) (H:Same I w w') (D:∀b j,I b j->I' b j):Reps w' I' xs ds:=
 h.imp λ_ _ G=>G.mono H D
inductive Cap where
 | top
 | d (x:DV)
 | ptr (id off:Nat)
 | row (id:Nat)
inductive AV where
 | top
 | d (x:DV)
 | row (id:Nat)
 | ptr (id off:Nat)
 | ip (cells:List DV) (off:Nat)
 | tup (ds:List DV)
 | cond (g:Bool) (x:AV)
 | gh (k:Nat)
 | rs (id off n:Nat)
 | clo (f:FuncId) (caps:List Cap)
 | tupc (xs:List Cap)
 | wp (id off:Nat)
 | ws (id off n:Nat) (tight:Bool)
 | aggc (xs:List Cap)
variable {av:AV}
inductive Blk where
 | none
 | row (e size:Nat) (sh:Bool) (cells:List DV)
 | box (e:Nat) (cells:List AV)
 | map (es:List (Value×DV))
 | it (es:List (Value×DV)) (q:List Nat)
 | win (e size k:Nat) (cells:List DV)
structure AState where
 tmps:List (Nat×AV)
 blks:List (Nat×Blk)
variable {S S':AState} {K:Exit->AState->Prop} {J:AState->Prop}
def look {G:Type} (D: G):List (Nat×G)->Nat->G
 | [],_=>D
 | (i,x)::r,k=>if Nat.beq i k then x else look D r k
theorem kB {G:Type} (D: G) (i:Nat) (x: G) (r:List (Nat×G)) (k:Nat):look D ((i,x)::r) k=if i=k then x else look D r k:=by simp only[look];by_cases h:i=k<;>simp[h,iN]
def AState.get (S:AState) (t:Nat):AV:=look .top S.tmps t
def AState.blk (S:AState) (id:Nat):Blk:=look .none S.blks id
def AState.put (S:AState) (t:Nat) (x:AV):AState:={S with tmps:=(t,x)::S.tmps}
def AState.setBlk (S:AState) (id:Nat) (b:Blk):AState:={S with blks:=(id,b)::S.blks}
theorem wK (S:AState) (t u:Nat) (x:AV):(S.put t x).get u=if t=u then x else S.get u:=kB _ _ _ _ _
theorem zPK (S:AState) (t u:Nat) (x:AV):(S.put t x).blk u=S.blk u:=rfl
theorem yC (S:AState) (t u:Nat) (x:Blk):(S.setBlk t x).blk u=if t=u then x else S.blk u:=kB _ _ _ _ _
theorem zGF (S:AState) (t u:Nat) (x:Blk):(S.setBlk t x).get u=S.get u:=rfl
def GT:Nat:=1000000
def AState.ghost (S:AState):Nat:=match S.get GT with
 | .gh k=>k
 | _=>0
def isData:Obj->Bool
 | .cells _ _ _=>true
 | .map _ _=>true
 | .mapIter _ _ _ _=>true
 | _=>false
structure Turned (l:Nat) (w w':World):Prop where
 os:w'.os=w.os
 tape:w'.tape=w.tape
 output:w'.output=w.output
 size:w'.heap.size=w.heap.size
 blk:∀k,k≠l->w'.heap[k]? =w.heap[k]?
 no:∀o,w.heap[l]? =some o->isData o=false
 no':∀o,w'.heap[l]? =some o->isData o=false
structure Chg (w w':World) (O:Nat->Prop):Prop where
 os:w'.os=w.os
 tape:w'.tape=w.tape
 output:w'.output=w.output
 size:w.heap.size<=w'.heap.size
 block:∀k,k<w.heap.size->¬O k->w'.heap[k]? =w.heap[k]?
theorem Chg.of {D:Option Nat} (h:w.grownBy w' D):Chg w w' (λb=>D=some b):=
 ⟨h.os,h.tape,h.output,h.size,λk G H=>h.block k G (λe=>H e.symm)⟩
def GlI (D:Nat->Option (List Value)) (w:World) (I:Im):Prop:= ∀g zs,D g=some zs->∀j,w.cell? ⟨g,j,none⟩=zs[j]?/\I g j
theorem GlI.sub {D:Nat->Option (List Value)} (h:GlI D w I) (H:∀b j,I b j->I' b j):GlI D w I':=λg zs G j=>⟨(h g zs G j).1,H _ _ (h g zs G j).2⟩
structure Env where
 B:Nat
 I0:Im
 n:Nat
 fr:Nat->(Nat->Prop)->World->Prop
 wrB:Bool
 rng:Bool:=wrB
 nle:n<=1000000
 mine:Nat->Prop
 mineB:∀b,B<=b->mine b
 nm:Nat->Option Value
 size:∀k C w,fr k C w->B<=w.heap.size
 csize:∀k C w,fr k C w->∀b,C b->b<w.heap.size
 grow:∀k C w w',fr k C w->Below w.heap.size w w'->fr k C w'
 wr:wrB=true->∀k C w w' O,fr k C w->Chg w w' O->(∀b,O b->mine b/\¬C b/\∃o,w.heap[b]? =some o/\isData o=true)->Same I0 w w'->fr k C w'
 turn:rng=true->∀k C w w' l,fr k C w->B<=l->Turned l w w'->Same I0 w w'->fr k C w'
 gdt:Nat->Option (List Value)
 gl:∀k C w,fr k C w->GlI gdt w I0
 dq:List Deferred:=[]
variable {E:Env}
def blockOf:Value->Option Nat
 | .slice (some a) _ _=>some a.block
 | .pointer (some a)=>some a.block
 | .map (some b)=>some b
 | _=>none
section
variable (w:World) (I:Im) (ρ:Nat->Value)
def HoldsC:Value->Cap->Prop
 | _,.top=>True
 | v,.d x=>Rep w I v x
 | v,.row id=>v= ρ id
 | v,.ptr id off=> ∃b,blockOf (ρ id)=some b/\v= .pointer (some ⟨b,off,none⟩)
def Holds:Value->AV->Prop
 | _,.top=>True
 | v,.d x=>Rep w I v x
 | v,.row id=>v= ρ id
 | v,.ptr id off=> ∃b,blockOf (ρ id)=some b/\v= .pointer (some ⟨b,off,none⟩)
 | v,.ip cells k=> ∃b off xs,v= .pointer (some ⟨b,off+k,none⟩)/\Reps w I xs cells/\(∀x∈xs,x.oneCell'=true)/\(∀(j:Nat) x,xs[j]? =some x->w.cell? ⟨b,off+j,none⟩=some x/\I b (off+j))
 | v,.tup ds=> ∃xs,v= .tuple xs.toArray/\Reps w I xs ds
 | v,.cond g x=>(g=true->Holds v x)/\(g=false->v=undef)
 | _,.gh _=>True
 | v,.rs id off n=> ∃A c,v= .slice A n c/\n<=c/\(0<n->∃b,blockOf (ρ id)=some b/\A=some ⟨b,off,none⟩)
 | v,.clo f D=> ∃xs,v= .func (.func f) #[] xs.toArray/\Pw (HoldsC w I ρ) xs D
 | v,.tupc cs=> ∃xs,v= .tuple xs.toArray/\Pw (HoldsC w I ρ) xs cs
 | v,.aggc cs=> ∃xs,v= .agg xs.toArray/\Pw (HoldsC w I ρ) xs cs/\∀x∈xs,x.oneCell'=true
 | v,.wp id off=> ∃b o n c,ρ id= .slice (some ⟨b,o,none⟩) n c/\v= .pointer (some ⟨b,o+off,none⟩)
 | v,.ws id off n O=> ∃A c,v= .slice A n c/\n<=c/\(O=true->c=n)/\(0<n->∃b o H G,ρ id= .slice (some ⟨b,o,none⟩) H G/\A=some ⟨b,o+off,none⟩)
def BlkOk (M:Nat->Prop) (id:Nat):Blk->Prop
  | .none=>True
  | .row e size sh cells=>(0<size/\∀g,(ρ id).ownBlock=some g->M g)/\∃n xs,cells.length=n*size/\w.ownsRow 0 e size (ρ id) n xs/\(∀x∈xs,x.oneCell'=true)/\Reps w I xs cells/\
      (∀g j,(ρ id).ownBlock=some g->I g j->sh=true/\j<cells.length)
  | .box e cells=> ∃b arr,ρ id= .pointer (some ⟨b,0,none⟩)/\M b/\w.heap[b]? =some (.cells arr e (0,0))/\(∀x∈arr.toList,x.oneCell'=true)/\
      Pw (Holds w I ρ) arr.toList cells/\(∀j,¬I b j)
  | .map es=> ∃b G D,ρ id= .map (some b)/\M b/\w.heap[b]? =some (.map G D)/\Pw (λ(x:MapEntry) (y:Value×DV)=>x.key=y.1/\Rep w I x.val y.2) G.toList es/\(∀j,¬I b j)/\Born G D
  | .it es q=> ∃b O G D H,ρ id= .pointer (some ⟨b,0,none⟩)/\M b/\w.heap[b]? =some (.mapIter (some O) D H D)/\(∀j,¬I b j)/\w.heap[O]? =some (.map G D)/\I O 0/\
      Pw (λ(x:MapEntry) (y:Value×DV)=>x.key=y.1/\Rep w I x.val y.2) G.toList es/\Born G D/\H.toList.map some=q.map λi=>(G[i]?).map (·.born)
  | .win e size k cells=> ∃A n c xs,ρ id= .slice A n c/\n<=c/\0<size/\cells.length=n*size/\Reps w I xs cells/\(∀x∈xs,x.oneCell'=true)/\
      ((A=none/\n=0)\/∃b off arr,A=some ⟨b,off,none⟩/\M b/\w.heap[b]? =some (.cells arr e (0,0))/\off+n*size<=arr.size/\(∀(j:Nat) x,xs[j]? =some x->arr[off+j]? =some x)/\(∀j,off<=j->j<off+n*size->I b j->j<off+k*size))
end
def realD (d:Deferred):Bool:=match d.target with
 | .collected _=>false
 | _=>true
theorem zMX {d:Deferred} {r:Nat} (h:d.target= .collected r):realD d=false:=by unfold realD;rw[h]
theorem zWW {d:Deferred} (h:realD d=true) (r:Nat):d.target≠ .collected r:=λe=>by rw[zMX e] at h;cases h
structure DefOk (dq:List Deferred) (B:Nat) (wrB:Bool) (C:Nat->Prop) (w:World) (ds:List Deferred):Prop where
 each:∀d∈ds,(∃r,d.target= .collected r/\B<=r/\¬C r/\w.heap[r]? =some (.deferred (some [])))\/realD d=true
 dist:ds.Pairwise λd e=> ∀r,d.target= .collected r->e.target≠ .collected r
 wr:ds.filter (λd=>!realD d)≠[]->wrB=true
 real:ds.filter realD=dq
theorem DefOk.nil:DefOk [] B wrB C w []:=⟨by simp,.nil,λh=>absurd rfl h,rfl⟩
theorem DefOk.keep {dq:List Deferred} {ds:List Deferred} (h:DefOk dq B wrB C w ds) (Z:∀r:Nat,w.heap[r]? =some (Obj.deferred (some []))->w'.heap[r]? =some (Obj.deferred (some []))):DefOk dq B wrB C w' ds:=
 ⟨λd T=>(h.each d T).imp (λ⟨r,G,H,D,O⟩=>⟨r,G,H,D,Z r O⟩) id,h.dist,h.wr,h.real⟩
theorem DefOk.marks {ds:List Deferred} (h:DefOk [] B wrB C w ds) (d:Deferred) (D:d∈ds):∃r,d.target= .collected r/\B<=r/\¬C r/\w.heap[r]? =some (.deferred (some [])):=by rcases h.each d D with q | q;exact q;have:d∈ds.filter realD:=fX.2 ⟨D,q⟩;rw[h.real] at this;cases this
structure SatAt (E:Env) (S:AState) (a:Act) (w:World) (I:Im) (ρ:Nat->Value) (C:Nat->Prop):Prop where
 tmps:∀t,Holds w I ρ (a.tmps.getD t undef) (S.get t)
 blks:∀id,BlkOk w I ρ E.mine id (S.blk id)
 dist:∀id id' b,id≠id'->S.blk id≠ .none->S.blk id'≠ .none->blockOf (ρ id)=some b->blockOf (ρ id')≠some b
 frame:E.fr S.ghost C w
 sub:∀b j,E.I0 b j->I b j
 old:∀b j,I b j->b<w.heap.size/\(E.I0 b j\/E.mine b)
 size:a.tmps.size=E.n
 defers:DefOk E.dq E.B E.rng C w a.defers
 cI:∀b j,I b j->¬C b
 cB:∀id b,S.blk id≠ .none->blockOf (ρ id)=some b->¬C b
 nm:∀id v,E.nm id=some v->S.blk id≠ .none->ρ id=v
def Sat (E:Env) (S:AState) (a:Act) (w:World):Prop:= ∃I ρ C,SatAt E S a w I ρ C
theorem SatAt.gl {ρ:Nat->Value} (h:SatAt E S a w I ρ C):GlI E.gdt w I:=(E.gl _ _ _ h.frame).sub h.sub
theorem vZ (S:AState) (x:AV) (h:t<E.n):(S.put t x).ghost=S.ghost:=by
 have D:t≠GT:=by have:=E.nle;unfold GT;omega
 unfold AState.ghost;rw[wK,dU D]
def AV.un:AV->AV
 | .cond true x=>x.un
 | y=>y
def AState.ev (S:AState):Operand->AV
 | .tmp t=>(S.get t).un
 | .const v=> .d (.v v)
 | .func f=> .d (.v (.func (.func f) #[] #[]))
 | .global _=> .top
theorem Holds.un {ρ:Nat->Value}:∀{x:AV},Holds w I ρ v x->Holds w I ρ v x.un:=by
 intro x
 induction x with
 | cond g x D=>
  intro h;cases g with
  | false=>exact h
  | true=>exact D (h.1 rfl)
 | _=>exact id
theorem SatAt.ev {ρ:Nat->Value} (h:SatAt E S a w I ρ C) (x:Operand):Holds w I ρ (a.eval x) (S.ev x):=by
 cases x with
 | tmp t=>exact(h.tmps t).un
 | const v=>exact .v v
 | func f=>exact .v _
 | global g=>trivial
theorem SatAt.val {ρ:Nat->Value} (h:SatAt E S a w I ρ C) (D:S.ev x= .d (.v v)):a.eval x=v:=by have:=h.ev x;rw[D] at this;generalize a.eval x=u at this ⊢;cases this;rfl
theorem SatAt.put {ρ:Nat->Value} (h:SatAt E S a w I ρ C) {x:AV} (G:d<E.n) (H:Holds w I ρ v x):
  SatAt E (S.put d x) (a.put (some d) v) w I ρ C:=by
 refine⟨λt=>?_,h.blks,h.dist,by rw[vZ S x G];exact h.frame,h.sub,h.old,by simp[Act.put,h.size],h.defers,h.cI,h.cB,h.nm⟩
 rw[wK];by_cases D:d=t
 ·subst D
  simp only[eK,Act.put];rw[dZ,Array.getElem?_setIfInBounds_self_of_lt (by rw[h.size];exact G)]
  exact H
 ·simp only[D,eE,Act.put]
  have:=h.tmps t;rw[dZ] at this ⊢;rw[eX D];exact this
def fen (r:Option Nat):Fence:={Fence.wide with round:=r}
def jI (P:Program) (r:Option Nat) (E:Env) (o:Oper) (S S':AState):Prop:=
 ∀a w (K:Act->World->Prop) (Q:Exit->Act->World->Prop),Sat E S a w->(∀D w',Sat E S' D w'->K D w')->o.wpIn (fen r) 0 P a w K Q
section
theorem vR (D:∀c,o.op≠ .defer c)
  (h:∀a w I ρ C,SatAt E S a w I ρ C->∃v w',(execOp a.eval o).run P w= .ok (.value v) w'/\Sat E S' (a.put o.dst v) w'):jI P r E o S S':=by
 rintro a w K Q ⟨I,ρ,C,O⟩ G
 obtain⟨v,w',H,T⟩:=h a w I ρ C O;refine⟨λf _=>trivial,?_⟩;rw[Oper.semAt_eq _ _ _ D,H];exact G _ _ T
theorem zV {x:AV} (H:o.dst=some d) (O:d<E.n) (D:∀c,o.op≠ .defer c)
  (h:∀a w I ρ C,SatAt E S a w I ρ C->∃v,(execOp a.eval o).run P w= .ok (.value v) w/\Holds w I ρ v x):jI P r E o S (S.put d x):=
 vR D λa w I ρ C G=>by
  obtain⟨v,T,Z⟩:=h a w I ρ C G;exact⟨v,w,T,I,ρ,C,by rw[H];exact G.put O Z⟩
theorem yE9 (D:d<E.n):jI P r E ⟨some d,.move x,ty,pos,af,g⟩ S (S.put d (S.ev x)):=
 zV rfl D (by simp) λa w I ρ C G=>⟨a.eval x,by simp[execOp],G.ev x⟩
theorem z5K (D:d<E.n):jI P r E ⟨some d,.assign x,ty,pos,af,g⟩ S (S.put d (S.ev x)):=
 zV rfl D (by simp) λa w I ρ C G=>⟨a.eval x,by simp[execOp],G.ev x⟩
theorem yD (G:o.dst=some d) (H:d<E.n) (D:∀c,o.op≠ .defer c)
  (h:∀a w I ρ C,SatAt E S a w I ρ C->(execOp a.eval o).run P w= .ok (.value v) w):jI P r E o S (S.put d (.d (.v v))):=
 zV G H D λa w I ρ C O=>⟨v,h a w I ρ C O,.v v⟩
section ints
variable {a b:Int} (hn:d<E.n) (hx:S.ev x= .d (.v (.int k a))) (hy:S.ev y= .d (.v (.int k b)))
include hn hx hy
theorem yI8:jI P r E ⟨some d,.binOp .lss tx x y tz,ty,pos,af,g⟩ S (S.put d (.d (.v (.bool (decide (a<b)))))):=
 yD rfl hn (by simp) λA w I ρ C D=>by
  simp only[execOp,D.val hx,D.val hy];simp[binOp,eqGuard,Op.intCmp]
theorem yI9:jI P r E ⟨some d,.binOp .leq tx x y tz,ty,pos,af,g⟩ S (S.put d (.d (.v (.bool (decide (a<=b)))))):=
 yD rfl hn (by simp) λA w I ρ C D=>by
  simp only[execOp,D.val hx,D.val hy];simp[binOp,eqGuard,Op.intCmp]
theorem yJA:jI P r E ⟨some d,.binOp .gtr tx x y tz,ty,pos,af,g⟩ S (S.put d (.d (.v (.bool (decide (b<a)))))):=
 yD rfl hn (by simp) λA w I ρ C D=>by
  simp only[execOp,D.val hx,D.val hy];simp[binOp,eqGuard,Op.intCmp]
theorem yJB:jI P r E ⟨some d,.binOp .geq tx x y tz,ty,pos,af,g⟩ S (S.put d (.d (.v (.bool (decide (b<=a)))))):=
 yD rfl hn (by simp) λA w I ρ C D=>by
  simp only[execOp,D.val hx,D.val hy];simp[binOp,eqGuard,Op.intCmp]
theorem yJC:jI P r E ⟨some d,.binOp .eql tx x y tz,ty,pos,af,g⟩ S (S.put d (.d (.v (.bool (decide (a=b)))))):=
 yD rfl hn (by simp) λA w I ρ C D=>by
  simp only[execOp,D.val hx,D.val hy];have:(a==b)=decide (a=b):=rfl;simp[binOp,eqGuard,Op.intCmp,this]
theorem yJD:jI P r E ⟨some d,.binOp .neq tx x y tz,ty,pos,af,g⟩ S (S.put d (.d (.v (.bool (!decide (a=b)))))):=
 yD rfl hn (by simp) λA w I ρ C D=>by
  simp only[execOp,D.val hx,D.val hy];have:(a != b)= !decide (a=b):=rfl;simp[binOp,eqGuard,Op.intCmp,this]
end ints
theorem yJE {a:Int} (Z:d<E.n) (hx:S.ev x= .d (.v (.int k a))) (hy:S.ev y= .d (.v (.int k' (m:Int))))
  (T:m<=k.bits):jI P r E ⟨some d,.binOp .shr tx x y tz,ty,pos,af,g⟩ S (S.put d (.d (.v (.int k (a/2 ^ m))))):=
 yD rfl Z (by simp) λA w I ρ C D=>by
  simp only[execOp,D.val hx,D.val hy];have G:¬((m:Int)<0):=by omega
  have H:min m k.bits=m:=jb T;have O:a.fdiv (2 ^ m)=a/2 ^ m:=Int.fdiv_eq_ediv_of_nonneg a (Int.le_of_lt (Int.pow_pos (by decide)));simp[binOp,eqGuard,Op.shift,G,H,O]
theorem yJF (D:d<E.n) (H:S.ev x= .d (.v (.bool b))):jI P r E ⟨some d,.unOp .not tx x,ty,pos,af,g⟩ S (S.put d (.d (.v (.bool (!b))))):=
 yD rfl D (by simp) λA w I ρ C G=>by
  simp only[execOp,G.val H];simp[Op.unary]
theorem zZC {c:Operand} (T:d<E.n) (O:S.ev c= .d (.v (.bool b))) (Z:S.get t= .cond b (.d (.v (.bool b')))):
  jI P r E ⟨some d,.pick c (.tmp t) (.const (.bool false)),ty,pos,af,g⟩ S (S.put d (.d (.v (.bool (b&&b'))))):=
 yD rfl T (by simp) λA w I ρ C H=>by
  have G:=H.tmps t;rw[Z] at G;simp only[execOp,H.val O];cases b with
  | false=>simp[asBool,Act.eval]
  | true=>
   have D:=G.1 rfl;generalize hv:A.tmps.getD t undef=v at D;cases D;simp only[Act.eval,hv];simp[asBool]
theorem z2D {c:Operand} (T:d<E.n) (O:S.ev c= .d (.v (.bool b))) (Z:S.get t= .cond (!b) (.d (.v (.bool b')))):
  jI P r E ⟨some d,.pick c (.const (.bool true)) (.tmp t),ty,pos,af,g⟩ S (S.put d (.d (.v (.bool (b ||b'))))):=
 yD rfl T (by simp) λA w I ρ C H=>by
  have G:=H.tmps t;rw[Z] at G;simp only[execOp,H.val O];cases b with
  | true=>simp[asBool,Act.eval]
  | false=>
   have D:=G.1 rfl;generalize hv:A.tmps.getD t undef=v at D;cases D;simp only[Act.eval,hv];simp[asBool]
section strs
variable {a b:ByteArray} (hn:d<E.n) (hx:S.ev x= .d (.v (.string a))) (hy:S.ev y= .d (.v (.string b)))
include hn hx hy
theorem zWX {D:BinOp} (T:D≠ .shl/\D≠ .shr) (h:∀w,(Op.stringOp D a b).run P w= .ok v w):jI P r E ⟨some d,.binOp D tx x y tz,ty,pos,af,g⟩ S (S.put d (.d (.v v))):=
 yD rfl hn (by simp) λA w I ρ C G=>by
  simp only[execOp,G.val hx,G.val hy];have H:(eqGuard D tx x y (.string a) (.string b)).run P w= .ok () w:=by cases D<;>simp[eqGuard]
  have O:binOp D tx (.string a) (.string b)=Op.stringOp D a b:=by cases D<;>simp_all [binOp]
  simp[H,O,h]
theorem yFA:jI P r E ⟨some d,.binOp .eql tx x y tz,ty,pos,af,g⟩ S (S.put d (.d (.v (.bool (a.toList==b.toList))))):=zWX hn hx hy (by simp) (λ_=>by simp[Op.stringOp])
theorem yFB:jI P r E ⟨some d,.binOp .neq tx x y tz,ty,pos,af,g⟩ S (S.put d (.d (.v (.bool (!(a.toList==b.toList)))))):=zWX hn hx hy (by simp) (λ_=>by simp[Op.stringOp])
theorem yFC:jI P r E ⟨some d,.binOp .lss tx x y tz,ty,pos,af,g⟩ S (S.put d (.d (.v (.bool (Op.bytesLess a.toList b.toList))))):=zWX hn hx hy (by simp) (λ_=>by simp[Op.stringOp])
end strs
theorem zZD {a:Int} {D td:TypeId} {ds:TypeDesc} (H:d<E.n) (O:P.underlying D=some ds) (G:P.underlying td=some (.int k')) (T:S.ev x= .d (.v (.int k a))):
  jI P r E ⟨some d,.convert D td x,ty,pos,af,g⟩ S (S.put d (.d (.v (.int k' (k'.wrap a))))):=
 yD rfl H (by simp) λA w I ρ C h=>by
  simp only[execOp,h.val T];simp[convert,eM O,eM G,Conv.intToInt]
theorem z2E {ds:List DV} {e:DV} (H:d<E.n) (Z:S.ev x= .tup ds) (hi:ds[i]? =some e):jI P r E ⟨some d,.extract x i,ty,pos,af,g⟩ S (S.put d (.d e)):=
 zV rfl H (by simp) λA w I ρ C O=>by
  have h:=O.ev x;rw[Z] at h;obtain⟨xs,T,G⟩:=h;have D:i<xs.length:=by rw[G.1];exact(dV.1 hi).1
  refine⟨xs[i],?_,G.2 i _ e (dT D) hi⟩;simp only[execOp,T];simp[Instr.extract,dT D]
end
def Cap.mentions (id:Nat):Cap->Bool
 | .row i=>Nat.beq i id
 | .ptr i _=>Nat.beq i id
 | _=>false
def AV.mentions (id:Nat):AV->Bool
 | .row i=>Nat.beq i id
 | .ptr i _=>Nat.beq i id
 | .rs i _ _=>Nat.beq i id
 | .wp i _=>Nat.beq i id
 | .ws i _ _ _=>Nat.beq i id
 | .clo _ D=>D.any (Cap.mentions id)
 | .tupc D=>D.any (Cap.mentions id)
 | .aggc D=>D.any (Cap.mentions id)
 | .cond _ x=>x.mentions id
 | _=>false
def zFQ (id:Nat) (x:AV):AV:=if x.mentions id then .top else x
def zV6 (id:Nat):Blk->Blk
 | .box e cells=> .box e (cells.map (zFQ id))
 | b=>b
def AState.kill (S:AState) (id:Nat):AState:=
 {tmps:=S.tmps.map λp=>(p.1,zFQ id p.2),blks:=S.blks.map λp=>(p.1,zV6 id p.2)}
theorem zR3 {G:Type} (D: G) (f: G->G) (H:f D=D) (l:List (Nat×G)) (k:Nat):look D (l.map λp=>(p.1,f p.2)) k=f (look D l k):=by
 induction l with
 | nil=>simp[look,H]
 | cons p l O=>obtain⟨i,x⟩:=p;simp only[fp,kB,O];split<;>rfl
theorem z5L (S:AState) (id t:Nat):(S.kill id).get t=zFQ id (S.get t):=zR3 _ _ rfl _ _
theorem zJU (S:AState) (id i:Nat):(S.kill id).blk i=zV6 id (S.blk i):=zR3 _ _ rfl _ _
theorem yOJ (id:Nat) (x:AV):(match zFQ id x with | .gh k=>k | _=>0)=(match x with | .gh k=>k | _=>0):=by
 unfold zFQ;by_cases h:x.mentions id=true;simp only[h,eK];cases x<;>first | rfl | (simp[AV.mentions] at h)
 simp only[h];rfl
def upd (ρ:Nat->Value) (id:Nat) (v:Value):Nat->Value:=λi=>if i=id then v else ρ i
theorem HoldsC.upd {ρ:Nat->Value} {x:Cap} (h:HoldsC w I ρ v x) (H:Same I w w') (G:∀b j,I b j->I' b j) (id:Nat) (u:Value) (D:x.mentions id=false):
  HoldsC w' I' (upd ρ id u) v x:=by
 cases x with
 | top=>trivial
 | d y=>exact Rep.mono h H G
 | row i=>
  have:i≠id:=by intro e;subst e;simp[Cap.mentions] at D
  simpa[HoldsC,Go.AV.upd,this] using h
 | ptr i off=>
  have:i≠id:=by intro e;subst e;simp[Cap.mentions] at D
  simpa[HoldsC,Go.AV.upd,this] using h
theorem HoldsC.updL {ρ:Nat->Value} {cs:List Cap} (h:Pw (HoldsC w I ρ) xs cs) (O:Same I w w') (G:∀b j,I b j->I' b j) (id:Nat) (u:Value) (H:cs.any (Cap.mentions id)=false):
  Pw (HoldsC w' I' (Go.AV.upd ρ id u)) xs cs:=⟨h.1,λj x c T D=>(h.2 j x c T D).upd O G id u (by
   have:=iy.1 H c (fH D);simpa using this)⟩
theorem HoldsC.mono {ρ:Nat->Value} {x:Cap} (h:HoldsC w I ρ v x) (G:Same I w w') (D:∀b j,I b j->I' b j):HoldsC w' I' ρ v x:=by
 cases x with
 | top=>trivial
 | d y=>exact Rep.mono h G D
 | row i=>exact h
 | ptr i off=>exact h
theorem Holds.upd {ρ:Nat->Value} {x:AV} (h:Holds w I ρ v x) (T:Same I w w') (O:∀b j,I b j->I' b j) (id:Nat) (u:Value):
  Holds w' I' (upd ρ id u) v (zFQ id x):=by
 unfold zFQ;by_cases D:x.mentions id=true
 ·simp[D,Holds]
 ·simp only[D]
  show Holds w' I' (Go.AV.upd ρ id u) v x
  induction x with
  | top=>trivial
  | d y=>exact Rep.mono h T O
  | row i=>
   have:i≠id:=by intro e;subst e;simp[AV.mentions] at D
   simpa[Holds,Go.AV.upd,this] using h
  | ptr i off=>
   have:i≠id:=by intro e;subst e;simp[AV.mentions] at D
   simpa[Holds,Go.AV.upd,this] using h
  | ip cells k=>
   obtain⟨b,off,xs,G,hr,h1,hc⟩:=h;exact⟨b,off,xs,G,hr.mono T O,h1,λj y hj=>⟨(T _ _ (hc j y hj).2).cell.trans (hc j y hj).1,O _ _ (hc j y hj).2⟩⟩
  | tup ds=>obtain⟨xs,G,hr⟩:=h;exact⟨xs,G,hr.mono T O⟩
  | cond g y ih=>exact⟨λhg=>ih (h.1 hg) (by simpa[AV.mentions] using D),h.2⟩
  | gh k=>trivial
  | rs i off n=>
   have:i≠id:=by intro e;subst e;simp[AV.mentions] at D
   simpa[Holds,Go.AV.upd,this] using h
  | clo f H=>
   obtain⟨xs,G,Z⟩:=h;exact⟨xs,G,HoldsC.updL Z T O id u (by simpa[AV.mentions] using D)⟩
  | tupc H=>
   obtain⟨xs,G,Z⟩:=h;exact⟨xs,G,HoldsC.updL Z T O id u (by simpa[AV.mentions] using D)⟩
  | aggc H=>
   obtain⟨xs,G,Z,h1⟩:=h;exact⟨xs,G,HoldsC.updL Z T O id u (by simpa[AV.mentions] using D),h1⟩
  | wp i off=>
   have:i≠id:=by intro e;subst e;simp[AV.mentions] at D
   simpa[Holds,Go.AV.upd,this] using h
  | ws i off n tt=>
   have:i≠id:=by intro e;subst e;simp[AV.mentions] at D
   simpa[Holds,Go.AV.upd,this] using h
theorem Holds.mono {ρ:Nat->Value} {x:AV} (h:Holds w I ρ v x) (O:Same I w w') (H:∀b j,I b j->I' b j):Holds w' I' ρ v x:=by
 induction x with
 | top=>trivial
 | d y=>exact Rep.mono h O H
 | row i=>exact h
 | ptr i off=>exact h
 | ip cells k=>
  obtain⟨b,off,xs,D,hr,Z,hc⟩:=h;exact⟨b,off,xs,D,hr.mono O H,Z,λj y hj=>⟨(O _ _ (hc j y hj).2).cell.trans (hc j y hj).1,H _ _ (hc j y hj).2⟩⟩
 | tup ds=>obtain⟨xs,D,hr⟩:=h;exact⟨xs,D,hr.mono O H⟩
 | cond g y ih=>exact⟨λhg=>ih (h.1 hg),h.2⟩
 | gh k=>trivial
 | rs i off n=>exact h
 | clo f G=>obtain⟨xs,D,T⟩:=h;exact⟨xs,D,T.imp λ_ _ h=>h.mono O H⟩
 | tupc G=>obtain⟨xs,D,T⟩:=h;exact⟨xs,D,T.imp λ_ _ h=>h.mono O H⟩
 | aggc G=>obtain⟨xs,D,T,Z⟩:=h;exact⟨xs,D,T.imp λ_ _ h=>h.mono O H,Z⟩
 | wp i off=>exact h
 | ws i off n tt=>exact h
theorem zQM {size:Nat} (h:w.ownsRow B e size v n xs) (hb:∀g,v.ownBlock=some g->w'.heap[g]? =w.heap[g]?):w'.ownsRow B e size v n xs:=by
 refine⟨h.1,?_⟩;rcases h.2 with T | ⟨g,D,G,rfl,H,O,rest⟩
 exact .inl T;exact .inr ⟨g,D,G,rfl,H,by rw[hb g rfl];exact O,rest⟩
theorem zBY {g:Nat} (h:v.ownBlock=some g):blockOf v=some g:=by unfold Value.ownBlock at h;split at h;simpa[blockOf] using h;cases h
theorem BlkOk.mono {ρ:Nat->Value} {x:Blk} (h:BlkOk w I ρ M i x) (hs:Same I w w')
  (hb:∀b,blockOf (ρ i)=some b->w'.heap[b]? =w.heap[b]?):BlkOk w' I ρ M i x:=by
 cases x with
 | none=>trivial
 | row e size sh cells=>
  obtain⟨h0,n,xs,hl,ai,h1,O,Z⟩:=h;exact⟨h0,n,xs,hl,zQM ai (λg hg=>hb g (zBY hg)),h1,O.mono hs (λ_ _ h=>h),Z⟩
 | box e cells=>
  obtain⟨b,arr,H,T,hh,h1,O,Z⟩:=h;exact⟨b,arr,H,T,by rw[hb b (by rw[H];rfl)];exact hh,h1,O.imp λ_ _ h=>h.mono hs (λ_ _ h=>h),Z⟩
 | map es=>
  obtain⟨b,G,D,H,T,hh,O,Z⟩:=h;exact⟨b,G,D,H,T,by rw[hb b (by rw[H];rfl)];exact hh,O.imp λ_ _ h=>⟨h.1,h.2.mono hs (λ_ _ h=>h)⟩,Z⟩
 | it es q=>
  obtain⟨b,bm,G,D,aj,H,T,hh,Z,hm,ah,O,hN,hq⟩:=h;exact⟨b,bm,G,D,aj,H,T,by rw[hb b (by rw[H];rfl)];exact hh,Z,(hs _ _ ah).map _ _ hm,ah,O.imp λ_ _ h=>⟨h.1,h.2.mono hs (λ_ _ h=>h)⟩,hN,hq⟩
 | win e size k cells=>
  obtain⟨A,n,c,xs,H,al,hp,hl,O,h1,hA⟩:=h;refine⟨A,n,c,xs,H,al,hp,hl,O.mono hs (λ_ _ h=>h),h1,?_⟩;rcases hA with hA | ⟨b,off,arr,hA,T,hh,ab⟩
  ·exact .inl hA
  ·exact .inr ⟨b,off,arr,hA,T,by rw[hb b (by rw[H,hA];rfl)];exact hh,ab⟩
theorem BlkOk.upd {ρ:Nat->Value} {x:Blk} (h:BlkOk w I ρ M i x) (hs:Same I w w')
  (hb:∀b,blockOf (ρ i)=some b->w'.heap[b]? =w.heap[b]?) {id:Nat} (aq:i≠id) (u:Value):BlkOk w' I (upd ρ id u) M i (zV6 id x):=by
 have G:Go.AV.upd ρ id u i= ρ i:=by simp[Go.AV.upd,aq]
 cases x with
 | none=>trivial
 | row e size sh cells=>
  obtain⟨h0,n,xs,hl,ak,h1,T,hI⟩:=h;refine⟨by rw[G];exact h0,n,xs,hl,?_,h1,T.mono hs (λ_ _ h=>h),?_⟩
  ·rw[G];exact zQM ak (λg hg=>hb g (zBY hg))
  ·rw[G];exact hI
 | box e cells=>
  obtain⟨b,arr,O,hB,hh,h1,T,hI⟩:=h;refine⟨b,arr,by rw[G];exact O,hB,by rw[hb b (by rw[O];rfl)];exact hh,h1,⟨by simpa using T.1,λj y av hj Z=>?_⟩,hI⟩
  rw[e7] at Z;cases hc:cells[j]? with
  | none=>simp[hc] at Z
  | some am=>
   simp[hc] at Z;subst Z;exact(T.2 j y am hj hc).upd hs (λ_ _ h=>h) id u
 | map es=>
  obtain⟨b,H,D,O,hB,hh,T,hI⟩:=h;exact⟨b,H,D,by rw[G];exact O,hB,by rw[hb b (by rw[O];rfl)];exact hh,T.imp λ_ _ h=>⟨h.1,h.2.mono hs (λ_ _ h=>h)⟩,hI⟩
 | it es q=>
  obtain⟨b,bm,H,D,al,O,hB,hh,hI,hm,aj,T,hN,hq⟩:=h;exact⟨b,bm,H,D,al,by rw[G];exact O,hB,by rw[hb b (by rw[O];rfl)];exact hh,hI,(hs _ _ aj).map _ _ hm,aj,T.imp λ_ _ h=>⟨h.1,h.2.mono hs (λ_ _ h=>h)⟩,hN,hq⟩
 | win e size k cells=>
  obtain⟨A,n,c,xs,O,ap,hp,hl,T,h1,hA⟩:=h;refine⟨A,n,c,xs,by rw[G];exact O,ap,hp,hl,T.mono hs (λ_ _ h=>h),h1,?_⟩
  rcases hA with hA | ⟨b,off,arr,hA,hB,hh,ad⟩
  ·exact .inl hA
  ·exact .inr ⟨b,off,arr,hA,hB,by rw[hb b (by rw[O,hA];rfl)];exact hh,ad⟩
theorem BlkOk.widenI {ρ:Nat->Value} {x:Blk} (h:BlkOk w I ρ M i x) (D:∀b j,I b j->I' b j)
  (hx:∀b j,x≠ .none->blockOf (ρ i)=some b->I' b j->I b j):BlkOk w I' ρ M i x:=by
 have hs:Same I w w:=λ_ _ _=>KeepB.refl;cases x with
 | none=>trivial
 | row e size sh cells=>
  obtain⟨h0,n,xs,hl,ag,h1,Z,T⟩:=h;exact⟨h0,n,xs,hl,ag,h1,Z.mono hs D,λg j hg hi=>T g j hg (hx g j (by simp) (zBY hg) hi)⟩
 | box e cells=>
  obtain⟨b,arr,O,hB,hh,h1,Z,T⟩:=h;exact⟨b,arr,O,hB,hh,h1,Z.imp λ_ _ h=>h.mono hs D,λj hi=>T j (hx b j (by simp) (by rw[O];rfl) hi)⟩
 | map es=>
  obtain⟨b,H,G,O,hB,hh,Z,T⟩:=h;exact⟨b,H,G,O,hB,hh,Z.imp λ_ _ h=>⟨h.1,h.2.mono hs D⟩,λj hi=>T.1 j (hx b j (by simp) (by rw[O];rfl) hi),T.2⟩
 | it es q=>
  obtain⟨b,bm,H,G,aj,O,hB,hh,T,hm,al,Z,hN,hq⟩:=h;exact⟨b,bm,H,G,aj,O,hB,hh,λj hi=>T j (hx b j (by simp) (by rw[O];rfl) hi),hm,D _ _ al,Z.imp λ_ _ h=>⟨h.1,h.2.mono hs D⟩,hN,hq⟩
 | win e size k cells=>
  obtain⟨A,n,c,xs,O,am,hp,hl,Z,h1,hA⟩:=h;refine⟨A,n,c,xs,O,am,hp,hl,Z.mono hs D,h1,?_⟩;rcases hA with hA | ⟨b,off,arr,hA,hB,hh,hf,hc,T⟩
  ·exact .inl hA
  ·exact .inr ⟨b,off,arr,hA,hB,hh,hf,hc,λj h1 h2 hi=>T j h1 h2 (hx b j (by simp) (by rw[O,hA];rfl) hi)⟩
theorem BlkOk.mineM {ρ:Nat->Value} {M':Nat->Prop} {x:Blk} (h:BlkOk w I ρ M i x)
  (Z:∀b,x≠ .none->blockOf (ρ i)=some b->M b->M' b):BlkOk w I ρ M' i x:=by
 cases x with
 | none=>trivial
 | row e size sh cells=>
  obtain⟨h0,rest⟩:=h;exact⟨⟨h0.1,λg hg=>Z g (by simp) (zBY hg) (h0.2 g hg)⟩,rest⟩
 | box e cells=>
  obtain⟨b,arr,H,O,rest⟩:=h;exact⟨b,arr,H,Z b (by simp) (by rw[H];rfl) O,rest⟩
 | map es=>
  obtain⟨b,G,D,H,O,rest⟩:=h;exact⟨b,G,D,H,Z b (by simp) (by rw[H];rfl) O,rest⟩
 | it es q=>
  obtain⟨b,bm,G,D,aa,H,O,rest⟩:=h;exact⟨b,bm,G,D,aa,H,Z b (by simp) (by rw[H];rfl) O,rest⟩
 | win e size k cells=>
  obtain⟨A,n,c,xs,H,ab,hp,hl,hr,h1,T⟩:=h;refine⟨A,n,c,xs,H,ab,hp,hl,hr,h1,?_⟩;rcases T with T | ⟨b,off,arr,T,O,rest⟩
  ·exact .inl T
  ·exact .inr ⟨b,off,arr,T,Z b (by simp) (by rw[H,T];rfl) O,rest⟩
theorem SatAt.blt {ρ:Nat->Value} (h:SatAt E S a w I ρ C):∀i b,S.blk i≠ .none->blockOf (ρ i)=some b->E.mine b/\b<w.heap.size:=by
 intro i b hi hb;have:=h.blks i;cases T:S.blk i with
 | none=>exact absurd T hi
 | row e size sh cells=>
  rw[T] at this;obtain⟨hM,n,xs,hl,ab,_⟩:=this;rcases ab.2 with ⟨hn,_⟩ | ⟨g,ag,ah,D,H,G,_⟩
  rw[hn] at hb;simp[blockOf] at hb;have ac:=hM.2 g (by rw[D];rfl)
  rw[D] at hb;simp[blockOf] at hb;subst hb;exact⟨ac,(dX.1 G).1⟩
 | box e cells=>
  rw[T] at this;obtain⟨b',arr,D,H,G,_⟩:=this;rw[D] at hb;simp[blockOf] at hb;subst hb;exact⟨H,(dX.1 G).1⟩
 | map es=>
  rw[T] at this;obtain⟨b',Z,O,D,H,G,_⟩:=this;rw[D] at hb;simp[blockOf] at hb;subst hb;exact⟨H,(dX.1 G).1⟩
 | it es q=>
  rw[T] at this;obtain⟨b',bm,Z,O,ad,D,H,G,_⟩:=this;rw[D] at hb;simp[blockOf] at hb;subst hb;exact⟨H,(dX.1 G).1⟩
 | win e size k cells=>
  rw[T] at this;obtain⟨A,n,c,xs,D,_,_,_,_,_,hA⟩:=this;rcases hA with ⟨hA,_⟩ | ⟨b',off,arr,hA,H,G,_⟩
  rw[D,hA] at hb;simp[blockOf] at hb;rw[D,hA] at hb;simp[blockOf] at hb;subst hb;exact⟨H,(dX.1 G).1⟩
theorem SatAt.grow {ρ:Nat->Value} (h:SatAt E S a w I ρ C) (hb:Below w.heap.size w w'):SatAt E S a w' I ρ C:=by
 have H:Same I w w':=λb j hi=>KeepB.of (hb.block b (h.old b j hi).1);refine⟨λt=>(h.tmps t).mono H (λ_ _ h=>h),λi=>?_,h.dist,E.grow _ _ _ _ h.frame hb,h.sub,λb j hi=>⟨fF (h.old b j hi).1 hb.size,(h.old b j hi).2⟩,h.size,h.defers.keep λr G=>(hb.block r (dX.1 G).1).trans G,h.cI,h.cB,h.nm⟩;cases O:S.blk i with
 | none=>trivial
 | _=>
  rw[<-O];exact(h.blks i).mono H (λb D=>hb.block b (h.blt i b (by rw[O];simp) D).2)
theorem SatAt.cellBlk {ρ:Nat->Value} (h:SatAt E S a w I ρ C) {id b:Nat} (ad:S.blk id≠ .none) (D:blockOf (ρ id)=some b):∃o,w.heap[b]? =some o/\isData o=true:=by
 have:=h.blks id;cases T:S.blk id with
 | none=>exact absurd T ad
 | row e size sh cells=>
  rw[T] at this;obtain⟨_,n,xs,hl,ab,_⟩:=this;rcases ab.2 with ⟨hn,_⟩ | ⟨g,ah,ai,G,hB,H,_⟩
  rw[hn] at D;simp[blockOf] at D;rw[G] at D;simp[blockOf] at D;subst D;exact⟨_,H,rfl⟩
 | box e cells=>
  rw[T] at this;obtain⟨b',arr,G,hB,H,_⟩:=this;rw[G] at D;simp[blockOf] at D;subst D;exact⟨_,H,rfl⟩
 | map es=>
  rw[T] at this;obtain⟨b',Z,O,G,hB,H,_⟩:=this;rw[G] at D;simp[blockOf] at D;subst D;exact⟨_,H,rfl⟩
 | it es q=>
  rw[T] at this;obtain⟨b',bm,Z,O,ag,G,hB,H,_⟩:=this;rw[G] at D;simp[blockOf] at D;subst D;exact⟨_,H,rfl⟩
 | win e size k cells=>
  rw[T] at this;obtain⟨A,n,c,xs,G,_,_,_,_,_,hA⟩:=this;rcases hA with ⟨hA,_⟩ | ⟨b',off,arr,hA,hB,H,_⟩
  rw[G,hA] at D;simp[blockOf] at D;rw[G,hA] at D;simp[blockOf] at D;subst D;exact⟨_,H,rfl⟩
theorem SatAt.modify {ρ:Nat->Value} (h:SatAt E S a w I ρ C) {id b:Nat} {x:Blk} (Z:w.grownBy w' (some b))
  (D:S.blk id≠ .none) (O:blockOf (ρ id)=some b) (hs:Same I w w') (hx:BlkOk w' I ρ E.mine id x) (hE:E.wrB=true):SatAt E (S.setBlk id x) a w' I ρ C:=by
 have G:∃o,w.heap[b]? =some o/\isData o=true:=h.cellBlk D O;refine⟨λt=>(h.tmps t).mono hs (λ_ _ h=>h),λi=>?_,λi i' b' ac hi ab hb=>?_,E.wr hE _ _ _ _ _ h.frame (Chg.of Z) (λk hk=>by cases hk;exact⟨(h.blt id _ D O).1,h.cB id _ D O,G⟩) (λb j hi=>hs b j (h.sub b j hi)),h.sub,
  λb j hi=>⟨fF (h.old b j hi).1 Z.size,(h.old b j hi).2⟩,h.size,h.defers.keep λr hr=>(Z.block r (dX.1 hr).1 (λe=>by cases e;obtain⟨o,hc,hd⟩:=G;rw[hc] at hr;cases hr;cases hd)).trans hr,h.cI,λi b' hi H=>?_,λi v hv hi=>h.nm i v hv ?_⟩
 ·rw[yC]
  by_cases e:id=i
  ·subst e;simpa using hx
  ·simp only[e,eE]
   cases hb:S.blk i with
   | none=>trivial
   | _=>
    rw[<-hb];have T:S.blk i≠ .none:=by rw[hb];simp
    exact(h.blks i).mono hs (λb' H=>Z.block b' (h.blt i b' T H).2 (λhe=>h.dist i id b' (λe'=>e e'.symm) T D H (by rw[O,he])))
 ·have key:∀i,(S.setBlk id x).blk i≠ .none->S.blk i≠ .none:=by
   intro i hi;rw[yC] at hi;by_cases e:id=i
   ·subst e;exact D
   ·simpa[e] using hi
  exact h.dist i i' b' ac (key i hi) (key i' ab) hb
 ·refine h.cB i b' ?_ H
  rw[yC] at hi;by_cases e:id=i
  ·subst e;exact D
  ·simpa[e] using hi
 ·rw[yC] at hi
  by_cases e:id=i
  ·subst e;exact D
  ·simpa[e] using hi
theorem SatAt.update {ρ:Nat->Value} (h:SatAt E S a w I ρ C) {aj:Option Nat} (hg:w.grownBy w' aj) {id:Nat} {u:Value} {x:Blk}
  (D:∀k,aj=some k->S.blk id≠ .none/\blockOf (ρ id)=some k)
  (hs:Same I w w') (hu:∀b,blockOf u=some b->w.heap.size<=b\/(S.blk id≠ .none/\blockOf (ρ id)=some b)) (hx:BlkOk w' I (upd ρ id u) E.mine id x) (hE:aj=none\/E.wrB=true) (aq:E.nm id=none):
  SatAt E ((S.kill id).setBlk id x) a w' I (upd ρ id u) C:=by
 have an:E.fr ((S.kill id).setBlk id x).ghost C w':=by
  have ao:((S.kill id).setBlk id x).ghost=S.ghost:=by
   unfold AState.ghost;rw[zGF,z5L];exact yOJ id _
  rw[ao];rcases hE with rfl | hE
  ·exact E.grow _ _ _ _ h.frame ⟨hg.os,hg.tape,hg.output,hg.size,λk hk=>hg.block k hk (by simp)⟩
  ·exact E.wr hE _ _ _ _ _ h.frame (Chg.of hg) (λk hk=>⟨(h.blt id k (D k hk).1 (D k hk).2).1,h.cB id k (D k hk).1 (D k hk).2,h.cellBlk (D k hk).1 (D k hk).2⟩) (λb j hi=>hs b j (h.sub b j hi))
 have blt:∀i b,S.blk i≠ .none->blockOf (ρ i)=some b->b<w.heap.size:=λi b hi hb=>(h.blt i b hi hb).2;refine⟨λt=>?_,λi=>?_,λi Z b T hi ai hb=>?_,an,h.sub,λb j hb=>⟨fF (h.old b j hb).1 hg.size,(h.old b j hb).2⟩,h.size,h.defers.keep λr hr=>(hg.block r (dX.1 hr).1 (λe=>by
  obtain⟨h1,h2⟩:=D r e.symm;obtain⟨o,hc,hd⟩:=h.cellBlk h1 h2;rw[hc] at hr;cases hr;cases hd)).trans hr,h.cI,λi b hi hb=>?_,λi v hv hi=>?_⟩
 ·rw[zGF,z5L]
  exact(h.tmps t).upd hs (λ_ _ h=>h) id u
 ·rw[yC]
  by_cases e:id=i
  ·subst e;simpa using hx
  ·simp only[e,eE]
   rw[zJU];cases hb:S.blk i with
   | none=>trivial
   | _=>
    rw[<-hb];refine(h.blks i).upd hs (λb H=>?_) (λG=>e G.symm) u;have ag:S.blk i≠ .none:=by rw[hb];simp
    refine hg.block b (blt i b ag H) (λhe=>?_);obtain⟨h1,h2⟩:=D b he.symm;exact h.dist i id b (λG=>e G.symm) ag h1 H h2
 ·have key:∀i,((S.kill id).setBlk id x).blk i≠ .none->i≠id->S.blk i≠ .none:=by
   intro i hi hn;rw[yC,dU (λe=>hn e.symm),zJU] at hi;intro e;rw[e] at hi;exact hi rfl
  have O:∀i,i≠id->upd ρ id u i= ρ i:=λi hn=>by simp[upd,hn]
  have ah:upd ρ id u id=u:=by simp[upd]
  by_cases e:i=id
  ·have G:Z≠id:=λG=>T (e.trans G.symm)
   subst e;rw[ah] at hb;rw[O Z G];intro H;rcases hu b hb with al | ⟨h1,h2⟩
   ·have:=blt Z b (key Z ai G) H;omega
   ·exact h.dist i Z b T h1 (key Z ai G) h2 H
  ·by_cases G:Z=id
   ·subst G
    rw[O i e] at hb;rw[ah];intro H;rcases hu b H with al | ⟨h1,h2⟩
    ·have:=blt i b (key i hi e) hb;omega
    ·exact h.dist i Z b T (key i hi e) h1 hb h2
   ·rw[O i e] at hb
    rw[O Z G];exact h.dist i Z b T (key i hi e) (key Z ai G) hb
 ·by_cases e:i=id
  ·subst e
   have H:blockOf u=some b:=by simpa[upd] using hb
   rcases hu b H with h1 | ⟨h1,h2⟩
   ·intro hc
    have:=E.csize _ _ _ h.frame _ hc;omega
   ·exact h.cB i b h1 h2
  ·refine h.cB i b ?_ (by simpa[upd,e] using hb)
   rw[yC,dU (λG=>e G.symm),zJU] at hi;intro G;rw[G] at hi;exact hi rfl
 ·have T:i≠id:=λe=>by rw[e,aq] at hv;cases hv
  have:upd ρ id u i= ρ i:=by simp[upd,T]
  rw[this];refine h.nm i v hv ?_;rw[yC,dU (λG=>T G.symm),zJU] at hi;intro G;rw[G] at hi;exact hi rfl
structure OneTy (P:Program) (t:TypeId):Prop where
 agg:∀w,(isAgg t).run P w= .ok false w
 size:∀w,(sizeOf t).run P w= .ok 1 w
structure AggTy (P:Program) (t n:Nat):Prop where
 agg:∀w,(isAgg t).run P w= .ok true w
 size:∀w,(sizeOf t).run P w= .ok n w
structure SlTy (P:Program) (t e size bytes:Nat) (z:Value):Prop where
 und:P.underlying t=some (.slice e)
 info:∃i,P.info? e=some i/\i.zero=some z/\i.size=size/\i.bytes=bytes
 zs:z.cells.size=size
 pos:0<size
 one:∀c∈z.cells.toList,c.oneCell'=true
theorem OneTy.of {t:TypeId} {ds:TypeDesc} (D:P.underlying t=some ds) (G:(match ds with | .struct _ | .array _ _=>true | _=>false)=false) (hi:(P.info? t).map (·.size)=some 1):OneTy P t:=by
 refine⟨λw=>?_,λw=>?_⟩
 · cases ds<;>simp_all [isAgg,eM D]
 ·
  cases h:P.info? t with
  | none=>simp[h] at hi
  | some i=>simp[h] at hi;simp[sizeOf,typeInfo,h,hi]
theorem AggTy.of {ds:TypeDesc} (D:P.underlying t=some ds) (G:(match ds with | .struct _ | .array _ _=>true | _=>false)=true) (hi:(P.info? t).map (·.size)=some n):AggTy P t n:=by
 refine⟨λw=>?_,λw=>?_⟩
 · cases ds<;>simp_all [isAgg,eM D]
 ·
  cases h:P.info? t with
  | none=>simp[h] at hi
  | some i=>simp[h] at hi;simp[sizeOf,typeInfo,h,hi]
theorem SlTy.of {size:Nat} (O:P.underlying t=some (.slice e)) (hi:(P.info? e).map (λi=>(i.zero,i.size,i.bytes))=some (some z,size,bytes))
  (T:z.cells.size=size) (H:0<size) (D:z.cells.toList.all Value.oneCell'=true):SlTy P t e size bytes z:=by
 refine⟨O,?_,T,H,λc G=>eO.1 D c G⟩;cases h:P.info? e with
 | none=>simp[h] at hi
 | some i=>simp[h] at hi;exact⟨i,rfl,hi.1,hi.2.1,hi.2.2⟩
theorem SlTy.size {size:Nat} (h:SlTy P t e size bytes z) (w:World):(sizeOf e).run P w= .ok size w:=by obtain⟨i,hi,_,D,_⟩:=h.info;simp[sizeOf,typeInfo,hi,D]
theorem zFF (b off j:Nat):(⟨b,off,none⟩:Addr).add j=⟨b,off+j,none⟩:=by unfold Addr.add;split<;>simp_all
theorem Rep.sl_inv {size:Nat} (h:Rep w I v (.sl size cells)):
  ∃A n c xs,v= .slice A n c/\n<=c/\cells.length=n*size/\Reps w I xs cells/\(∀x∈xs,x.oneCell'=true)/\
   (0<n->∃b off,A=some ⟨b,off,none⟩/\∀(j:Nat) x,xs[j]? =some x->w.cell? ⟨b,off+j,none⟩=some x/\I b (off+j)):=by
 cases h with
 | nil A c=>exact⟨A,0,c,[],rfl,by omega,by simp,Pw.nil,by simp,λh=>absurd h (by omega)⟩
 | sl b off n c size xs cells hn D O Z H G T=>exact⟨_,n,c,xs,rfl,by omega,O,⟨Z,T⟩,G,λ_=>⟨b,off,rfl,H⟩⟩
theorem zJV {size:Nat} (h:cells.length=n*size) (D:cells.length=m*size) (G:0<size):n=m:=
 Nat.eq_of_mul_eq_mul_right G (h.symm.trans D)
section
theorem zR4 (w:World) {t e:TypeId} (G:P.underlying t=some (.slice e)) (A:Option Addr) (n c:Nat) (x:Operand) (a:Act) (H:a.eval x= .slice A n c) (o:Oper)
  (D:o.op= .call {callee:= .builtin .len,args:= #[x],argTypes:= #[t]}):(execOp a.eval o).run P w= .ok (.value (.int .i64 n)) w:=by
 unfold execOp;simp only[D,resolve,fq,fp,gE,H];simp[invoke,builtin,Builtin.len_,eM G,goInt]
theorem z90 {size:Nat} (O:d<E.n) (G:SlTy P t e size bytes z) (hx:S.ev x= .d (.sl size cells)) (H:cells.length=n*size):
  jI P r E ⟨some d,.call {callee:= .builtin .len,args:= #[x],argTypes:= #[t]},ty,pos,af,g⟩ S (S.put d (.d (.v (.int .i64 n)))):=
 yD rfl O (by simp) λA w I ρ C T=>by
  have h:=T.ev x;rw[hx] at h;obtain⟨A',n',c,xs,Z,_,D,_⟩:=Rep.sl_inv h;obtain rfl:=zJV D H G.pos;exact zR4 w G.und A' n' c x A Z _ rfl
theorem z2F {size:Nat} {id:Nat} (hn:d<E.n) (O:SlTy P t e size bytes z) (hx:S.ev x= .row id) (hb:S.blk id= .row e size sh cells) (hl:cells.length=n*size):
  jI P r E ⟨some d,.call {callee:= .builtin .len,args:= #[x],argTypes:= #[t]},ty,pos,af,g⟩ S (S.put d (.d (.v (.int .i64 n)))):=
 yD rfl hn (by simp) λA w I ρ C Z=>by
  have h:=Z.ev x;rw[hx] at h;have D:=Z.blks id;rw[hb] at D;obtain⟨h0,n',xs,T,G,_⟩:=D;obtain rfl:=zJV T hl O.pos;have hv:A.eval x= ρ id:=h;rcases G.2 with ⟨H,rfl⟩ | ⟨gb,ab,ac,H,_⟩
  ·exact zR4 w O.und _ _ _ x A (hv.trans H) _ rfl
  ·exact zR4 w O.und _ _ _ x A (hv.trans H) _ rfl
theorem z2G {t e:TypeId} {A:Option Addr} (D:d<E.n) (H:P.underlying t=some (.slice e)) (O:S.ev x= .d (.v (.slice A n c))):
  jI P r E ⟨some d,.call {callee:= .builtin .len,args:= #[x],argTypes:= #[t]},ty,pos,af,g⟩ S (S.put d (.d (.v (.int .i64 n)))):=
 yD rfl D (by simp) λAc w I ρ C G=>zR4 w H A n c x Ac (G.val O) _ rfl
theorem z2H {t:TypeId} {s:ByteArray} (D:d<E.n) (H:P.underlying t=some .string) (O:S.ev x= .d (.v (.string s))):
  jI P r E ⟨some d,.call {callee:= .builtin .len,args:= #[x],argTypes:= #[t]},ty,pos,af,g⟩ S (S.put d (.d (.v (.int .i64 s.size)))):=
 yD rfl D (by simp) λAc w I ρ C G=>by
  simp only[execOp,resolve,fq,fp,gE,G.val O];simp[invoke,builtin,Builtin.len_,eM H,goInt]
theorem zK9 (w:World) {size:Nat} (H:P.underlying t=some (.slice e)) (D:(sizeOf e).run P w= .ok size w) (b off n c:Nat) (kk:IntKind) (k:Nat) (G:k<n):
  (Instr.indexAt t (.slice (some ⟨b,off,none⟩) n c) (.int kk k)).run P w= .ok (.pointer (some ⟨b,off+k*size,none⟩)) w:=by
 simp[Instr.indexAt,asIntOf,eM H,D,zFF,G]
theorem z2I {size:Nat} {k:Nat} {i:Int} (hn:d<E.n) (D:SlTy P t e size bytes z) (hx:S.ev x= .d (.sl size cells))
  (hi:S.ev ix= .d (.v (.int kk i))) (hk:i=(k:Int)) (hl:cells.length=n*size) (O:k<n):
  jI P r E ⟨some d,.indexAddr t x ix,ty,pos,af,g⟩ S (S.put d (.ip cells (k*size))):=
 zV rfl hn (by simp) λA w I ρ C T=>by
  subst hk;have h:=T.ev x;rw[hx] at h;obtain⟨A',n',c,xs,hv,_,H,hr,Z,hc⟩:=Rep.sl_inv h;obtain rfl:=zJV H hl D.pos;obtain⟨b,off,rfl,G⟩:=hc (by omega);refine⟨_,?_,b,off,xs,rfl,hr,Z,G⟩;simp only[execOp,hv,T.val hi,dP,zK9 w D.und (D.size w) b off n' c kk k O];rfl
theorem zWY {size:Nat} {id:Nat} {k:Nat} {i:Int} (hn:d<E.n) (Z:SlTy P t e size bytes z) (hx:S.ev x= .row id)
  (hb:S.blk id= .row e size sh cells) (hi:S.ev ix= .d (.v (.int kk i))) (hk:i=(k:Int)) (hl:cells.length=n*size) (G:k<n):
  jI P r E ⟨some d,.indexAddr t x ix,ty,pos,af,g⟩ S (S.put d (.ptr id (k*size))):=
 zV rfl hn (by simp) λA w I ρ C hs=>by
  subst hk;have h:=hs.ev x;rw[hx] at h;have hv:A.eval x= ρ id:=h;have D:=hs.blks id;rw[hb] at D;obtain⟨h0,n',xs,aa,H,_⟩:=D;obtain rfl:=zJV aa hl Z.pos;rcases H.2 with ⟨T,rfl⟩ | ⟨gb,O,ad,T,_⟩
  ·exact absurd G (by omega)
  ·refine⟨_,?_,gb,by rw[T];rfl,rfl⟩
   simp only[execOp,hv,T,hs.val hi,dP,zK9 w Z.und (Z.size w) gb 0 n' O kk k G];simp
theorem zIK (w:World) {t:TypeId} (D:OneTy P t) (b off:Nat) (v:Value) (G:w.cell? ⟨b,off,none⟩=some v):(Instr.loadAt t (.pointer (some ⟨b,off,none⟩))).run P w= .ok v w:=by simp[Instr.loadAt,Instr.sureAddr,loadVar,D.agg,run_load,G]
theorem zDN (w:World) (D:AggTy P t n) (b off:Nat) (vs:List Value) (O:vs.length=n) (G:∀j v,vs[j]? =some v->w.cell? ⟨b,off+j,none⟩=some v):
  (Instr.loadAt t (.pointer (some ⟨b,off,none⟩))).run P w= .ok (.agg vs.toArray) w:=by
 subst O;have:=run_loadCells_list (P:=P) w ⟨b,off,none⟩ vs (λj v H=>by rw[zFF];exact G j v H)
 simp[Instr.loadAt,Instr.sureAddr,loadVar,D.agg,D.size,this]
theorem z2J {t:TypeId} {e:DV} (hn:d<E.n) (Z:OneTy P t) (hx:S.ev x= .ip cells off) (O:cells[off]? =some e):
  jI P r E ⟨some d,.load t x,ty,pos,af,g⟩ S (S.put d (.d e)):=
 zV rfl hn (by simp) λA w I ρ C hs=>by
  have h:=hs.ev x;rw[hx] at h;obtain⟨b,o,xs,hv,T,h1,G⟩:=h;have H:off<xs.length:=by rw[T.1];exact(dV.1 O).1
  have D:=dT H;refine⟨xs[off],?_,T.2 off _ e D O⟩;simp only[execOp,hv,dP,zIK w Z b (o+off) _ (G off _ D).1];rfl
theorem zZE (hn:d<E.n) (hT:AggTy P t n) (D:S.ev x= .ip cells off) (hc:(cells.drop off).take n=es) (hl:es.length=n):
  jI P r E ⟨some d,.load t x,ty,pos,af,g⟩ S (S.put d (.d (.agg es))):=
 zV rfl hn (by simp) λA w I ρ C hs=>by
  have h:=hs.ev x;rw[D] at h;obtain⟨b,o,xs,hv,hr,h1,T⟩:=h;have G:((xs.drop off).take n).length=n:=by
   have:((cells.drop off).take n).length=n:=by rw[hc];exact hl
   simp only[fU,fD] at this ⊢;rw[hr.1];exact this
  refine⟨.agg ((xs.drop off).take n).toArray,?_,.agg _ _ (by rw[G,hl]) (λx D=>h1 x (fW (gA D))) (λj x e D O=>?_)⟩
  ·simp only[execOp,hv,dP]
   rw[zDN w hT b (o+off) _ G]
   ·rfl
   ·intro j v H
    rw[ft] at H;split at H
    ·rw[fK] at H
     rw[hY];exact(T _ v H).1
    ·cases H
  ·subst hc
   rw[ft] at D O;split at D
   ·rename_i Z
    rw[eG Z] at O;rw[fK] at D O;exact hr.2 _ x e D O
   ·cases D
theorem zQN {t:TypeId} {id:Nat} {cells:List AV} (hn:d<E.n) (hT:OneTy P t) (hx:S.ev x= .ptr id off) (hb:S.blk id= .box eb cells) (Z:cells[off]? =some av):
  jI P r E ⟨some d,.load t x,ty,pos,af,g⟩ S (S.put d av):=
 zV rfl hn (by simp) λA w I ρ C hs=>by
  have h:=hs.ev x;rw[hx] at h;obtain⟨b,D,hv⟩:=h;have G:=hs.blks id;rw[hb] at G;obtain⟨b',arr,O,hB,hh,h1,hr,hI⟩:=G;rw[O] at D;simp[blockOf] at D;subst D;have H:off<arr.size:=by rw[<-fB,hr.1];exact(dV.1 Z).1
  have T:arr[off]? =some arr[off]:=gC H;refine⟨arr[off],?_,hr.2 off _ av (by simp[H]) Z⟩;simp only[execOp,hv,dP];rw[zIK w hT b' off arr[off] (by rw[gN w b' off arr eb (0,0) hh];exact T)]
  rfl
theorem z0K {ρ:Nat->Value} {id size:Nat} (h:BlkOk w I ρ M id (.row e size sh cells)) {b:Nat} (hb:blockOf (ρ id)=some b):
  ∃xs,Reps w I xs cells/\(∀x∈xs,x.oneCell'=true)/\∀(j:Nat) x,xs[j]? =some x->w.cell? ⟨b,j,none⟩=some x:=by
 obtain⟨h0,n',xs,aa,D,G,hr,_⟩:=h;refine⟨xs,hr,G,λj x Z=>?_⟩;rcases D.2 with ⟨G,rfl⟩ | ⟨T,H,O,G,_⟩
 ·rw[G] at hb;cases hb
 ·rw[G] at hb
  simp[blockOf] at hb;subst hb;have:=D.cells (g:=T) (by rw[G];rfl) j x Z
  rw[zFF] at this;simpa using this
theorem zZF {t:TypeId} {id size:Nat} {y:DV} (hn:d<E.n) (hT:OneTy P t) (hx:S.ev x= .ptr id off) (hb:S.blk id= .row e size sh cells) (Z:cells[off]? =some y):
  jI P r E ⟨some d,.load t x,ty,pos,af,g⟩ S (S.put d (.d y)):=
 zV rfl hn (by simp) λA w I ρ C hs=>by
  have h:=hs.ev x;rw[hx] at h;obtain⟨b,T,hv⟩:=h;have D:=hs.blks id;rw[hb] at D;obtain⟨xs,hr,h1,H⟩:=z0K D T;have O:off<xs.length:=by rw[hr.1];exact(dV.1 Z).1
  have G:=dT O;refine⟨xs[off],?_,hr.2 off _ y G Z⟩;simp only[execOp,hv,dP,zIK w hT b off _ (H off _ G)];rfl
theorem zWZ {id size:Nat} (hn:d<E.n) (hT:AggTy P t n) (D:S.ev x= .ptr id off) (hb:S.blk id= .row e size sh cells)
  (hc:(cells.drop off).take n=es) (hl:es.length=n):
  jI P r E ⟨some d,.load t x,ty,pos,af,g⟩ S (S.put d (.d (.agg es))):=
 zV rfl hn (by simp) λA w I ρ C hs=>by
  have h:=hs.ev x;rw[D] at h;obtain⟨b,ab,hv⟩:=h;have H:=hs.blks id;rw[hb] at H;obtain⟨xs,hr,h1,Z⟩:=z0K H ab;have G:((xs.drop off).take n).length=n:=by
   have:((cells.drop off).take n).length=n:=by rw[hc];exact hl
   simp only[fU,fD] at this ⊢;rw[hr.1];exact this
  refine⟨.agg ((xs.drop off).take n).toArray,?_,.agg _ _ (by rw[G,hl]) (λx D=>h1 x (fW (gA D))) (λj x e D T=>?_)⟩
  ·simp only[execOp,hv,dP]
   rw[zDN w hT b off _ G]
   ·rfl
   ·intro j v O
    rw[ft] at O;split at O
    ·rw[fK] at O
     exact Z _ v O
    ·cases O
  ·subst hc
   rw[ft] at D T;split at D
   ·rename_i aa
    rw[eG aa] at T;rw[fK] at D T;exact hr.2 _ x e D T
   ·cases D
theorem zGS (G:o.dst=none) (D:∀c,o.op≠ .defer c)
  (h:∀a w I ρ C,SatAt E S a w I ρ C->∃w',(execOp a.eval o).run P w= .ok .skip w'/\Sat E S' a w'):jI P r E o S S':=by
 rintro a w K Q ⟨I,ρ,C,T⟩ H
 obtain⟨w',O,Z⟩:=h a w I ρ C T;refine⟨λf _=>trivial,?_⟩;rw[Oper.semAt_eq _ _ _ D,O];refine H _ _ ?_;rw[G];exact Z
theorem zHY (h:v.oneCell'=true):v.cells= #[v]:=by cases v<;>simp_all [Value.oneCell',Value.cells]
theorem zW0 (w:World) {t:TypeId} (O:OneTy P t) {b:Nat} (T:w.heap[b]? =some (.cells arr e (0,0))) (D:off<arr.size) (G:v.oneCell'=true):
  (Instr.storeAt t (.pointer (some ⟨b,off,none⟩)) v).run P w= .ok () (w.setRow b (arr.toList.set off v).toArray):=by
 have:=run_storeCells_at P b off e [v] 0 arr w T (by simp;omega) (by simpa using G)
 have H:arr.toList.take off++ [v]++arr.toList.drop (off+1)=arr.toList.set off v:=by
  rw[hQ,eG (by simpa using D)];simp
 simp only[gZ,gL,H] at this;simp[Instr.storeAt,Instr.sureAddr,storeVar,O.size,zHY G,this]
theorem zQ7 (w:World) (H:AggTy P t n) {b:Nat} {vs:List Value} (O:w.heap[b]? =some (.cells arr e (0,0))) (D:off+n<=arr.size) (T:vs.length=n) (G:∀v∈vs,v.oneCell'=true):
  (Instr.storeAt t (.pointer (some ⟨b,off,none⟩)) (.agg vs.toArray)).run P w= .ok () (w.setRow b (arr.toList.take off++vs++arr.toList.drop (off+n)).toArray):=by
 subst T;have:=run_storeCells_at P b off e vs 0 arr w O (by simpa using D) G;simp only[gZ] at this;simp only[Instr.storeAt,Instr.sureAddr,storeVar,dP,eQ,dR,H.size,Value.cells];simp[this]
theorem zCU (w:World) (b:Nat) (arr:Array Value):w.grownBy (w.setRow b arr) (some b):=
 ⟨rfl,rfl,rfl,by simp,λk _ D=>setRow_other w b k arr (λe=>D (by rw[e]))⟩
theorem vA {b:Nat} (h:∀j,¬I b j):Same I w (w.setRow b arr):=by intro b' j hi;have:b'≠b:=λe=>h j (e▸hi);exact KeepB.of (setRow_other w b b' arr this)
def AV.one:AV->Bool
 | .d (.v u)=>u.oneCell'
 | .d (.sl _ _)=>true
 | .d (.pt _)=>true
 | .d (.fn _ _)=>true
 | .d (.bm _ _)=>true
 | .d (.mp _ _)=>true
 | .row _=>true
 | .ptr _ _=>true
 | .clo _ _=>true
 | _=>false
theorem zTQ {ρ:Nat->Value} (hb:∀id,BlkOk w I ρ M id (S.blk id)) (h:Holds w I ρ v av) (h1:av.one=true)
  (hr:∀id,av= .row id->S.blk id≠ .none):v.oneCell'=true:=by
 cases av with
 | d x=>
  cases x with
  | v u=>cases h;simpa[AV.one] using h1
  | sl s c=>obtain⟨A,n,c,xs,rfl,_⟩:=Rep.sl_inv h;rfl
  | agg c=>simp[AV.one] at h1
  | pt c=>cases h;rfl
  | fn f c=>cases h;rfl
  | bm f c=>cases h;rfl
  | mp ks vs=>cases h;rfl
 | row id=>
  have H:v= ρ id:=h;have D:=hb id;cases T:S.blk id with
  | none=>exact absurd T (hr id rfl)
  | row e size sh cells=>
   rw[T] at D;obtain⟨_,n,xs,hl,aa,_⟩:=D;rcases aa.2 with ⟨G,_⟩ | ⟨g,ag,ah,G,_⟩<;>rw[H,G]<;>rfl
  | box e cells=>
   rw[T] at D;obtain⟨b',arr,G,_⟩:=D;rw[H,G];rfl
  | map es=>
   rw[T] at D;obtain⟨b',Z,O,G,_⟩:=D;rw[H,G];rfl
  | it es q=>
   rw[T] at D;obtain⟨b',bm,Z,O,ad,G,_⟩:=D;rw[H,G];rfl
  | win e size k cells=>
   rw[T] at D;obtain⟨A,n,c,xs,G,_⟩:=D;rw[H,G];rfl
 | ptr id off=>obtain⟨b,_,H⟩:=h;rw[H];rfl
 | clo f ac=>obtain⟨xs,H,_⟩:=h;rw[H];rfl
 | _=>simp[AV.one] at h1
def zQO (S:AState):AV->Bool
 | .row id=>match S.blk id with | .none=>false | _=>true
 | _=>true
theorem zJW (h:zQO S av=true):∀id,av= .row id->S.blk id≠ .none:=by
 rintro id rfl e
 simp[zQO,e] at h
theorem zJX {t:TypeId} {id:Nat} {cells:List AV} (hT:OneTy P t) (hx:S.ev x= .ptr id off) (hb:S.blk id= .box eb cells) (ag:off<cells.length)
  (h1:(S.ev y).one=true) (hr:zQO S (S.ev y)=true) (hE:E.wrB=true):
  jI P r E ⟨none,.store t x y,ty,pos,af,g⟩ S (S.setBlk id (.box eb (cells.set off (S.ev y)))):=
 zGS rfl (by simp) λA w I ρ C hs=>by
  have h:=hs.ev x;rw[hx] at h;obtain⟨b,H,hv⟩:=h;have O:=hs.blks id;rw[hb] at O;obtain⟨b',arr,G,hB,hh,ac,Z,hI⟩:=O;have ad:b'=b:=by rw[G] at H;simpa[blockOf] using H
  subst ad;have hy:=hs.ev y;have D:=zTQ hs.blks hy h1 (zJW hr);have T:off<arr.size:=by rw[<-fB,Z.1];exact ag
  refine⟨w.setRow b' (arr.toList.set off (A.eval y)).toArray,?_,I,ρ,C,hs.modify (zCU w b' _) (by rw[hb];simp) H (vA hI) ⟨b',_,G,hB,iQ w b' arr _ eb _ hh,?_,?_,hI⟩ hE⟩
  ·simp only[execOp,hv,dP,zW0 w hT hh T D]
   rfl
  ·intro u hu
   simp only at hu;rcases iO hu with hu | hu
   ·exact ac u hu
   ·rw[hu];exact D
  ·exact(Z.imp λ_ _ h=>h.mono (vA hI) (λ_ _ h=>h)).set (hy.mono (vA hI) (λ_ _ h=>h)) off
theorem zW1 {t:TypeId} {id size:Nat} (hT:OneTy P t) (hx:S.ev x= .ptr id off) (hb:S.blk id= .row e size false cells) (ah:off<cells.length)
  (hy:S.ev y= .d u) (h1:(AV.d u).one=true) (hE:E.wrB=true):
  jI P r E ⟨none,.store t x y,ty,pos,af,g⟩ S (S.setBlk id (.row e size false (cells.set off u))):=
 zGS rfl (by simp) λA w I ρ C hs=>by
  have h:=hs.ev x;rw[hx] at h;obtain⟨b,D,hv⟩:=h;have ad:=hs.blks id;rw[hb] at ad;obtain⟨h0,n,xs,hl,O,am,ap,hI⟩:=ad;have ab:=hs.ev y;rw[hy] at ab;have H:=zTQ hs.blks ab h1 (by intro _ e;cases e)
  rcases O.2 with ⟨hn,_⟩ | ⟨Z,al,T,hn,hB,hh,aj,ao,ag,aq⟩
  ·rw[hn] at D;cases D
  ·have an:Z=b:=by rw[hn] at D;simpa[blockOf] using D
   subst an;have G:∀j,¬I Z j:=λj hj=>by have:=(hI Z j (by rw[hn];rfl) hj).1;cases this
   have au:xs.length=n*size:=O.1;have ai:off<T.size:=by rw[ag];rw[hl] at ah;exact fF ah (fP _ aj)
   refine⟨w.setRow Z (T.toList.set off (A.eval y)).toArray,?_,I,ρ,C,hs.modify (zCU w Z _) (by rw[hb];simp) D (vA G) ⟨h0,n,xs.set off (A.eval y),by simp[hl],⟨by simp[au],.inr ⟨Z,al,_,hn,hB,iQ w Z T _ e _ hh,aj,ao,?_,?_⟩⟩,?_,?_,?_⟩ hE⟩
   ·simp only[execOp,hv,dP,zW0 w hT hh ai H]
    rfl
   ·simp[ag]
   ·simp only[List.take_set,aq]
   ·intro v ar
    rcases iO ar with hu | hu
    ·exact am v hu
    ·rw[hu];exact H
   ·exact(ap.imp λ_ _ h=>h.mono (vA G) (λ_ _ h=>h)).set (Rep.mono ab (vA G) (λ_ _ h=>h)) off
   ·intro g' j aa hi
    rw[hn] at aa;simp[Value.ownBlock] at aa;subst aa;exact absurd hi (G j)
theorem zW2 (w:World) (o:Obj) {b:Nat} (h:b<w.heap.size):(w.alloc o).heap[b]? =w.heap[b]?:=(World.grownBy_alloc w o none).block b h (by simp)
theorem zG7 (w:World) (o:Obj):w.grownBy (w.alloc o) none:=World.grownBy_alloc w o none
theorem zEU (o:Obj) (h:∀b j,I b j->b<w.heap.size):Same I w (w.alloc o):=λb j hi=>KeepB.of (zW2 w o (h b j hi))
theorem SatAt.newRow {ρ:Nat->Value} (hs:SatAt E S A w I ρ C) {id size:Nat} {rest:List Value} (hp:0<size) (hl:cells.length=n*size) (hc:n<=c) (O:c<=maxLen)
  (hr:rest.length=(c-n)*size) (G:Reps w I xs cells) (h1:∀x∈xs,x.oneCell'=true) (Z:E.nm id=none):
  SatAt E ((S.kill id).setBlk id (.row e size false cells)) A (w.alloc (.cells (xs++rest).toArray e)) I (upd ρ id (.slice (some ⟨w.heap.size,0,none⟩) n c)) C:=by
 have H:∀b j,I b j->b<w.heap.size:=λb j h=>(hs.old b j h).1;have D:xs.length=n*size:=by rw[G.1,hl]
 refine hs.update (zG7 w _) (by simp) (zEU _ H) (λb hb=> .inl (by simp[blockOf] at hb;omega)) ⟨⟨hp,λg hg=>E.mineB g (by simp[upd,Value.ownBlock] at hg;have:=E.size _ _ _ hs.frame;omega)⟩,n,xs,hl,?_,h1,G.mono (zEU _ H) (λ_ _ h=>h),?_⟩ (.inl rfl) Z
 ·have eu:upd ρ id (.slice (some ⟨w.heap.size,0,none⟩) n c) id= .slice (some ⟨w.heap.size,0,none⟩) n c:=by simp[upd]
  rw[eu];refine⟨D,.inr ⟨w.heap.size,c,_,rfl,g5 _,hF w _,hc,O,?_,?_⟩⟩
  ·simp only[gO,d8,D,hr,<-fT]
   congr 1;omega
  ·rw[<-D]
   exact iB
 ·intro g' j T hi
  simp[upd,Value.ownBlock] at T;have:=H g' j hi;omega
theorem SatAt.newBox {ρ:Nat->Value} (hs:SatAt E S A w I ρ C) {id:Nat} {cells:List AV} (G:Pw (Holds w I ρ) arr.toList cells) (h1:∀x∈arr.toList,x.oneCell'=true) (Z:E.nm id=none):
  SatAt E ((S.kill id).setBlk id (.box e (cells.map (zFQ id)))) A (w.alloc (.cells arr e)) I (upd ρ id (.pointer (some ⟨w.heap.size,0,none⟩))) C:=by
 have O:∀b j,I b j->b<w.heap.size:=λb j h=>(hs.old b j h).1;refine hs.update (zG7 w _) (by simp) (zEU _ O) (λb hb=> .inl (by simp[blockOf] at hb;omega)) ⟨w.heap.size,arr,by simp[upd],E.mineB _ (E.size _ _ _ hs.frame),hF w _,h1,⟨by simpa using G.1,λj x av hx D=>?_⟩,λj hj=>by have:=O _ j hj;omega⟩ (.inl rfl) Z
 rw[e7] at D;cases T:cells[j]? with
 | none=>simp[T] at D
 | some H=>
  simp[T] at D;subst D;exact(G.2 j x H hx T).upd (zEU _ O) (λ_ _ h=>h) id _
def dvs (vs:List Value):List AV:=vs.map λv=> .d (.v v)
theorem yFD (w:World) (I:Im) (ρ:Nat->Value) (vs:List Value):Pw (Holds w I ρ) vs (dvs vs):=by refine⟨by simp[dvs],λj x y G D=>?_⟩;simp[dvs,G] at D;subst D;exact .v x
theorem yJG (id:Nat) (vs:List Value):(dvs vs).map (zFQ id)=dvs vs:=by simp[dvs,zFQ,AV.mentions]
theorem yW {D:TypeId} {zs:List Value} (Z:d<E.n) (H:((P.info? D).bind (·.zero)).map (·.cells.toList)=some zs) (T:zs.all Value.oneCell'=true) (O:E.nm d=none):
    jI P r E ⟨some d,.alloc D,ty,pos,af,g⟩ S (((S.kill d).setBlk d (.box D (dvs zs))).put d (.ptr d 0)):=
  vR (by simp) λA w I ρ C hs=>by
    cases hi:P.info? D with
    | none=>simp[hi] at H
    | some i=>
      cases G:i.zero with
      | none=>simp[hi,G] at H
      | some z=>
        simp[hi,G] at H;have hb:=hs.newBox (id:=d) (e:=D) (arr:=z.cells) (cells:=dvs zs) (by rw[H];exact yFD _ _ _ _) (by rw[H];exact λx hx=>eO.1 T x hx) O
        rw[yJG] at hb;refine⟨.pointer (some ⟨w.heap.size,0,none⟩),w.alloc (.cells z.cells D),?_,I,_,C,hb.put Z ⟨w.heap.size,by simp[upd,blockOf],rfl⟩⟩;simp[execOp,Instr.alloc,zeroValue,typeInfo,hi,G,newVar,newRow]
end
def AState.dv (S:AState):AV->Option DV
 | .d x=>some x
 | .row id=>match S.blk id with
  | .row _ size _ cells=>some (.sl size cells)
  | _=>none
 | _=>none
def AState.shareAV (S:AState):AV->AState
 | .row id=>match S.blk id with
  | .row e size _ cells=>S.setBlk id (.row e size true cells)
  | _=>S
 | _=>S
theorem zZG {size:Nat} (h:w.ownsRow B e size v n xs) {b:Nat} (hb:v.ownBlock=some b):∃arr H fr,w.heap[b]? =some (.cells arr H fr):=by rcases h.2 with ⟨T,_⟩ | ⟨g,D,G,Z,hB,O,_⟩;rw[T] at hb;simp[Value.ownBlock] at hb;rw[Z] at hb;simp[Value.ownBlock] at hb;subst hb;exact⟨_,_,_,O⟩
theorem jJ (I:Im) (w:World):Same I w w:=λ_ _ _=>KeepB.refl
theorem SatAt.shareRow {ρ:Nat->Value} (h:SatAt E S a w I ρ C) {id size:Nat} (hb:S.blk id= .row e size sh cells):
  ∃I':Im,(∀b j,I b j->I' b j)/\SatAt E (S.setBlk id (.row e size true cells)) a w I' ρ C/\Rep w I' (ρ id) (.sl size cells):=by
 have hk:=h.blks id;rw[hb] at hk;obtain⟨hp,n,xs,hl,O,h1,T,hI⟩:=hk;have G:S.blk id≠ .none:=by rw[hb];simp
 let I':Im:=λb j=>I b j\/((ρ id).ownBlock=some b/\j<cells.length)
 have D:∀b j,I b j->I' b j:=λb j hi=> .inl hi;refine⟨I',D,⟨λt=>(h.tmps t).mono (jJ I w) D,λi=>?_,λi i' b Z hi ag=>?_,h.frame,λb j hi=>D b j (h.sub b j hi),λb j hi=>?_,h.size,h.defers,λb j hi=>?_,λi b hi ac=>?_,λi v hv hi=>h.nm i v hv ?_⟩,?_⟩
 ·rw[yC]
  by_cases H:id=i
  ·subst H
   simp only[eK];refine⟨hp,n,xs,hl,O,h1,T.mono (jJ I w) D,λg j hg hi=>⟨rfl,?_⟩⟩;rcases hi with hi | ⟨_,hi⟩
   ·exact(hI g j hg hi).2
   ·exact hi
  ·simp only[H,eE]
   refine(h.blks i).widenI D λb j hx ad hi=>?_;rcases hi with hi | ⟨hi,_⟩
   ·exact hi
   ·exact absurd ad (h.dist id i b H G hx (zBY hi))
 ·have key:∀i,(S.setBlk id (.row e size true cells)).blk i≠ .none->S.blk i≠ .none:=by
   intro i hi;rw[yC] at hi;by_cases H:id=i
   ·subst H;exact G
   ·simpa[H] using hi
  exact h.dist i i' b Z (key i hi) (key i' ag)
 ·rcases hi with hi | ⟨hi,_⟩
  ·exact h.old b j hi
  ·have:=h.blt id b G (zBY hi)
   exact⟨this.2,.inr this.1⟩
 ·rcases hi with hi | ⟨hi,_⟩
  ·exact h.cI b j hi
  ·exact h.cB id b G (zBY hi)
 ·refine h.cB i b ?_ ac
  rw[yC] at hi;by_cases H:id=i
  ·subst H;exact G
  ·simpa[H] using hi
 ·rw[yC] at hi
  by_cases H:id=i
  ·subst H;exact G
  ·simpa[H] using hi
 ·rcases O.2 with ⟨Z,rfl⟩ | ⟨gb,ab,an,Z,hB,hh,ah,aq,ar,ax⟩
  ·have:cells= []:=dQ (by simpa using hl)
   subst this;rw[Z];exact .nil _ _ _
  ·rw[Z]
   by_cases h0:n=0
   ·subst h0
    have:cells= []:=dQ (by simpa using hl);subst this;exact .nil _ _ _
   ·refine .sl gb 0 n ab size xs cells (by omega) ah hl T.1 (λj x hj=>⟨?_,.inr ⟨by rw[Z];rfl,?_⟩⟩) h1 (T.mono (jJ I w) D).2
    ·have:=O.cells (g:=gb) (by rw[Z];rfl) j x hj
     rw[zFF] at this;exact this
    ·rw[<-T.1,fM]
     exact(dV.1 hj).1
theorem SatAt.dv {ρ:Nat->Value} (h:SatAt E S a w I ρ C) {x:AV} {y:DV} (H:Holds w I ρ v x) (D:S.dv x=some y):
  ∃I':Im,(∀b j,I b j->I' b j)/\SatAt E (S.shareAV x) a w I' ρ C/\Rep w I' v y:=by
 cases x with
 | d z=>simp[AState.dv] at D;subst D;exact⟨I,λ_ _ h=>h,h,H⟩
 | row id=>
  simp only[AState.dv] at D;cases hb:S.blk id with
  | row e size sh cells=>
   rw[hb] at D;simp at D;subst D;obtain⟨I',O,T,Z⟩:=h.shareRow hb;have G:v= ρ id:=H;refine⟨I',O,?_,by rw[G];exact Z⟩
   simp only[AState.shareAV,hb];exact T
  | none=>rw[hb] at D;simp at D
  | box e c=>rw[hb] at D;simp at D
  | map es=>rw[hb] at D;simp at D
  | it es q=>rw[hb] at D;simp at D
  | win e s k c=>rw[hb] at D;simp at D
 | _=>simp[AState.dv] at D
theorem zW3 (S:AState) (x y:AV):(S.shareAV x).dv y=S.dv y:=by
 unfold AState.shareAV;split;rename_i id;split;rename_i e size sh cells hb;cases y with
 | row i=>
  simp only[AState.dv,yC];by_cases D:id=i;subst D;simp[hb];simp[D]
 | _=>rfl
 rfl;rfl
def AState.dvL (S:AState):List AV->Option (List DV)
 | []=>some []
 | x::r=>match S.dv x,S.dvL r with
  | some y,some ys=>some (y::ys)
  | _,_=>none
def AState.shareL (S:AState):List AV->AState
 | []=>S
 | x::r=>(S.shareAV x).shareL r
theorem z0L (S:AState) (x:AV) (l:List AV):(S.shareAV x).dvL l=S.dvL l:=by
 induction l with
 | nil=>rfl
 | cons y l D=>simp only[AState.dvL,zW3,D]
theorem SatAt.dvL {ρ:Nat->Value} (l:List AV):∀{S:AState} {I:Im} (_:SatAt E S a w I ρ C) {vs:List Value} {ds:List DV} (_:Pw (Holds w I ρ) vs l) (_:S.dvL l=some ds),
  ∃I':Im,(∀b j,I b j->I' b j)/\SatAt E (S.shareL l) a w I' ρ C/\Reps w I' vs ds:=by
 induction l with
 | nil=>
  intro S I h vs ds G D;simp[AState.dvL] at D;subst D;have:vs= []:=dQ G.1;subst this;exact⟨I,λ_ _ h=>h,h,Pw.nil⟩
 | cons x l ih=>
  intro S I h vs ds G D;cases vs with
  | nil=>have:=G.1;simp at this
  | cons v vs=>
   simp only[AState.dvL] at D;cases H:S.dv x with
   | none=>simp[H] at D
   | some y=>
    cases O:S.dvL l with
    | none=>simp[H,O] at D
    | some ys=>
     simp[H,O] at D;subst D;obtain⟨Z,h1,h2,h3⟩:=h.dv (G.2 0 v x rfl rfl) H;have T:Pw (Holds w Z ρ) vs l:=⟨by have:=G.1;simpa using this,λj u z hu hz=>(G.2 (j+1) u z (by simpa using hu) (by simpa using hz)).mono (jJ I w) h1⟩
     obtain⟨I2,h4,h5,h6⟩:=ih h2 T (by rw[z0L];exact O)
     exact⟨I2,λb j hi=>h4 b j (h1 b j hi),h5,Pw.cons (h3.mono (jJ Z w) h4) h6⟩
def yCS (w:World) (I:Im) (v:Value):List DV->Prop
 | [y]=>Rep w I v y
 | ys=> ∃xs,v= .tuple xs.toArray/\Reps w I xs ys
def gdNames:List (String×List Value):=[("unicodetext/ordering.hangulRanges",[.int .i64 4352,.int .i64 4370,.int .i64 4449,.int .i64 4469,.int .i64 4520,.int .i64 4546,.int .i64 44032,.int .i64 55203]),("internal/strconv.uint64pow10",[.int .u64 1,.int .u64 10,.int .u64 100,.int .u64 1000,.int .u64 10000,.int .u64 100000,.int .u64 1000000,.int .u64 10000000,.int .u64 100000000,.int .u64 1000000000,.int .u64 10000000000,.int .u64 100000000000,.int .u64 1000000000000,.int .u64 10000000000000,.int .u64 100000000000000,.int .u64 1000000000000000,.int .u64 10000000000000000,.int .u64 100000000000000000,.int .u64 1000000000000000000,.int .u64 10000000000000000000])]
def vF (P:Program) (g:Nat):Option (List Value):=(gdNames.find? λp=>P.globalNamed p.1==some g).map Prod.snd
def zB (P:Program) (f:FuncId) (ds rs:List DV):Prop:=
 (∃fn,P.funcs[f]? =some fn/\(fn.name== "runtime.NumGoroutine")=false/\fn.body.isNone=false)/\
 ∀(w:World) (I:Im) (vs:List Value),(∀b j,I b j->b<w.heap.size)->GlI (vF P) w I->Reps w I vs ds->
  Calls P f vs.toArray w λe w'=> ∃v I',e= .returned v/\Below w.heap.size w w'/\(∀b j,I b j->I' b j)/\(∀b j,I' b j->b<w'.heap.size/\(I b j\/w.heap.size<=b))/\yCS w' I' v rs
def zQP:List DV->AV
 | [y]=> .d y
 | ys=> .tup ys
theorem zIL {ρ:Nat->Value}:∀{rs:List DV},yCS w I v rs->Holds w I ρ v (zQP rs)
 | [],h=>h
 | [_],h=>h
 | _::_::_,h=>h
section
theorem SatAt.widen {ρ:Nat->Value} (h:SatAt E S a w I ρ C) (G:∀b j,I b j->I' b j) (D:∀b j,I' b j->b<w.heap.size/\(I b j\/B<=b))
  (O:∀i b,S.blk i≠ .none->blockOf (ρ i)=some b->b<B) (Z:E.B<=B) (T:∀b,C b->b<B):SatAt E S a w I' ρ C:=by
 refine⟨λt=>(h.tmps t).mono (jJ I w) G,λi=>?_,h.dist,h.frame,λb j hi=>G b j (h.sub b j hi),λb j hi=>⟨(D b j hi).1,?_⟩,h.size,h.defers,λb j hi=>?_,h.cB,h.nm⟩
 ·refine(h.blks i).widenI G λb j hx H hi=>?_
  rcases (D b j hi).2 with hi | hi
  ·exact hi
  ·have:=O i b hx H;omega
 ·rcases (D b j hi).2 with hi | hi
  ·exact(h.old b j hi).2
  ·exact .inr (E.mineB b (by omega))
 ·rcases (D b j hi).2 with hi | hi
  ·exact h.cI b j hi
  ·intro hc;have:=T b hc;omega
theorem v2 {ρ:Nat->Value} (D:SatAt E S A w I ρ C) (xs:List Operand):Pw (Holds w I ρ) (xs.map A.eval) (xs.map S.ev):=by
 induction xs with
 | nil=>exact Pw.nil
 | cons x xs G=>exact Pw.cons (D.ev x) G
theorem z0M {xs:List Operand} {ds:List DV} (hn:d<E.n) (ah:S.dvL (xs.map S.ev)=some ds) (hc:zB P f ds rs) (hG:E.gdt=vF P:=by rfl):
  jI P r E ⟨some d,.call {callee:= .value (.func f),args:=xs.toArray,argTypes:=ats},ty,pos,af,g⟩ S ((S.shareL (xs.map S.ev)).put d (zQP rs)):=by
 rintro A w K Q ⟨I,ρ,C,hs⟩ hk
 obtain⟨⟨fn,hf,H,D⟩,G⟩:=hc;obtain⟨I1,h1,O,h3⟩:=SatAt.dvL _ hs (v2 hs xs) ah;have ag:=G w I1 (xs.map A.eval) (λb j hi=>(O.old b j hi).1) (hG▸O.gl) h3;refine⟨λf _=>trivial,?_⟩;rw[Oper.semAt_eq _ _ _ (by simp)];have aa:(execOp A.eval ⟨some d,.call {callee:= .value (.func f),args:=xs.toArray,argTypes:=ats},ty,pos,af,g⟩).run P w= .ok (.enter f (xs.map A.eval).toArray) w:=by
  simp only[execOp,resolve,Act.eval,Deferred.ofValue];have ai:¬fn.name= "runtime.NumGoroutine" :=by simpa using H
  have hn2:¬fn.body=none:=by intro e;simp[e] at D
  simp[invoke,callFunc,hf,ai,hn2,fq]
 rw[aa];refine⟨by simp[fen,Fence.wide],?_⟩;show CallsIn Fence.wide 0 P f _ w _;refine g8.2 (ag.mono ?_)
 rintro e w' ⟨v,I',rfl,hb,ab,T,Z⟩
 refine hk _ _ ⟨I',ρ,C,SatAt.put ?_ hn (zIL Z)⟩;have h4:=O.grow hb;exact h4.widen ab T (λi b hi ac=>(O.blt i b hi ac).2) (E.size _ _ _ O.frame) (λb hc=>E.csize _ _ _ O.frame b hc)
end
def yS2 (E:Env) (K:Exit->AState->Prop):Exit->Act->World->Prop:=λe a w=> ∃S,K e S/\Sat E S a w
def Avc (P:Program) (r:Option Nat) (E:Env) (c:Code) (K:Exit->AState->Prop) (S:AState):Prop:=
 ∀a w,Sat E S a w->c.wpIn (fen r) 0 P (yS2 E K) a w
def zDZ (E:Env) (S S':AState):Prop:= ∀a w,Sat E S a w->Sat E S' a w
def yR1 (J:AState->Prop) (K:Exit->AState->Prop):Exit->AState->Prop
 | .normal,S=>J S
 | e,S=>K e S
def yJH (id:Nat) (K:Exit->AState->Prop):Exit->AState->Prop
 | .exit i,S=>if Nat.beq i id then K .normal S else K (.exit i) S
 | e,S=>K e S
def gd (want b:Bool):Bool:=match want with
 | true=>b
 | false=>!b
section
theorem SatAt.yield {ρ:Nat->Value} (G:SatAt E S a w I ρ C) (H:(ops[j]?).bind (·.dst)=some t) (T:S.get t= .d (.v (.bool b))) (O:t<E.n):
    yielded ops a.tmps j=some b:=by
  have h:=G.tmps t;rw[T] at h;have D:t<a.tmps.size:=by rw[G.size];exact O
  have e:a.tmps.getD t undef=a.tmps[t]:=by simp[dZ,D]
  rw[e] at h;generalize Z:a.tmps[t]=v at h;cases h;simp[yielded,H,D,Z]
theorem SatAt.yield2 {ρ:Nat->Value} (H:SatAt E S a w I ρ C) {c:Bool} (G:(ops[j]?).bind (·.dst)=some t) (Z:S.get t= .cond c (.d (.v (.bool b)))) (T:t<E.n):
    yielded ops a.tmps j=if c then some b else none:=by
  have h:=H.tmps t;rw[Z] at h;have D:t<a.tmps.size:=by rw[H.size];exact T
  have e:a.tmps.getD t undef=a.tmps[t]:=by simp[dZ,D]
  rw[e] at h;generalize O:a.tmps[t]=v at h;cases c with
  | true=>
    have h:=h.1 rfl;cases h;simp[yielded,G,D,O]
  | false=>
    have h:=h.2 rfl;subst h;simp[yielded,G,D,O,undef]
theorem zOF {c:Code} {G:Exit->AState->Prop} (h:Avc P r E c K S) (O:∀e S,K e S->G e S):Avc P r E c G S:=λa w T=>
 g7 (h a w T) λe _ _ ⟨S',H,D⟩=>⟨S',O e S' H,D⟩
theorem zG {c:Code} (G:zDZ E S S') (h:Avc P r E c K S'):Avc P r E c K S:=λa w D=>h a w (G a w D)
theorem yOK {x y:Code} (h:∀J:AState->Prop,(∀S,Avc P r E y K S->J S)->Avc P r E x (yR1 J K) S):Avc P r E (.seq x y) K S:=λa w O=>
 wpIn_seq (g7 (h _ (λ_ h=>h) a w O) λe H w' ⟨S',G,D⟩=>by
  cases e with
  | normal=>exact G H w' D
  | _=>exact⟨S',G,D⟩)
theorem yJI {c:Operand} {x y:Code} (D:S.ev c= .d (.v (.bool b))) (O:b=true->Avc P r E x K S) (G:b=false->Avc P r E y K S):Avc P r E (.cond c x y) K S:=λa w H=>by obtain⟨I,ρ,C,h⟩:=H;exact wpIn_cond_split (h.val D) (λhb=>O hb a w ⟨I,ρ,C,h⟩) (λhb=>G hb a w ⟨I,ρ,C,h⟩)
theorem kV {id:Nat} {c:Code} (h:Avc P r E c (yJH id K) S):Avc P r E (.block id c) K S:=λa w H=>
 wpIn_block (g7 (h a w H) λe O w' ⟨S',G,D⟩=>by
  cases e with
  | exit i=>
   simp only[yJH,iN] at G;simp only[Exit.inBlock];by_cases e:i=id;simp only[e,eK] at G ⊢;exact⟨S',G,D⟩;simp only[e,eE] at G ⊢;exact⟨S',G,D⟩
  | _=>exact⟨S',G,D⟩)
theorem zC {id:Nat} (h:K (.exit id) S):Avc P r E (.exit id) K S:=λ_ _ D=>wpIn_exit ⟨S,h,D⟩
theorem zK (h:K .ret S):Avc P r E .ret K S:=λ_ _ D=>wpIn_ret ⟨S,h,D⟩
theorem zH (h:K .normal S):Avc P r E .skip K S:=λ_ _ D=>wpIn_skip ⟨S,h,D⟩
theorem zW4 {c:Code} {ι:Type} (T: ι->AState) (pre: ι->Prop) (G: ι->Nat) (i0: ι) (h0:pre i0) (hS:zDZ E S (T i0))
  (round:∀i,pre i->Avc P r E c (yR1 (λS'=> ∃j,pre j/\G j<G i/\zDZ E S' (T j)) K) (T i)):Avc P r E (.loop c) K S:=by
 intro a w H;have key:∀n i a w,pre i->G i<n->Sat E (T i) a w->Code.roundsIn (fen r) 0 P c (yS2 E K) n a w:=by
  intro n
  induction n with
  | zero=>intro i a w _ h;omega
  | succ n ih=>
   intro i a w hp hn H;rw[roundsIn_succ];exact g7 (round i hp a w H) λe O w' ⟨S',Z,D⟩=>by
    cases e with
    | normal=>obtain⟨j,hj,ad,hw⟩:=Z;exact ih j O w' hj (by omega) (hw O w' D)
    | _=>exact⟨S',Z,D⟩
 exact wpIn_loop_rounds _ (key (G i0+1) i0 a w h0 (by omega) (hS a w H))
theorem yOL (ht:∀p∈S'.tmps,S.get p.1=p.2\/p.2= .top) (hb:∀p∈S'.blks,S.blk p.1=p.2) (T:∀C w,E.fr S.ghost C w->E.fr S'.ghost C w):zDZ E S S':=by
 have G:∀t,S'.get t= .top\/S.get t=S'.get t:=by
  intro t;unfold AState.get;generalize Z:S'.tmps=l at ht;clear Z
  induction l with
  | nil=>exact .inl rfl
  | cons p l ih=>
   obtain⟨i,x⟩:=p;rw[kB];by_cases e:i=t;simp only[e,eK];have:=ht (i,x) (by simp);simp only[e] at this;exact this.symm;simp only[e,eE];exact ih λq hq=>ht q (by simp[hq])
 have D:∀t,S'.blk t= .none\/S.blk t=S'.blk t:=by
  intro t;unfold AState.blk;generalize Z:S'.blks=l at hb;clear Z
  induction l with
  | nil=>exact .inl rfl
  | cons p l ih=>
   obtain⟨i,x⟩:=p;rw[kB];by_cases e:i=t;simp only[e,eK];have:=hb (i,x) (by simp);simp only[e] at this;exact .inr this;simp only[e,eE];exact ih λq hq=>hb q (by simp[hq])
 rintro a w ⟨I,ρ,C,h⟩
 refine⟨I,ρ,C,⟨λt=>?_,λi=>?_,λi i' b hn hi H=>?_,T _ _ h.frame,h.sub,h.old,h.size,h.defers,h.cI,λi b hi O=>?_,λi v hv hi=>h.nm i v hv ?_⟩⟩;rcases G t with e | e
 rw[e];trivial;rw[<-e];exact h.tmps t;rcases D i with e | e
 rw[e];trivial;rw[<-e];exact h.blks i;refine h.dist i i' b hn ?_ ?_;rcases D i with e | e
 exact absurd e hi;rw[e];exact hi;rcases D i' with e | e
 exact absurd e H;rw[e];exact H;refine h.cB i b ?_ O;rcases D i with e | e
 exact absurd e hi;rw[e];exact hi;rcases D i with e | e
 exact absurd e hi;rw[e];exact hi
theorem j6 (id e size:Nat) (O:0<size) (H:t<E.n) (G:E.nm id=none) (T:S.get t= .d (.v (.slice none 0 0))):zDZ E S (((S.kill id).setBlk id (.row e size false [])).put t (.row id)):=by
 rintro a w ⟨I,ρ,C,h⟩
 have D:=h.update (iF w none) (id:=id) (u:= .slice none 0 0) (x:= .row e size false []) (by simp) (jJ I w) (by simp[blockOf])
  ⟨⟨O,by simp[upd,Value.ownBlock]⟩,0,[],by simp,by simp only[upd,eK];exact World.ownsRow_nil w _ e size,by simp,Pw.nil,by simp[upd,Value.ownBlock]⟩ (.inl rfl) G
 refine⟨I,_,C,⟨λu=>?_,D.blks,D.dist,by have:=D.frame;rw[vZ _ _ H];exact this,D.sub,D.old,D.size,D.defers,D.cI,D.cB,D.nm⟩⟩
 rw[wK];by_cases e:t=u;subst e;simp only[eK];have:=h.tmps t;rw[T] at this;generalize a.tmps.getD t undef=v at this ⊢;cases this;simp[Holds,upd];simp only[e,eE];exact D.tmps u
def zNK:List DV->Nat->List (Nat×AV)
 | [],_=>[]
 | x::r,k=>(k,.d x)::zNK r (k+1)
theorem z0N (ds:List DV):∀(k t:Nat),(k<=t/\∃x,ds[t-k]? =some x/\look AV.top (zNK ds k) t= .d x)\/look AV.top (zNK ds k) t= .top:=by
 induction ds with
 | nil=>intro k t;exact .inr rfl
 | cons x ds H=>
  intro k t;simp only[zNK,kB];by_cases e:k=t;subst e;simp;simp only[e,eE];rcases H (k+1) t with ⟨O,y,G,D⟩ | h
  refine .inl ⟨by omega,y,?_,D⟩;have:t-k=(t-(k+1))+1:=by omega
  rw[this];simpa using G;exact .inr h
def yV9 (P:Program) (S:AState) (t:TypeId) (cells:List AV) (y:DV):Prop:=
 (OneTy P t/\∃av,cells= [av]/\S.dv av=some y)\/(∃ds,AggTy P t cells.length/\S.dvL cells=some ds/\y= .agg ds)
def RetS (P:Program) (S:AState):List ResultVar->List DV->Prop
 | [],ys=>ys= []
 | .tmp t::rs,ys=> ∃y zs,ys=y::zs/\S.dv (S.get t).un=some y/\RetS P S rs zs
 | .cell a t::rs,ys=> ∃y zs id e cells,ys=y::zs/\(S.get a).un= .ptr id 0/\S.blk id= .box e cells/\yV9 P S t cells y/\RetS P S rs zs
def yYB (P:Program) (fn:Func) (rs:List DV):Exit->AState->Prop
 | .ret,S | .normal,S=>RetS P S fn.results.toList rs
 | _,_=>False
theorem z0O (S:AState) (x:AV) (t:Nat):(S.shareAV x).get t=S.get t:=by unfold AState.shareAV;split;split<;>rfl;rfl
theorem yFE {x:AV} {id:Nat} {cells:List AV} (h:S.blk id= .box e cells):(S.shareAV x).blk id= .box e cells:=by unfold AState.shareAV;split;rename_i i;split;rename_i G size sh cs hb;rw[yC];by_cases D:i=id;subst D;rw[h] at hb;cases hb;simp[D,h];exact h;exact h
theorem RetS.share (x:AV):∀{l:List ResultVar} {ys:List DV},RetS P S l ys->RetS P (S.shareAV x) l ys
 | [],_,h=>h
 | .tmp t::rs,_,⟨y,zs,e,D,G⟩=>⟨y,zs,e,by rw[zW3,z0O];exact D,RetS.share x G⟩
 | .cell a t::rs,_,⟨y,zs,id,e,cells,O,D,G,T,Z⟩=>⟨y,zs,id,e,cells,O,by rw[z0O];exact D,yFE G,by
   rcases T with ⟨ho,av,hc,H⟩ | ⟨ds,ha,H,hy⟩
   ·exact .inl ⟨ho,av,hc,by rw[zW3];exact H⟩
   ·exact .inr ⟨ds,ha,by rw[z0L];exact H,hy⟩,RetS.share x Z⟩
theorem RetS.shareL (xs:List AV):∀{S:AState} {l:List ResultVar} {ys:List DV},RetS P S l ys->RetS P (S.shareL xs) l ys:=by
 induction xs with
 | nil=>exact λh=>h
 | cons x xs D=>exact λh=>D (h.share x)
def zW5 (tmps:Array Value):ResultVar->Sem Value
 | .tmp t=>pure (tmps.getD t undef)
 | .cell a t=>do loadVar t (<-asAddr (tmps.getD a undef))
theorem RetS.holds {ρ:Nat->Value}:∀(l:List ResultVar) (rs:List DV) {S:AState} {I:Im} (_:SatAt E S a w I ρ C) (_:RetS P S l rs),
  ∃I':Im,(∀b j,I b j->I' b j)/\∃S2,SatAt E S2 a w I' ρ C/\∃xs:List Value,(l.mapM (zW5 a.tmps)).run P w= .ok xs w/\Reps w I' xs rs:=by
 intro l
 induction l with
 | nil=>
  intro rs S I h hr;cases hr;exact⟨I,λ_ _ h=>h,S,h,[],by simp,Pw.nil⟩
 | cons x l ih=>
  intro rs S I h hr;cases x with
  | tmp t=>
   obtain⟨y,ys,rfl,h1,h2⟩:=hr;obtain⟨I1,ac,T,H⟩:=h.dv (h.tmps t).un h1;obtain⟨I2,O,S2,G,xs,ag,D⟩:=ih ys T (h2.share _);exact⟨I2,λb j hi=>O b j (ac b j hi),S2,G,_::xs,by simp[iS,zW5,ag],Pw.cons (H.mono (jJ I1 w) O) D⟩
  | cell ad t=>
   obtain⟨y,ys,id,e,cells,rfl,h1,h2,h3,h4⟩:=hr;have hp:=(h.tmps ad).un;rw[h1] at hp;obtain⟨b,ao,hv⟩:=hp;have ak:=h.blks id;rw[h2] at ak;obtain⟨b',arr,ap,hB,hh,au,ab,hI⟩:=ak;have ax:b'=b:=by rw[ap] at ao;simpa[blockOf] using ao
   subst ax;have Z:∀(j:Nat) v,arr.toList[j]? =some v->w.cell? ⟨b',0+j,none⟩=some v:=λj v hj=>by
    rw[fM,gN w b' j arr e (0,0) hh];simpa using hj
   rcases h3 with ⟨ho,av,hc,hd⟩ | ⟨ds,ha,hd,rfl⟩
   ·subst hc
    have am:=ab.1
    match aj:arr.toList,am with
    | [v0],_=>
     rw[aj] at ab Z;obtain⟨I1,ac,T,H⟩:=h.dv (ab.2 0 v0 av rfl rfl) hd;obtain⟨I2,O,S2,G,xs,ag,D⟩:=ih ys T (h4.share _);refine⟨I2,λb j hi=>O b j (ac b j hi),S2,G,v0::xs,?_,Pw.cons (H.mono (jJ I1 w) O) D⟩;have al:=Z 0 v0 rfl;simp only[gZ] at al;simp[iS,zW5,hv,asAddr,loadVar,ho.agg,run_load,al,ag]
   ·obtain⟨I1,ac,T,H⟩:=SatAt.dvL cells h ab hd
    obtain⟨I2,O,S2,G,xs,ag,D⟩:=ih ys T (h4.shareL _);have an:=H.mono (jJ I1 w) O;refine⟨I2,λb j hi=>O b j (ac b j hi),S2,G,.agg arr.toList.toArray::xs,?_,Pw.cons (.agg _ _ an.1 au an.2) D⟩;have aa:=zDN (P:=P) w ha b' 0 arr.toList ab.1 Z;simp only[Instr.loadAt,Instr.sureAddr,dP,eQ,dR] at aa;simp only[iS,zW5,hv,asAddr,dP,eQ,dR,aa,ag]
theorem zOG (h:(fn.results.toList.mapM (zW5 tmps)).run P w= .ok xs w):
  (results fn tmps).run P w= .ok (if h:xs.toArray.size=1 then xs.toArray[0] else .tuple xs.toArray) w:=by
 have e:results fn tmps=(do let vs <-fn.results.mapM (zW5 tmps);pure (if h:vs.size=1 then vs[0] else .tuple vs)):=by
  unfold results;congr 1
 rw[e,Array.mapM_eq_mapM_toList];simp only[dP,eQ,h,dR,Sem.run_map]
def Env.norm (gdt:Nat->Option (List Value)) (G:World) (I0:Im) (T:∀b j,I0 b j->b<G.heap.size) (hG:GlI gdt G I0) (n:Nat) (Z:n<=1000000):Env where
 B:=G.heap.size
 I0:=I0
 n:=n
 fr:=λ_ C w=>Below G.heap.size G w/\∀b,¬C b
 wrB:=true
 nle:=Z
 mine:=λb=>G.heap.size<=b
 mineB:=λ_ h=>h
 nm:=λ_=>none
 size:=λ_ _ _ h=>h.1.size
 csize:=λ_ _ _ h b hb=>absurd hb (h.2 b)
 grow:=λ_ _ _ _ h hb=>⟨h.1.trans (hb.mono h.1.size),h.2⟩
 wr:=λ_ _ _ _ _ _ h D hr _=>⟨h.1.trans ⟨D.os,D.tape,D.output,D.size,λk O=>D.block k (fF O h.1.size) (λe=>by have:=(hr k e).1;omega)⟩,h.2⟩
 turn:=λ_ _ _ w w' l h hl H _=>⟨h.1.trans ⟨H.os,H.tape,H.output,by rw[H.size];exact d9 _,λk O=>H.blk k (by omega)⟩,h.2⟩
 gdt:=gdt
 gl:=λ_ _ w h g zs D j=>⟨(World.cell?_of_block (a:=⟨g,j,none⟩) (h.1.block g (T g j (hG g zs D j).2))).trans (hG g zs D j).1,(hG g zs D j).2⟩
theorem zR5 {D:Nat} (h:w.heap[D]? =some (.deferred (some []))):(Instr.takeDeferred D).run P w= .ok [] {w with heap:=w.heap.setIfInBounds D (.deferred none)}:=by simp[Instr.takeDeferred,getObj,setObj,Sem.run,h]
structure Taken (w w':World):Prop where
 blk:∀k:Nat,w'.heap[k]? =w.heap[k]?\/(w.heap[k]? =some (Obj.deferred (some []))/\w'.heap[k]? =some (Obj.deferred none))
 size:w'.heap.size=w.heap.size
theorem Taken.same (h:Taken w w'):Same I w w':=by
 intro b j _;rcases h.blk b with e | ⟨e,D⟩
 exact KeepB.of e;exact⟨by simp[World.cell?,e,D],λ_ _ q=>by rw[e] at q;cases q⟩
def OutM (P:Program) (fn:Func) (tmps:Array Value) (R:Value->World->Prop):List Deferred->World->Prop
 | [],w=> ∃v,(results fn tmps).run P w= .ok v w/\R v w
 | d::ds,w=> ∃r w',d.target= .collected r/\(Instr.takeDeferred r).run P w= .ok [] w'/\OutM P fn tmps R ds w'
theorem OutM.leaves {R:Value->World->Prop} {R':Ending->World->Prop} (H:∀v w,R v w->R' (.returned v) w):∀(ds:List Deferred) (w:World),OutM P fn tmps R ds w->LeavesInM (fen none) 0 P fn tmps R' ds .returning w
 | [],_,⟨v,D,G⟩=>⟨v,D,H _ _ G⟩
 | _::ds,_,⟨r,w',D,G,O⟩=>⟨by simp,.inl ⟨r,w',D,G,OutM.leaves H ds w' O⟩⟩
theorem z0P {dq:List Deferred} {d:Deferred} {ds:List Deferred} {r:Nat} (O:DefOk dq B wrB C w (d::ds)) (h1:d.target= .collected r) (h2:B<=r) (h3:w.heap[r]? =some (.deferred (some []))):
  ∃Z,(Instr.takeDeferred r).run P w= .ok [] Z/\DefOk dq B wrB C Z ds/\∀w',Below B Z w'->Taken Z w'->Below B w w'/\Taken w w':=by
 refine⟨_,zR5 h3,⟨λe he=>?_,(gB.1 O.dist).2,λ_=>O.wr (by simp[zMX h1]),by have:=O.real;rwa [gW (by simp[zMX h1])] at this⟩,?_⟩
 ·refine(O.each e (by simp[he])).imp (λ⟨r',G,ab,H,ad⟩=>?_) id
  have D:r≠r':=λai=>(gB.1 O.dist).1 e he r h1 (ai▸G);exact⟨r',G,ab,H,by simp only[eX D];exact ad⟩
 ·intro w' hb hk
  refine⟨⟨hb.os,hb.tape,hb.output,by have:=hb.size;simpa using this,λk ah=>?_⟩,⟨λk=>?_,?_⟩⟩
  ·rw[hb.block k ah]
   exact eX (by omega)
  ·have T:=(dX.1 h3).1
   by_cases D:r=k
   ·subst D
    refine .inr ⟨h3,?_⟩;rcases hk.blk r with e | ⟨e,_⟩
    ·rw[e];simp[T]
    ·simp[T] at e
   ·have e1:(w.heap.setIfInBounds r (Obj.deferred none))[k]? =w.heap[k]?:=eX D
    rcases hk.blk k with e | ⟨e,e'⟩
    ·exact .inl (e.trans e1)
    ·exact .inr ⟨e1.symm.trans e,e'⟩
  ·rw[hk.size];simp
theorem zTR {R:Value->World->Prop}:∀(ds:List Deferred) (w:World),DefOk [] B wrB C w ds->
  (∀w',Below B w w'->Taken w w'->∃v,(results fn tmps).run P w'= .ok v w'/\R v w')->OutM P fn tmps R ds w
 | [],w,_,h=>h w (Below.refl _ _) ⟨λ_=> .inl rfl,rfl⟩
 | d::ds,w,H,h=>by
  obtain⟨r,G,h2,_,h3⟩:=H.marks d (by simp);obtain⟨T,Z,e2,D⟩:=z0P (P:=P) H G h2 h3;exact⟨r,T,G,Z,zTR ds T e2 λw' hb O=>h w' (D w' hb O).1 (D w' hb O).2⟩
theorem z2K {R:Ending->World->Prop} (ds:List Deferred) (w:World) (D:DefOk [] B wrB C w ds)
  (h:∀w',Below B w w'->Taken w w'->∃v,(results fn tmps).run P w'= .ok v w'/\R (.returned v) w'):LeavesInM (fen none) 0 P fn tmps R ds .returning w:=
 OutM.leaves (λ_ _ h=>h) ds w (zTR ds w D h)
theorem SatAt.takenX {E':Env} {ρ:Nat->Value} {ds:List Deferred} (h:SatAt E S a w I ρ C) (D:Taken w w') (O:E'.fr S.ghost C w') (eI:E'.I0=E.I0) (en:E'.n=E.n) (T:E'.mine=E.mine) (G:E'.nm=E.nm) (H:DefOk E'.dq E'.B E'.rng C w' ds):SatAt E' S {a with defers:=ds} w' I ρ C:=by
 refine⟨λt=>(h.tmps t).mono D.same (λ_ _ h=>h),λi=>?_,h.dist,O,by rw[eI];exact h.sub,λb j hi=>⟨by rw[D.size];exact(h.old b j hi).1,by rw[eI,T];exact(h.old b j hi).2⟩,by rw[en];exact h.size,H,h.cI,h.cB,by rw[G];exact h.nm⟩
 rw[T];cases Z:S.blk i with
 | none=>trivial
 | _=>
  rw[<-Z];refine(h.blks i).mono D.same (λb hb=>?_);obtain⟨o,hc,hd⟩:=h.cellBlk (by rw[Z];simp) hb
  rcases D.blk b with e | ⟨e,_⟩;exact e;rw[hc] at e;cases e;cases hd
theorem SatAt.taken {ρ:Nat->Value} (h:SatAt E S a w I ρ C) (H:Taken w w') (G:E.fr S.ghost C w') (D:E.dq= []:=by rfl):SatAt E S {a with defers:=[]} w' I ρ C:=
 h.takenX H G rfl rfl rfl rfl (D▸DefOk.nil)
theorem RetS.run {ρ:Nat->Value} (hs:SatAt E S a w I ρ C) (H:RetS P S fn.results.toList rs):
  ∃v I',(results fn a.tmps).run P w= .ok v w/\(∀b j,I b j->I' b j)/\(∀b j,I' b j->b<w.heap.size/\(E.I0 b j\/E.mine b))/\yCS w I' v rs:=by
 obtain⟨I2,O,S2,T,xs,Z,D⟩:=RetS.holds _ _ hs H;refine⟨_,I2,zOG Z,O,T.old,?_⟩;have hl:=D.1
 match xs,rs,hl,D with
 | [],[],_,G=>exact⟨_,rfl,G⟩
 | [x],[y],_,G=>exact G.2 0 _ y rfl rfl
 | x::u::xs,y::z::ys,_,G=>exact⟨x::u::xs,by simp,G⟩
theorem z5M {c:Code} {ds:List DV} (hf:P.funcs[f]? =some fn) (D:(fn.name== "runtime.NumGoroutine")=false) (hb:fn.body=some c) (hn:ds.length<=fn.ntmps) (hn2:fn.ntmps<=1000000)
  (h:∀w0 I0 O hG,Avc P none (Env.norm (vF P) w0 I0 O hG fn.ntmps hn2) c (yYB P fn rs) ⟨zNK ds 0,[]⟩):zB P f ds rs:=by
 refine⟨⟨fn,hf,D,by simp[hb]⟩,λw I vs O hG ac=>?_⟩;refine g8 (n:=0) |>.1 (callsIn_of_wp_marks hf hb trivial ?_)
 have Z:vs.length=ds.length:=ac.1;have ab:Sat (Env.norm (vF P) w I O hG fn.ntmps hn2) ⟨zNK ds 0,[]⟩ {tmps:=vs.toArray++Array.replicate (fn.ntmps-vs.toArray.size) undef,defers:=[]} w:=by
  refine⟨I,λ_=>undef,λ_=>False,⟨λt=>?_,λ_=>trivial,λ_ _ _ _ h=>absurd rfl h,⟨Below.refl _ _,λ_ h=>h⟩,λ_ _ h=>h,λb j h=>⟨O b j h,.inl h⟩,by simp[Env.norm];omega,DefOk.nil,λ_ _ _ h=>h,λ_ _ h=>absurd rfl h,λ_ _ h=>by cases h⟩⟩
  rcases z0N ds 0 t with ⟨_,x,hx,hl⟩ | hl
  ·show Holds _ _ _ _ (look AV.top (zNK ds 0) t)
   rw[hl];simp only[Nat.sub_zero] at hx;have ht:t<vs.length:=by rw[Z];exact(dV.1 hx).1
   refine ac.2 t _ x ?_ hx;simp[dZ,Array.getElem?_append,ht]
  ·show Holds _ _ _ _ (look AV.top (zNK ds 0) t)
   rw[hl];trivial
 refine g7 (h w I O hG _ w ab) ?_
 rintro e a w' ⟨S,hK,I1,ρ,C,G⟩
 have H:RetS P S fn.results.toList rs->LeavesInM (fen none) 0 P fn a.tmps (λe w'=> ∃v I',e= .returned v/\Below w.heap.size w w'/\(∀b j,I b j->I' b j)/\(∀b j,I' b j->b<w'.heap.size/\(I b j\/w.heap.size<=b))/\yCS w' I' v rs) a.defers .returning w':=by
  intro aa;refine z2K (B:=w.heap.size) a.defers w' G.defers λw2 T ag=>?_;have ah:=G.taken ag ⟨G.frame.1.trans T,G.frame.2⟩;obtain⟨v,I2,h1,h2,h3,h4⟩:=RetS.run ah aa;exact⟨v,h1,v,I2,rfl,G.frame.1.trans T,λb j hi=>h2 b j (G.sub b j hi),h3,h4⟩
 cases e with
 | normal=>exact H hK
 | ret=>exact H hK
 | _=>exact hK.elim
end
theorem zOH {H:Nat} {D:Array Value} (O:w.heap[H]? =some (.cells D e (0,0))) (G:Array Value) (h:G[j]? =D[j]?):
  (w.setRow H G).cell? ⟨H,j,none⟩=w.cell? ⟨H,j,none⟩:=by
 rw[gN _ H j G e (0,0) (iQ w H D G e _ O),gN w H j D e (0,0) O,h]
section
variable (w:World)
theorem z91 {ty size:Nat} (hT:SlTy P t e size bytes z) (D:w.ownsRow B e size v n xs)
  {A:Option Addr} {news:List Value} (hl:news.length=m*size) (ak:0<m->∃b off,A=some ⟨b,off,none⟩/\∀(j:Nat) u,news[j]? =some u->w.cell? ⟨b,off+j,none⟩=some u)
  (h1:∀u∈news,u.oneCell'=true) (am:n+m<=maxLen) (T:(n+m)*bytes<=140737488355328) (hB:B<=w.heap.size):
  ∃v' w',(Builtin.append_ #[t,t] ty #[v,.slice A m c]).run P w= .ok v' w'/\w'.ownsRow B e size v' (n+m) (xs++news)/\
   ((w.grownBy w' v.ownBlock/\v'.ownBlock=v.ownBlock/\∀gb,v.ownBlock=some gb->∀j,j<n*size->w'.cell? ⟨gb,j,none⟩=w.cell? ⟨gb,j,none⟩)\/(w.grownBy w' none/\v'.ownBlock=some w.heap.size)):=by
 obtain⟨i,hi,hz,rfl,rfl⟩:=hT.info;have ht:=hT.und;have be:=hT.zs;have au:n+m<=9223372036854775807:=by simp only[maxLen] at am;omega
 have Z:(xs++news).length=(n+m)*i.size:=by rw[d8,D.1,hl,fT]
 by_cases hm:m=0
 ·subst hm
  have hn:news= []:=dQ (by simpa using hl);subst hn;refine⟨v,w,?_,by simpa using D,.inl ⟨iF w _,rfl,λ_ _ _ _=>rfl⟩⟩;rcases D.2 with ⟨rfl,rfl⟩ | ⟨gb,aa,ad,rfl,_,_,ap,_⟩
  ·cases A<;>simp[Builtin.append_,eM ht,sizeOf,typeInfo,hi,Builtin.lenOf,Builtin.firstCells,loadCells,loadCellsFrom]
  ·cases A<;>simp[Builtin.append_,eM ht,sizeOf,typeInfo,hi,Builtin.lenOf,Builtin.firstCells,ap,storeCells,loadCells,loadCellsFrom]
 ·obtain⟨b,off,rfl,ah⟩:=ak (by omega)
  have G:∀(j:Nat) u,news[j]? =some u->w.cell? ((⟨b,off,none⟩:Addr).add j)=some u:=λj u hu=>by rw[zFF];exact ah j u hu
  have ag:∀(O:Nat),
    (w.drew.alloc (.cells (xs.toArray++news.toArray++Builtin.zeroCells z.cells (grownCap w (n+m) O e-(n+m))) e)).ownsRow B e i.size
     (.slice (some ⟨w.heap.size,0,none⟩) (n+m) (grownCap w (n+m) O e)) (n+m) (xs++news)/\
    w.grownBy (w.drew.alloc (.cells (xs.toArray++news.toArray++Builtin.zeroCells z.cells (grownCap w (n+m) O e-(n+m))) e)) none:=by
   intro O;have bb:=grownCap_ge w (n+m) O e;have ai:grownCap w (n+m) O e<=maxLen:=grownCap_le_maxLen w (n+m) O e am;refine⟨⟨Z,.inr ⟨w.heap.size,_,_,rfl,hB,hF w.drew _,bb,ai,?_,?_⟩⟩,⟨rfl,rfl,rfl,by simp,λk hk _=>_root_.Go.heap_alloc_old w.drew _ hk⟩⟩
   ·simp only[Array.size_append,gO,size_zeroCells,be,D.1,hl,<-fT]
    congr 1;omega
   ·simp only[Array.toList_append,dW]
    rw[<-dW,<-Z];exact iB
  rcases D.2 with ⟨rfl,rfl⟩ | ⟨gb,aa,ad,rfl,ay,hg,ap,ai,az,al⟩
  ·have hx:xs= []:=dQ (by simpa using D.1)
   subst hx;have hr:=run_append_nil (P:=P) w t ty e i z ht hi hz ⟨b,off,none⟩ m c news hl G (by omega) (by omega) (by have hb:=T;simp only[fM] at hb;omega)
   have ab:=ag 0;simp only[fM,eN,Array.empty_append] at ab ⊢;exact⟨_,_,hr,ab.1,.inr ⟨ab.2,rfl⟩⟩
  ·by_cases H:n+m<=aa
   ·have an:n*i.size+news.length<=ad.size:=by rw[hl,az,<-fT];exact fP _ H
    have hr:=run_append_room (P:=P) w t ty e i ht hi gb n aa ad hg ⟨b,off,none⟩ m c news hl G h1 H an;refine⟨_,_,hr,⟨Z,.inr ⟨gb,aa,_,rfl,ay,iQ w gb ad _ e _ hg,H,ai,?_,?_⟩⟩,.inl ⟨⟨rfl,rfl,rfl,by simp,λk _ hk=>setRow_other w gb k _ (λe=>hk (by simp[Value.ownBlock,e]))⟩,rfl,?_⟩⟩
    ·simp only[gO,d8,fU,fD,fB]
     omega
    ·rw[al,<-Z]
     exact iB
    ·intro g' ao j hj
     simp[Value.ownBlock] at ao;subst ao;refine zOH hg _ ?_;have:j<ad.size:=by omega
     simp only[fJ,dW];rw[eZ (by simp;omega),ft,eG hj]
     simp
   ·have holds:∀j u,xs[j]? =some u->w.cell? ((⟨gb,0,none⟩:Addr).add j)=some u:=D.cells (g:=gb) rfl
    have hr:=run_append_grow (P:=P) w t ty e i z ht hi hz ⟨gb,0,none⟩ n aa xs D.1 holds ⟨b,off,none⟩ m c news hl G (by omega) (by omega) (growslice_fits (by omega) T);have ab:=ag aa;exact⟨_,_,hr,ab.1,.inr ⟨ab.2,rfl⟩⟩
end
section
theorem zQQ {x:AV} {id size:Nat} (hb:S.blk id= .row e size sh cells):∃G,(S.shareAV x).blk id= .row e size G cells:=by unfold AState.shareAV;split;rename_i i;split;rename_i Z H T cs D;rw[yC];by_cases O:i=id;subst O;rw[hb] at D;cases D;exact⟨true,by simp⟩;exact⟨sh,by simp[O,hb]⟩;exact⟨sh,hb⟩;exact⟨sh,hb⟩
def Blk.appended (b:Blk) (cells:List DV):Blk:=match b with
 | .row e size sh cs=> .row e size sh (cs++cells)
 | b=>b
theorem zU2 {size id:Nat} {ρ:Nat->Value} {v':Value} {ys:List Value} (hn:d<E.n) (hs:SatAt E S A w I ρ C) (hb:S.blk id= .row e size sh cells) (hE:E.wrB=true) (al:E.nm id=none)
  (hp:0<size/\∀g,(ρ id).ownBlock=some g->E.mine g) (ax:cells.length=n*size) (ay:news.length=m*size) (am:w.ownsRow 0 e size (ρ id) n xs) (h1:∀x∈xs,x.oneCell'=true) (az:Reps w I xs cells) (ah:∀g j,(ρ id).ownBlock=some g->I g j->sh=true/\j<cells.length)
  (Z:w'.ownsRow 0 e size v' (n+m) (xs++ys)) (G:(w.grownBy w' (ρ id).ownBlock/\v'.ownBlock=(ρ id).ownBlock/\∀gb,(ρ id).ownBlock=some gb->∀j,j<n*size->w'.cell? ⟨gb,j,none⟩=w.cell? ⟨gb,j,none⟩)\/(w.grownBy w' none/\v'.ownBlock=some w.heap.size))
  (ba:Reps w I ys news) (aq:∀x∈ys,x.oneCell'=true):Sat E (((S.kill id).setBlk id (.row e size sh (cells++news))).put d (.row id)) (A.put (some d) v') w':=by
 have H:Same I w w':=by
  intro b j hi;have ai:=(hs.old b j hi).1;rcases G with ⟨T,_,ab⟩ | ⟨T,_⟩
  ·by_cases e':(ρ id).ownBlock=some b
   ·obtain⟨bb,bi,bj,au⟩:=zZG am e'
    exact KeepB.ofCell au (ab b e' j (by have:=(ah b j e' hi).2;omega))
   ·exact KeepB.of (T.block b ai (λe2=>e' e2.symm))
  ·exact KeepB.of (T.block b ai (by simp))
 have ad:∀b,blockOf v'=some b->v'.ownBlock=some b:=by
  intro b O;rcases Z.2 with ⟨ag,_⟩ | ⟨gb,bf,bg,ag,_⟩
  ·rw[ag] at O;cases O
  ·rw[ag] at O ⊢;exact O
 have ak:S.blk id≠ .none:=by rw[hb];simp
 have aj:BlkOk w' I (upd ρ id v') E.mine id (.row e size sh (cells++news)):=by
  have eu:upd ρ id v' id=v':=by simp[upd]
  refine⟨⟨hp.1,λgb T=>?_⟩,n+m,xs++ys,by rw[d8,ax,ay,fT],by rw[eu];exact Z,?_,Pw.append (az.mono H (λ_ _ h=>h)) (ba.mono H (λ_ _ h=>h)),?_⟩
  ·rw[eu] at T
   rcases G with ⟨_,D,_⟩ | ⟨_,D⟩
   ·exact hp.2 gb (by rw[<-D];exact T)
   ·rw[D] at T;cases T;exact E.mineB _ (E.size _ _ _ hs.frame)
  ·intro u hu
   rcases fk.1 hu with hu | hu
   ·exact h1 u hu
   ·exact aq u hu
  ·rw[eu]
   intro gb j T hi;rcases G with ⟨_,D,_⟩ | ⟨_,D⟩
   ·rw[D] at T
    have:=ah gb j T hi;exact⟨this.1,by rw[d8];omega⟩
   ·rw[D] at T
    cases T;have:=(hs.old _ j hi).1;omega
 rcases G with ⟨T,D,_⟩ | ⟨T,D⟩
 ·have h2:=hs.update T (id:=id) (u:=v') (λk hk=>⟨ak,zBY hk⟩) H (λb O=> .inr ⟨ak,zBY (by rw[<-D];exact ad b O)⟩) aj (.inr hE) al
  exact⟨I,_,C,h2.put hn (by simp[Holds,upd])⟩
 ·have h2:=hs.update T (id:=id) (u:=v') (λk hk=>by cases hk) H (λb O=> .inl (by have:=ad b O;rw[D] at this;cases this;exact d9 _)) aj (.inl rfl) al
  exact⟨I,_,C,h2.put hn (by simp[Holds,upd])⟩
theorem z0Q {size:Nat} {id:Nat} (hn:d<E.n) (hT:SlTy P t e size bytes z) (hb:S.blk id= .row e size sh cells)
  (hx:S.dv (S.ev x)=some (.sl size news)) (hl:cells.length=n*size) (am:news.length=m*size) (G:(n+m)*bytes<=140737488355328) (aj:n+m<=maxLen) (hE:E.wrB=true) (an:E.nm id=none):
  ∀{A:Act} {w:World} {I:Im} {ρ:Nat->Value} {C:Nat->Prop},SatAt E S A w I ρ C->A.eval s= ρ id->∃v w',(execOp A.eval ⟨some d,.call {callee:= .builtin .append,args:= #[s,x],argTypes:= #[t,t]},ty,pos,af,g⟩).run P w= .ok (.value v) w'/\
   Sat E ((((S.shareAV (S.ev x)).kill id).setBlk id (((S.shareAV (S.ev x)).blk id).appended news)).put d (.row id)) (A.put (some d) v) w':=by
  intro A w I ρ C O aq;obtain⟨I1,ba,D,ai⟩:=O.dv (O.ev x) hx;obtain⟨ar,T⟩:=zQQ (x:=S.ev x) hb;have hk:=D.blks id;rw[T] at hk;obtain⟨hp,n',xs,ag,H,h1,ap,ak⟩:=hk;obtain rfl:=zJV ag hl hp.1;obtain⟨Ax,m',c,ys,hv,_,aa,ah,ac,al⟩:=Rep.sl_inv ai;obtain rfl:=zJV aa am hp.1;obtain⟨v',w',hr,ab,Z⟩:=z91 (ty:=ty) w hT H (A:=Ax) (m:=m') (c:=c) (news:=ys) (by rw[ah.1,aa]) (λh0=>by
   obtain⟨b,off,hA,hc⟩:=al h0;exact⟨b,off,hA,λj u hu=>(hc j u hu).1⟩) ac aj G (g5 _)
  refine⟨v',w',?_,?_⟩
  ·simp only[execOp,resolve,invoke,builtin,dP,eQ,dR,fq,fp,gE,aq,hv,hr]
  ·have ad:((S.shareAV (S.ev x)).blk id).appended news= .row e size ar (cells++news):=by rw[T];rfl
   rw[ad];exact zU2 hn D T hE an hp ag aa H h1 ap ak ab Z ah ac
theorem z5N {size:Nat} {id:Nat} (hn:d<E.n) (hT:SlTy P t e size bytes z) (hs:S.ev s= .row id) (hb:S.blk id= .row e size sh cells)
  (hx:S.dv (S.ev x)=some (.sl size news)) (hl:cells.length=n*size) (O:news.length=m*size) (D:(n+m)*bytes<=140737488355328) (H:n+m<=maxLen) (Z:E.wrB=true) (T:E.nm id=none):
  jI P r E ⟨some d,.call {callee:= .builtin .append,args:= #[s,x],argTypes:= #[t,t]},ty,pos,af,g⟩ S
   ((((S.shareAV (S.ev x)).kill id).setBlk id (((S.shareAV (S.ev x)).blk id).appended news)).put d (.row id)):=
 vR (by simp) λA w I ρ C G=>z0Q hn hT hb hx hl O D H Z T G (by have:=G.ev s;rw[hs] at this;exact this)
def uA:DV->List DV
 | .agg es=>es
 | x=>[x]
def okDV (size:Nat):DV->Bool
 | .agg es=>es.length==size
 | .v u=>u.oneCell'&&size==1
 | .sl _ _=>size==1
 | .pt _=>size==1
 | .fn _ _=>size==1
 | .bm _ _=>size==1
 | .mp _ _=>size==1
theorem Rep.flat {x:DV} {size:Nat} (h:Rep w I v x) (D:okDV size x=true):
  Reps w I v.cells.toList (uA x)/\(∀u∈v.cells.toList,u.oneCell'=true)/\(uA x).length=size:=by
 cases h with
 | v=>
  simp[okDV] at D;rw[zHY D.1];exact⟨Pw.cons (.v v) Pw.nil,by simpa using D.1,by simp[uA,D.2]⟩
 | nil A c s=>
  simp[okDV] at D;exact⟨Pw.cons (.nil A c s) Pw.nil,by simp[Value.cells,Value.oneCell'],by simp[uA,D]⟩
 | sl b off n c s xs cells hn aa hl H hc Z G=>
  simp[okDV] at D;exact⟨Pw.cons (.sl b off n c s xs cells hn aa hl H hc Z G) Pw.nil,by simp[Value.cells,Value.oneCell'],by simp[uA,D]⟩
 | pt b off xs cells H hc Z G=>
  simp[okDV] at D;exact⟨Pw.cons (.pt b off xs cells H hc Z G) Pw.nil,by simp[Value.cells,Value.oneCell'],by simp[uA,D]⟩
 | fn f xs cells H G=>
  simp[okDV] at D;exact⟨Pw.cons (.fn f xs cells H G) Pw.nil,by simp[Value.cells,Value.oneCell'],by simp[uA,D]⟩
 | bm f xs cells H G=>
  simp[okDV] at D;exact⟨Pw.cons (.bm f xs cells H G) Pw.nil,by simp[Value.cells,Value.oneCell'],by simp[uA,D]⟩
 | mp b O T vs hh hb H G hN=>
  simp[okDV] at D;exact⟨Pw.cons (.mp b O T vs hh hb H G hN) Pw.nil,by simp[Value.cells,Value.oneCell'],by simp[uA,D]⟩
 | agg xs cells H Z G=>
  simp[okDV] at D;exact⟨⟨by simpa[Value.cells,uA] using H,by simpa[Value.cells,uA] using G⟩,by simpa[Value.cells] using Z,by simp[uA,D]⟩
theorem yFF (vs:List Value) (off:Nat):∀(k:Nat) (arr:Array Value),off+k+vs.length<=arr.size->
  ((vs.zipIdx k).foldl (λcs (p:Value×Nat)=>cs.setIfInBounds (off+p.2) p.1) arr).toList=arr.toList.take (off+k)++vs++arr.toList.drop (off+k+vs.length):=by
 induction vs with
 | nil=>intro k arr _;simp
 | cons v vs T=>
  intro k arr h;simp only[eF] at h;rw[List.zipIdx_cons,gG,T (k+1) _ (by simp;omega)]
  simp only[Array.toList_setIfInBounds,eF];have D:off+k<arr.toList.length:=by simp;omega
  rw[hQ,eG D];have G:(arr.toList.take (off+k)).length=off+k:=by simp;omega
  have H:off+(k+1)=(arr.toList.take (off+k)).length+1:=by rw[G];omega
  have O:off+(k+1)+vs.length=(arr.toList.take (off+k)).length+(1+vs.length):=by rw[G];omega
  rw[O,H,List.take_length_add_append,List.drop_length_add_append];rw[Nat.add_comm 1 vs.length,List.drop_succ_cons,iC,show off+k+1+vs.length=off+k+(vs.length+1) by omega];simp
theorem zW6 {D:Nat->Option (Nat×Nat)} {size:Nat} {rest:List (Nat×Value)} (O:D i=some (off,size)) (T:v.cells.size=size) (G:off+size<=arr.size):
  Instr.fill D arr ((i,v)::rest)=Instr.fill D (arr.toList.take off++v.cells.toList++arr.toList.drop (off+size)).toArray rest:=by
 subst T;have h:=yFF v.cells.toList off 0 arr (by simpa using G);simp only[gZ] at h;have e:v.cells.zipIdx.foldl (λcs (x:Value×Nat)=>cs.setIfInBounds (off+x.2) x.1) arr=(arr.toList.take off++v.cells.toList++arr.toList.drop (off+v.cells.size)).toArray:=by
  apply Array.ext';rw[<-Array.foldl_toList,Array.toList_zipIdx];simpa using h
 have H:¬(v.cells.size≠v.cells.size ||off+v.cells.size > arr.size)=true:=by simp;omega
 simp only[Instr.fill,O];rw[dU H];congr 1
def zBZ {D:Type}:Nat->List D->List (Nat×D)
 | _,[]=>[]
 | k,x::r=>(k,x)::zBZ (k+1) r
theorem zMY {D G:Type} (f: D->G):∀(l:List D) (k:Nat),(zBZ k l).map (λp=>(p.1,f p.2))=zBZ k (l.map f)
 | [],_=>rfl
 | x::l,k=>by simp[zBZ,zMY f l (k+1)]
theorem z5O (size:Nat):∀(vs:List Value) (k:Nat) (arr:Array Value),(∀v∈vs,v.cells.size=size)->(k+vs.length)*size<=arr.size->
  Instr.fill (λi=>some (i*size,size)) arr (zBZ k vs)=some (arr.toList.take (k*size)++vs.flatMap (λv=>v.cells.toList)++arr.toList.drop ((k+vs.length)*size)).toArray:=by
 intro vs
 induction vs with
 | nil=>intro k arr _ _;simp[zBZ,Instr.fill]
 | cons v vs ih=>
  intro k arr T D;simp only[eF] at D;have hm:(k+(vs.length+1))*size=k*size+size+vs.length*size:=by
   rw[fT,fT,Nat.one_mul];omega
  have G:(k+1)*size=k*size+size:=by rw[fT,Nat.one_mul]
  have O:(k+1+vs.length)*size=k*size+size+vs.length*size:=by rw[fT,G]
  have H:v.cells.toList.length=size:=by rw[fB];exact T v (by simp)
  rw[zBZ,zW6 rfl (T v (by simp)) (by omega),ih (k+1) _ (λu hu=>T u (by simp[hu])) (by simp[H];omega)]
  congr 2;rw[O,G];simp only[eF,fC,hm];have Z:(arr.toList.take (k*size)++v.cells.toList).length=k*size+size:=by simp[H];omega
  rw[<-Z,iB,List.drop_length_add_append,iC];simp only[dW]
theorem zTS {size:Nat}:∀{vs:List Value} {ds:List DV},Reps w I vs ds->ds.all (okDV size)=true->
  Reps w I (vs.flatMap λv=>v.cells.toList) (ds.flatMap uA)/\(∀u∈vs.flatMap (λv=>v.cells.toList),u.oneCell'=true)/\(∀v∈vs,v.cells.size=size)/\(ds.flatMap uA).length=ds.length*size
 | [],[],_,_=>⟨Pw.nil,by simp,by simp,by simp⟩
 | [],_::_,h,_=>by have:=h.1;simp at this
 | _::_,[],h,_=>by have:=h.1;simp at this
 | v::vs,x::ds,h,G=>by
  simp only[iK,eC] at G;have D:=(h.2 0 v x rfl rfl).flat G.1;have h':Reps w I vs ds:=⟨by have:=h.1;simpa using this,λj u y hu hy=>h.2 (j+1) u y (by simpa using hu) (by simpa using hy)⟩
  obtain⟨H,O,T,Z⟩:=zTS h' G.2;refine⟨by simp only[fC];exact Pw.append D.1 H,?_,?_,?_⟩
  ·intro u hu
   simp only[fC,fk] at hu;rcases hu with hu | hu
   ·exact D.2.1 u hu
   ·exact O u hu
  ·intro u hu
   rcases eP.1 hu with rfl | hu
   ·have:=D.1.1;rw[D.2.2,fB] at this;exact this
   ·exact T u hu
  ·simp only[fC,d8,eF,D.2.2,Z,fT];omega
theorem zVL {size:Nat} {ds:List DV} (hn:d<E.n) (O:SlTy P t e size bytes z) (H:ps=zBZ 0 (ps.map Prod.snd)) (aa:ps.length=len)
    (T:S.dvL ((ps.map Prod.snd).map S.ev)=some ds) (aj:ds.all (okDV size)=true) (bb:len*size<=16777216) (ai:E.nm d=none):
    jI P r E ⟨some d,.buildSlice t len ps.toArray,ty,pos,af,g⟩ S
      ((((S.shareL ((ps.map Prod.snd).map S.ev)).kill d).setBlk d (.row e size false (ds.flatMap uA))).put d (.row d)):=
  vR (by simp) λA w I ρ C hs=>by
    generalize al:ps.map Prod.snd=xs at H T ⊢;obtain⟨I1,h1,h2,h3⟩:=SatAt.dvL _ hs (v2 hs xs) T;obtain⟨a1,a2,a3,a4⟩:=zTS h3 aj;have G:(xs.map A.eval).length=len:=by rw[<-aa,<-al];simp
    have ag:ds.length=len:=by rw[<-h3.1];exact G
    have ah:len<=maxLen:=by
      have:=O.pos;have:len*1<=len*size:=iY _ this;simp only[maxLen];omega
    have ad:=h2.newRow (id:=d) (e:=e) (size:=size) (n:=len) (c:=len) (rest:=[]) O.pos (by rw[a4,ag]) (d9 _) ah (by simp) a1 a2 ai;refine⟨.slice (some ⟨w.heap.size,0,none⟩) len len,_,?_,I1,_,C,ad.put hn (by simp[Holds,upd])⟩;obtain⟨i,hi,hz,ba,ay⟩:=O.info;have D:=z5O size (xs.map A.eval) 0 ((Array.range (len*size)).map ((if len*size=0 then (#[]:Array Value) else z.cells)[· % (if len*size=0 then (#[]:Array Value) else z.cells).size]!)) a3 (by simp[<-G]);have ab:ps.toArray.map (λp:Nat×Operand=>(p.1,A.eval p.2))=(zBZ 0 (xs.map A.eval)).toArray:=by
      rw[H,fq,zMY]
    have ac:¬(len*size > 2 ^ 24):=by omega
    simp only[Nat.zero_mul,iT,eN,fM,G] at D;rw[eJ (by simp)] at D;simp only[fm] at D ⊢;simp only[execOp,Instr.buildSlice,dP,eM O.und,dR,O.size w,ac,eE,eQ];by_cases h0:len*size=0
    · have Z:len=0:=by
        rcases Nat.mul_eq_zero.1 h0 with h | h
        · exact h
        · have:=O.pos;omega
      have ak:xs= []:=dQ (by simpa[Z] using G);subst ak;subst Z;simp[ab,zBZ,Instr.fill,newRow,Array.range_zero']
    · simp only[h0,eE] at D ⊢
      simp[zeroValue,typeInfo,hi,hz,ab,D,newRow]
def zPL (z:Value) (n:Nat):List DV:=(List.replicate n (z.cells.toList.map DV.v)).flatten
theorem zOI (z:Array Value) (n:Nat):(madeCells z (n*z.size)).toList=(List.replicate n z.toList).flatten:=by
 apply hJ;intro j;simp only[madeCells,Array.toList_map,Array.toList_range,e7]
 induction n generalizing j with
 | zero=>simp
 | succ n O=>
  rw[List.replicate_succ,iz];by_cases H:j<z.size;rw[eZ (by simpa using H)];have D:j<(n+1)*z.size:=by rw[fT,Nat.one_mul];omega
  rw[List.getElem?_range D];simp[Nat.mod_eq_of_lt H,H];rw[eU (by simp;omega),<-O]
  simp only[fB];by_cases D:j<(n+1)*z.size;have G:j-z.size<n*z.size:=by rw[fT,Nat.one_mul] at D;omega
  rw[List.getElem?_range D,List.getElem?_range G];simp only[gJ];have:j%z.size=(j-z.size)%z.size:=by
   rw[Nat.mod_eq_sub_mod (by omega)]
  rw[this];have G:¬j-z.size<n*z.size:=by rw[fT,Nat.one_mul] at D;omega
  rw[fN (by simpa using D),fN (by simpa using G)]
theorem zOJ (w:World) (I:Im) (vs:List Value):Reps w I vs (vs.map DV.v):=by refine⟨by simp,λj x y G D=>?_⟩;simp[G] at D;subst D;exact .v x
theorem yFG {size:Nat} {m:Int} (hn:d<E.n) (H:SlTy P t e size bytes z) (hx:S.ev x= .d (.v (.int .i64 m))) (hm:m=(n:Int)) (hb:n*bytes<=140737488355328) (aa:n<=maxLen) (ah:E.nm d=none):
  jI P r E ⟨some d,.makeSlice t x x,ty,pos,af,g⟩ S (((S.kill d).setBlk d (.row e size false (zPL z n))).put d (.row d)):=
 vR (by simp) λA w I ρ C hs=>by
  subst hm;obtain⟨i,hi,hz,ai,ag⟩:=H.info;subst ai ag;have D:zPL z n=((List.replicate n z.cells.toList).flatten).map DV.v:=by simp[zPL,List.map_flatten]
  have O:((List.replicate n z.cells.toList).flatten).length=n*i.size:=by simp[H.zs]
  have ab:=hs.newRow (id:=d) (e:=e) (size:=i.size) (n:=n) (c:=n) (xs:=(List.replicate n z.cells.toList).flatten) (cells:=zPL z n) (rest:=[]) H.pos (by rw[D];simpa using O) (d9 _) aa (by simp)
   (by rw[D];exact zOJ _ _ _) (by
    intro u hu;obtain⟨l,hl,hu⟩:=List.mem_flatten.1 hu;rw[List.mem_replicate] at hl;rw[hl.2] at hu;exact H.one u hu) ah
  refine⟨.slice (some ⟨w.heap.size,0,none⟩) n n,_,?_,I,_,C,ab.put hn (by simp[Holds,upd])⟩;have T:=zOI z.cells n;rw[H.zs] at T;have Z:madeCells z.cells (n*i.size)=((List.replicate n z.cells.toList).flatten).toArray:=by
   apply Array.ext';simpa using T
  have ad:(i.bytes:Int)*(n:Int)<=281474976710656:=by
   have h:((i.bytes*n:Nat):Int)<=281474976710656:=by rw[Nat.mul_comm];omega
   rwa [Int.natCast_mul] at h
  have G:=run_make (P:=P) w t e i z H.und hi hz .i64 .i64 n n (by omega) (by omega) ad (by simp only[maxLen] at aa;omega)
  simp only[hP] at G;simp only[execOp,hs.val hx,dP,fm];rw[G,Z];rfl
end
structure Agree (S S':AState) (o:Oper):Prop where
 blks:S'.blks=S.blks
 get:∀t,Operand.tmp t∈o.op.operands->S'.get t=S.get t
theorem Agree.ev (h:Agree S S' o) (D:x∈o.op.operands):S'.ev x=S.ev x:=by
 cases x with
 | tmp t=>simp only[AState.ev,h.get t D]
 | _=>rfl
theorem Agree.blk (h:Agree S S' o) (id:Nat):S'.blk id=S.blk id:=by unfold AState.blk;rw[h.blks]
def AOp (P:Program) (r:Option Nat) (E:Env) (S:AState) (o:Oper) (d:Nat) (x:AV):Prop:=
 o.dst=some d/\d<E.n/\∀S',Agree S S' o->jI P r E o S' (S'.put d x)
theorem AOp.step {x:AV} (h:AOp P r E S o d x):jI P r E o S (S.put d x):=h.2.2 S ⟨rfl,λ_ _=>rfl⟩
section
theorem yS3 (D:d<E.n):AOp P r E S ⟨some d,.move x,ty,pos,af,g⟩ d (S.ev x):=
 ⟨rfl,D,λS' h=>by have:=yE9 (P:=P) (r:=r) (S:=S') (x:=x) (ty:=ty) (pos:=pos) (af:=af) (g:=g) D;rwa [h.ev (by simp[Op.operands])] at this⟩
theorem yJJ (D:d<E.n):AOp P r E S ⟨some d,.assign x,ty,pos,af,g⟩ d (S.ev x):=
 ⟨rfl,D,λS' h=>by have:=z5K (P:=P) (r:=r) (S:=S') (x:=x) (ty:=ty) (pos:=pos) (af:=af) (g:=g) D;rwa [h.ev (by simp[Op.operands])] at this⟩
section ints
variable {a b:Int} (hn:d<E.n) (hx:S.ev x= .d (.v (.int k a))) (hy:S.ev y= .d (.v (.int k b)))
include hn hx hy
theorem zW7:AOp P r E S ⟨some d,.binOp .lss tx x y tz,ty,pos,af,g⟩ d (.d (.v (.bool (decide (a<b))))):=
 ⟨rfl,hn,λ_ h=>yI8 hn ((h.ev (by simp[Op.operands])).trans hx) ((h.ev (by simp[Op.operands])).trans hy)⟩
theorem zQR:AOp P r E S ⟨some d,.binOp .leq tx x y tz,ty,pos,af,g⟩ d (.d (.v (.bool (decide (a<=b))))):=
 ⟨rfl,hn,λ_ h=>yI9 hn ((h.ev (by simp[Op.operands])).trans hx) ((h.ev (by simp[Op.operands])).trans hy)⟩
theorem z0R:AOp P r E S ⟨some d,.binOp .gtr tx x y tz,ty,pos,af,g⟩ d (.d (.v (.bool (decide (b<a))))):=
 ⟨rfl,hn,λ_ h=>yJA hn ((h.ev (by simp[Op.operands])).trans hx) ((h.ev (by simp[Op.operands])).trans hy)⟩
theorem yCT:AOp P r E S ⟨some d,.binOp .geq tx x y tz,ty,pos,af,g⟩ d (.d (.v (.bool (decide (b<=a))))):=
 ⟨rfl,hn,λ_ h=>yJB hn ((h.ev (by simp[Op.operands])).trans hx) ((h.ev (by simp[Op.operands])).trans hy)⟩
theorem zW8:AOp P r E S ⟨some d,.binOp .eql tx x y tz,ty,pos,af,g⟩ d (.d (.v (.bool (decide (a=b))))):=
 ⟨rfl,hn,λ_ h=>yJC hn ((h.ev (by simp[Op.operands])).trans hx) ((h.ev (by simp[Op.operands])).trans hy)⟩
theorem z0S:AOp P r E S ⟨some d,.binOp .neq tx x y tz,ty,pos,af,g⟩ d (.d (.v (.bool (!decide (a=b))))):=
 ⟨rfl,hn,λ_ h=>yJD hn ((h.ev (by simp[Op.operands])).trans hx) ((h.ev (by simp[Op.operands])).trans hy)⟩
end ints
theorem yWA {a:Int} (D:d<E.n) (H:S.ev x= .d (.v (.int k a))) (O:S.ev y= .d (.v (.int k' (m:Int))))
  (G:m<=k.bits):AOp P r E S ⟨some d,.binOp .shr tx x y tz,ty,pos,af,g⟩ d (.d (.v (.int k (a/2 ^ m)))):=
 ⟨rfl,D,λ_ h=>yJE D ((h.ev (by simp[Op.operands])).trans H) ((h.ev (by simp[Op.operands])).trans O) G⟩
theorem zQS (D:d<E.n) (G:S.ev x= .d (.v (.bool b))):AOp P r E S ⟨some d,.unOp .not tx x,ty,pos,af,g⟩ d (.d (.v (.bool (!b)))):=
 ⟨rfl,D,λ_ h=>yJF D ((h.ev (by simp[Op.operands])).trans G)⟩
theorem zHZ {c:Operand} (D:d<E.n) (G:S.ev c= .d (.v (.bool b))) (H:S.get t= .cond b (.d (.v (.bool b')))):
  AOp P r E S ⟨some d,.pick c (.tmp t) (.const (.bool false)),ty,pos,af,g⟩ d (.d (.v (.bool (b&&b')))):=
 ⟨rfl,D,λ_ h=>zZC D ((h.ev (by simp[Op.operands])).trans G) ((h.get t (by simp[Op.operands])).trans H)⟩
theorem zTT {c:Operand} (D:d<E.n) (G:S.ev c= .d (.v (.bool b))) (H:S.get t= .cond (!b) (.d (.v (.bool b')))):
  AOp P r E S ⟨some d,.pick c (.const (.bool true)) (.tmp t),ty,pos,af,g⟩ d (.d (.v (.bool (b ||b')))):=
 ⟨rfl,D,λ_ h=>z2D D ((h.ev (by simp[Op.operands])).trans G) ((h.get t (by simp[Op.operands])).trans H)⟩
section strs
variable {a b:ByteArray} (hn:d<E.n) (hx:S.ev x= .d (.v (.string a))) (hy:S.ev y= .d (.v (.string b)))
include hn hx hy
theorem yS4:AOp P r E S ⟨some d,.binOp .eql tx x y tz,ty,pos,af,g⟩ d (.d (.v (.bool (a.toList==b.toList)))):=
 ⟨rfl,hn,λ_ h=>yFA hn ((h.ev (by simp[Op.operands])).trans hx) ((h.ev (by simp[Op.operands])).trans hy)⟩
theorem yS5:AOp P r E S ⟨some d,.binOp .neq tx x y tz,ty,pos,af,g⟩ d (.d (.v (.bool (!(a.toList==b.toList))))):=
 ⟨rfl,hn,λ_ h=>yFB hn ((h.ev (by simp[Op.operands])).trans hx) ((h.ev (by simp[Op.operands])).trans hy)⟩
theorem yS6:AOp P r E S ⟨some d,.binOp .lss tx x y tz,ty,pos,af,g⟩ d (.d (.v (.bool (Op.bytesLess a.toList b.toList)))):=
 ⟨rfl,hn,λ_ h=>yFC hn ((h.ev (by simp[Op.operands])).trans hx) ((h.ev (by simp[Op.operands])).trans hy)⟩
end strs
theorem z92 {a:Int} {G td:TypeId} {ds:TypeDesc} (D:d<E.n) (O:P.underlying G=some ds) (H:P.underlying td=some (.int k')) (T:S.ev x= .d (.v (.int k a))):
  AOp P r E S ⟨some d,.convert G td x,ty,pos,af,g⟩ d (.d (.v (.int k' (k'.wrap a)))):=
 ⟨rfl,D,λ_ h=>zZD D O H ((h.ev (by simp[Op.operands])).trans T)⟩
theorem zPM {ds:List DV} {e:DV} (D:d<E.n) (G:S.ev x= .tup ds) (hi:ds[i]? =some e):AOp P r E S ⟨some d,.extract x i,ty,pos,af,g⟩ d (.d e):=
 ⟨rfl,D,λ_ h=>z2E D ((h.ev (by simp[Op.operands])).trans G) hi⟩
theorem yOM {size:Nat} (D:d<E.n) (G:SlTy P t e size bytes z) (O:S.ev x= .d (.sl size cells)) (H:cells.length=n*size):
  AOp P r E S ⟨some d,.call {callee:= .builtin .len,args:= #[x],argTypes:= #[t]},ty,pos,af,g⟩ d (.d (.v (.int .i64 n))):=
 ⟨rfl,D,λ_ h=>z90 D G ((h.ev (by simp[Op.operands,Call.operands])).trans O) H⟩
theorem z0T {size:Nat} {id:Nat} (D:d<E.n) (G:SlTy P t e size bytes z) (O:S.ev x= .row id) (hb:S.blk id= .row e size sh cells) (H:cells.length=n*size):
  AOp P r E S ⟨some d,.call {callee:= .builtin .len,args:= #[x],argTypes:= #[t]},ty,pos,af,g⟩ d (.d (.v (.int .i64 n))):=
 ⟨rfl,D,λ_ h=>z2F D G ((h.ev (by simp[Op.operands,Call.operands])).trans O) ((h.blk id).trans hb) H⟩
theorem yFH {t e:TypeId} {A:Option Addr} (D:d<E.n) (G:P.underlying t=some (.slice e)) (H:S.ev x= .d (.v (.slice A n c))):
  AOp P r E S ⟨some d,.call {callee:= .builtin .len,args:= #[x],argTypes:= #[t]},ty,pos,af,g⟩ d (.d (.v (.int .i64 n))):=
 ⟨rfl,D,λ_ h=>z2G D G ((h.ev (by simp[Op.operands,Call.operands])).trans H)⟩
theorem yFI {t:TypeId} {s:ByteArray} (D:d<E.n) (G:P.underlying t=some .string) (H:S.ev x= .d (.v (.string s))):
  AOp P r E S ⟨some d,.call {callee:= .builtin .len,args:= #[x],argTypes:= #[t]},ty,pos,af,g⟩ d (.d (.v (.int .i64 s.size))):=
 ⟨rfl,D,λ_ h=>z2H D G ((h.ev (by simp[Op.operands,Call.operands])).trans H)⟩
theorem yFJ {size:Nat} {k:Nat} {i:Int} (G:d<E.n) (H:SlTy P t e size bytes z) (Z:S.ev x= .d (.sl size cells))
  (hi:S.ev ix= .d (.v (.int kk i))) (O:i=(k:Int)) (T:cells.length=n*size) (D:k<n):
  AOp P r E S ⟨some d,.indexAddr t x ix,ty,pos,af,g⟩ d (.ip cells (k*size)):=
 ⟨rfl,G,λ_ h=>z2I G H ((h.ev (by simp[Op.operands])).trans Z) ((h.ev (by simp[Op.operands])).trans hi) O T D⟩
theorem z5P {size:Nat} {id:Nat} {k:Nat} {i:Int} (G:d<E.n) (H:SlTy P t e size bytes z) (Z:S.ev x= .row id)
  (hb:S.blk id= .row e size sh cells) (hi:S.ev ix= .d (.v (.int kk i))) (O:i=(k:Int)) (T:cells.length=n*size) (D:k<n):
  AOp P r E S ⟨some d,.indexAddr t x ix,ty,pos,af,g⟩ d (.ptr id (k*size)):=
 ⟨rfl,G,λ_ h=>zWY G H ((h.ev (by simp[Op.operands])).trans Z) ((h.blk id).trans hb) ((h.ev (by simp[Op.operands])).trans hi) O T D⟩
theorem yV {t:TypeId} {e:DV} (D:d<E.n) (G:OneTy P t) (O:S.ev x= .ip cells off) (H:cells[off]? =some e):
  AOp P r E S ⟨some d,.load t x,ty,pos,af,g⟩ d (.d e):=
 ⟨rfl,D,λ_ h=>z2J D G ((h.ev (by simp[Op.operands])).trans O) H⟩
theorem zGH (D:d<E.n) (G:AggTy P t n) (T:S.ev x= .ip cells off) (H:(cells.drop off).take n=es) (O:es.length=n):
  AOp P r E S ⟨some d,.load t x,ty,pos,af,g⟩ d (.d (.agg es)):=
 ⟨rfl,D,λ_ h=>zZE D G ((h.ev (by simp[Op.operands])).trans T) H O⟩
theorem wY {t:TypeId} {id:Nat} {cells:List AV} (D:d<E.n) (G:OneTy P t) (O:S.ev x= .ptr id off) (hb:S.blk id= .box eb cells) (H:cells[off]? =some av):
  AOp P r E S ⟨some d,.load t x,ty,pos,af,g⟩ d av:=
 ⟨rfl,D,λ_ h=>zQN D G ((h.ev (by simp[Op.operands])).trans O) ((h.blk id).trans hb) H⟩
theorem z93 {t:TypeId} {id size:Nat} {y:DV} (D:d<E.n) (G:OneTy P t) (O:S.ev x= .ptr id off) (hb:S.blk id= .row e size sh cells) (H:cells[off]? =some y):
  AOp P r E S ⟨some d,.load t x,ty,pos,af,g⟩ d (.d y):=
 ⟨rfl,D,λ_ h=>zZF D G ((h.ev (by simp[Op.operands])).trans O) ((h.blk id).trans hb) H⟩
theorem z5Q {id size:Nat} (D:d<E.n) (G:AggTy P t n) (T:S.ev x= .ptr id off) (hb:S.blk id= .row e size sh cells)
  (H:(cells.drop off).take n=es) (O:es.length=n):AOp P r E S ⟨some d,.load t x,ty,pos,af,g⟩ d (.d (.agg es)):=
 ⟨rfl,D,λ_ h=>zWZ D G ((h.ev (by simp[Op.operands])).trans T) ((h.blk id).trans hb) H O⟩
def unD:List AV->Option (List DV)
 | []=>some []
 | .d x::r=>match unD r with
  | some ys=>some (x::ys)
  | none=>none
 | _::_=>none
theorem zFT (S:AState):∀{l:List AV} {ds:List DV},unD l=some ds->S.dvL l=some ds/\S.shareL l=S
 | [],ds,h=>by simp[unD] at h;subst h;exact⟨rfl,rfl⟩
 | .d x::l,ds,h=>by
  simp only[unD] at h;cases D:unD l with
  | none=>simp[D] at h
  | some ys=>
   simp[D] at h;subst h;obtain⟨G,H⟩:=zFT S D;exact⟨by simp[AState.dvL,AState.dv,G],by simpa[AState.shareL,AState.shareAV] using H⟩
 | .top::_,_,h=>by simp[unD] at h
 | .row _::_,_,h=>by simp[unD] at h
 | .ptr _ _::_,_,h=>by simp[unD] at h
 | .ip _ _::_,_,h=>by simp[unD] at h
 | .tup _::_,_,h=>by simp[unD] at h
 | .cond _ _::_,_,h=>by simp[unD] at h
 | .gh _::_,_,h=>by simp[unD] at h
 | .rs _ _ _::_,_,h=>by simp[unD] at h
theorem wA {xs:List Operand} {ds:List DV} (H:d<E.n) (D:unD (xs.map S.ev)=some ds) (Z:zB P f ds rs) (hG:E.gdt=vF P:=by rfl):
  AOp P r E S ⟨some d,.call {callee:= .value (.func f),args:=xs.toArray,argTypes:=ats},ty,pos,af,g⟩ d (zQP rs):=
 ⟨rfl,H,λS' h=>by
  have G:xs.map S'.ev=xs.map S.ev:=fZ λx hx=>h.ev (by simp[Op.operands,Call.operands,hx]);obtain⟨O,T⟩:=zFT S' D;have:=z0M (P:=P) (r:=r) (S:=S') (ty:=ty) (pos:=pos) (af:=af) (g:=g) (ats:=ats) H (by rw[G];exact O) Z hG
  rwa [G,T] at this⟩
def z5R (P:Program) (r:Option Nat) (E:Env) (ops:Array Oper) (o:Oper) (S S':AState):Prop:=
 ∀a w (K:Act->World->Prop) (Q:Exit->Act->World->Prop),Sat E S a w->(∀D w',Sat E S' D w'->K D w')->
  if Region.wanted o (yielded ops a.tmps) then o.wpIn (fen r) 0 P a w K Q else (∀f,o.about P w a.eval=some f->(fen r).fn f)/\K (a.put o.dst undef) w
def z5S (P:Program) (r:Option Nat) (E:Env) (ops:Array Oper) (S:AState) (o:Oper) (d:Nat) (x:AV):Prop:=
 o.dst=some d/\d<E.n/\∀S',S'.blks=S.blks->(∀t∈o.looksAt ops,S'.get t=S.get t)->z5R P r E ops o S' (S'.put d x)
theorem zPN (h:Operand.tmp t∈o.op.operands):t∈o.looksAt ops:=
 List.mem_append_left _ (List.mem_filterMap.2 ⟨.tmp t,by simpa using h,rfl⟩)
theorem zJZ (D:o.guard=none) (h:jI P r E o S S'):z5R P r E ops o S S':=λa w K Q H G=>by simp only[Region.wanted,D,eK];exact h a w K Q H G
theorem z5T {x:AV} (D:o.guard=none) (h:AOp P r E S o d x):z5S P r E ops S o d x:=
 ⟨h.1,h.2.1,λS' hb G=>zJZ D (h.2.2 S' ⟨hb,λt H=>G t (zPN H)⟩)⟩
theorem z5U {c:Bool} {x:AV} (Z:d<E.n) (T:c=true) (h:Sat E (S.put d x) a w):Sat E (S.put d (.cond c x)) a w:=by
 obtain⟨I',G,O,D⟩:=h;refine⟨I',G,O,⟨λu=>?_,D.blks,D.dist,by have:=D.frame;rw[vZ _ _ Z] at this ⊢;exact this,D.sub,D.old,D.size,D.defers,D.cI,D.cB,D.nm⟩⟩
 have:=D.tmps u;rw[wK] at this ⊢;by_cases e:d=u;simp only[e,eK] at this ⊢;exact⟨λ_=>this,λH=>by rw[T] at H;cases H⟩
 simp only[e,eE] at this ⊢;exact this
theorem z5V {x:AV} (hg:o.guard=some (j,want)) (hj:(ops[j]?).bind (·.dst)=some t) (hd:o.dst=some d) (O:d<E.n) (T:t<E.n)
    (ht:S.get t= .d (.v (.bool b))) (h:gd want b=true->AOp P r E S o d x):z5S P r E ops S o d (.cond (gd want b) x):=by
  refine⟨hd,O,λS' hb hl a w Kn Q hs hk=>?_⟩;obtain⟨I,ρ,C,D⟩:=hs;have ab:t∈o.looksAt ops:=List.mem_append_right _ (by simp[hg,hj]);have hy:=D.yield (ops:=ops) hj ((hl t ab).trans ht) T;have H:Region.wanted o (yielded ops a.tmps)=gd want b:=by
    simp only[Region.wanted,hg,hy];cases want<;>cases b<;>rfl
  rw[H];cases G:gd want b with
  | true=>
    simp only[eK];refine(h G).2.2 S' ⟨hb,λt ht=>hl t (zPN ht)⟩ a w Kn Q ⟨I,ρ,C,D⟩ λa' w' Z=>hk a' w' ?_;rw[G];exact z5U O rfl Z
  | false=>
    simp only[fg,eE];refine⟨λ_ _=>trivial,hk _ _ ?_⟩;rw[hd,G];exact⟨I,ρ,C,D.put O ⟨λhf=>(by cases hf),λ_=>rfl⟩⟩
theorem z0U {c:Bool} {x:AV} (hg:o.guard=some (j,want)) (hj:(ops[j]?).bind (·.dst)=some t) (hd:o.dst=some d) (O:d<E.n) (T:t<E.n)
    (ht:S.get t= .cond c (.d (.v (.bool b)))) (h:(c&&gd want b)=true->AOp P r E S o d x):z5S P r E ops S o d (.cond (c&&gd want b) x):=by
  refine⟨hd,O,λS' hb hl a w Kn Q hs hk=>?_⟩;obtain⟨I,ρ,C,D⟩:=hs;have ab:t∈o.looksAt ops:=List.mem_append_right _ (by simp[hg,hj]);have hy:=D.yield2 (ops:=ops) hj ((hl t ab).trans ht) T;have H:Region.wanted o (yielded ops a.tmps)=(c&&gd want b):=by
    simp only[Region.wanted,hg,hy];cases want<;>cases b<;>cases c<;>rfl
  rw[H];cases G:(c&&gd want b) with
  | true=>
    simp only[eK];refine(h G).2.2 S' ⟨hb,λt ht=>hl t (zPN ht)⟩ a w Kn Q ⟨I,ρ,C,D⟩ λa' w' Z=>hk a' w' ?_;rw[G];exact z5U O rfl Z
  | false=>
    simp only[fg,eE];refine⟨λ_ _=>trivial,hk _ _ ?_⟩;rw[hd,G];exact⟨I,ρ,C,D.put O ⟨λhf=>(by cases hf),λ_=>rfl⟩⟩
def Sq (P:Program) (r:Option Nat) (E:Env) (ops:Array Oper):List Oper->AState->(AState->Prop)->Prop
 | [],S,J=>J S
 | o::rest,S,J=> ∃S',z5R P r E ops o S S'/\Sq P r E ops rest S' J
theorem zF (h:J S):Sq P r E ops [] S J:=h
theorem yS7 {x:AV} (h:z5S P r E ops S o d x) (k:Sq P r E ops rest (S.put d x) J):Sq P r E ops (o::rest) S J:=
 ⟨_,h.2.2 S rfl (λ_ _=>rfl),k⟩
theorem zU (D:o.guard=none) (h:jI P r E o S S') (k:Sq P r E ops rest S' J):Sq P r E ops (o::rest) S J:=
 ⟨_,zJZ D h,k⟩
theorem vH (O:zDZ E S S') (k:Sq P r E ops rest S' J) (D:rest≠[]):Sq P r E ops rest S J:=by
 cases rest with
 | nil=>exact absurd rfl D
 | cons o rest=>
  obtain⟨S2,h,k⟩:=k;exact⟨S2,λa w K Q H G=>h a w K Q (O a w H) G,k⟩
theorem Sq.wp {Q:Exit->Act->World->Prop}:∀(l:List Oper) {S:AState} {J:AState->Prop} (_:Sq P r E ops l S J) (a:Act) (w:World),Sat E S a w->(∀S' D w',J S'->Sat E S' D w'->Q .normal D w')->wpListIn (fen r) 0 P ops Q l a w
 | [],_,_,h,a,w,H,G=>G _ a w h H
 | _::l,_,_,⟨_,h,k⟩,a,w,H,G=>wpListIn_step λK T=>h a w K Q H λD w' O=>T D w' (Sq.wp l k D w' O G)
theorem xM {id:Nat} (h:Sq P r E l.toArray l S (K .normal)):Avc P r E (.region id l.toArray false) K S:=λa w H=>
 wpIn_region_lit (Sq.wp l h a w H λS' _ _ G D=>⟨S',G,D⟩)
end
def aft (o:Oper):List Nat:=(o.after.toList.filter λe=>Region.binds .any e).map (·.on)
def clo:List Oper->List (List Nat)->List (List Nat)
 | [],D=>D
 | o::l,D=>clo l (D++ [((aft o).flatMap λj=>j::D.getD j []).eraseDups])
inductive Reach (l:List Oper):Nat->Nat->Prop
 | one {i j:Nat} {o:Oper} (h:l[i]? =some o) (hj:j∈aft o):Reach l i j
 | more {i k j:Nat} {o:Oper} (h:l[i]? =some o) (hk:k∈aft o) (hr:Reach l k j):Reach l i j
theorem yFK (O:List Oper):∀(l:List Oper) (D:List (List Nat)),(∀(k:Nat) o,l[k]? =some o->O[D.length+k]? =some o)->(∀i j,j∈D.getD i []->Reach O i j)->∀i j,j∈(clo l D).getD i []->Reach O i j:=by
 intro l
 induction l with
 | nil=>intro D _ h i j hj;exact h i j hj
 | cons o l ih=>
  intro D hl G;refine ih _ (λk o' H=>?_) (λi j hj=>?_)
  ·have:=hl (k+1) o' (by simpa using H)
   simp only[d8,gL]
   rwa [show D.length+1+k=D.length+(k+1) by omega]
  ·have Z:O[D.length]? =some o:=by simpa using hl 0 o rfl
   rcases Nat.lt_trichotomy i D.length with T | heq | hgt
   ·have:(D++ [((aft o).flatMap λj=>j::D.getD j []).eraseDups]).getD i []=D.getD i []:=by
     simp[List.getD,eZ T]
    rw[this] at hj;exact G i j hj
   ·subst heq
    have:(D++ [((aft o).flatMap λj=>j::D.getD j []).eraseDups]).getD D.length []=((aft o).flatMap λj=>j::D.getD j []).eraseDups:=by
     simp[List.getD]
    rw[this,List.mem_eraseDups,List.mem_flatMap] at hj;obtain⟨k,H,hj⟩:=hj;rcases eP.1 hj with rfl | hj
    ·exact .one Z H
    ·exact .more Z H (G k j hj)
   ·have:(D++ [((aft o).flatMap λj=>j::D.getD j []).eraseDups]).getD i []= []:=by
     simp only[List.getD];rw[fN (by simp;omega)]
     rfl
    rw[this] at hj;cases hj
def dstAt (l:List Oper) (i:Nat):Option Nat:=(l[i]?).bind (·.dst)
def zW9 (l:List Oper) (N:Nat):Bool:=
 let c:=clo l []
 decide (N<=l.length)&&
 (List.range l.length).all λi=>match l[i]? with
  | none=>true
  | some o=>
   ((aft o).all λj=>decide (j<i))&&
   (if i<N then
    ((o.looksAt l.toArray).all λt=>(List.range N).all λj=>(Nat.beq j i ||(dstAt l j != some t)) ||(if j<i then (c.getD i []).contains j else (c.getD j []).contains i))&&
    ((List.range N).all λj=>Nat.beq j i ||(dstAt l j != o.dst))
   else (List.range i).all λj=>(c.getD i []).contains j)
structure DrawOk (l:List Oper) (N:Nat):Prop where
 le:N<=l.length
 aft:∀i o,l[i]? =some o->∀j∈aft o,j<i
 looks:∀i o,i<N->l[i]? =some o->∀t∈o.looksAt l.toArray,∀j,j<N->j≠i->dstAt l j=some t->if j<i then Reach l i j else Reach l j i
 dist:∀i o,i<N->l[i]? =some o->∀j,j<N->j≠i->dstAt l j≠o.dst
 tail:∀i o,N<=i->l[i]? =some o->∀j,j<i->Reach l i j
theorem zU3 (h:zW9 l N=true):DrawOk l N:=by
 have Z:∀i j,j∈(clo l []).getD i []->Reach l i j:=yFK l l [] (λk o hk=>by simpa using hk) (λi j G=>by simp at G);simp only[zW9,eC,d7,eO,fQ] at h;obtain⟨aa,h⟩:=h;have hi:∀(i:Nat) o,l[i]? =some o->i<l.length:=λi o D=>(dV.1 D).1;refine⟨aa,λi o D j G=>?_,λi o T D t ht j G H hd=>?_,λi o T D j G H=>?_,λi o T D j G=>?_⟩;have:=h i (hi i o D);simp only[D,eC,eO,d7] at this;exact this.1 j G;have:=h i (hi i o D);simp only[D,eC,eO,d7,T,eK,fQ,gQ,iN] at this;have h2:=this.2.1 t ht j G;rcases h2 with (h2 | h2) | h2
 exact absurd h2 H;rw[hd] at h2;simp at h2;by_cases O:j<i;simp only[O,eK] at h2 ⊢;exact Z i j (by simpa using h2);simp only[O,eE] at h2 ⊢;exact Z j i (by simpa using h2);have:=h i (hi i o D);simp only[D,eC,eO,d7,T,eK,fQ,gQ,iN] at this;rcases this.2.2 j G with h2 | h2
 exact absurd h2 H;simpa using h2;have:=h i (hi i o D);have hn:¬i<N:=by omega
 simp only[D,eC,eO,d7,hn,eE,fQ] at this;exact Z i j (by simpa using this.2 j G)
def DA (P:Program) (r:Option Nat) (E:Env) (ops:Array Oper):List Oper->AState->(AState->Prop)->Prop
 | [],S,J=>J S
 | o::rest,S,J=> ∃d x,z5S P r E ops S o d x/\DA P r E ops rest (S.put d x) J
section
theorem wZ (h:J S):DA P r E ops [] S J:=h
theorem yS8 {x:AV} (h:z5S P r E ops S o d x) (k:DA P r E ops rest (S.put d x) J):DA P r E ops (o::rest) S J:=⟨d,x,h,k⟩
def zTU (S:AState):List (Nat×AV)->AState
 | []=>S
 | p::ps=>zTU (S.put p.1 p.2) ps
theorem zTV (S:AState) (ps:List (Nat×AV)):(zTU S ps).blks=S.blks:=by
 induction ps generalizing S with
 | nil=>rfl
 | cons q ps D=>exact D _
theorem DA.list:∀(l:List Oper) {S:AState} {J:AState->Prop},DA P r E ops l S J->
  ∃ps:List (Nat×AV),ps.length=l.length/\J (zTU S ps)/\∀(i:Nat) o p,l[i]? =some o->ps[i]? =some p->z5S P r E ops (zTU S (ps.take i)) o p.1 p.2
 | [],S,_,h=>⟨[],rfl,h,by simp⟩
 | o::l,S,_,⟨d,x,h,k⟩=>by
  obtain⟨ps,H,O,T⟩:=DA.list l k;refine⟨(d,x)::ps,by simp[H],O,λi Z p D G=>?_⟩;cases i with
  | zero=>simp at D G;subst D;subst G;exact h
  | succ i=>exact T i Z p (by simpa using D) (by simpa using G)
theorem z5W (ps:List (Nat×AV)):∀(S:AState),(∀(i j:Nat) p q,ps[i]? =some p->ps[j]? =some q->i≠j->p.1≠q.1)->
  (∀(i:Nat) p,ps[i]? =some p->(zTU S ps).get p.1=p.2)/\∀t,(∀(i:Nat) p,ps[i]? =some p->p.1≠t)->(zTU S ps).get t=S.get t:=by
 induction ps with
 | nil=>intro S _;exact⟨by simp,λt _=>rfl⟩
 | cons q ps ih=>
  intro S O;have G:∀(i j:Nat) p q,ps[i]? =some p->ps[j]? =some q->i≠j->p.1≠q.1:=λi j p q D hq aa=>O (i+1) (j+1) p q (by simpa using D) (by simpa using hq) (by omega);obtain⟨Z,H⟩:=ih (S.put q.1 q.2) G;refine⟨λi p D=>?_,λt T=>?_⟩
  ·cases i with
   | zero=>
    simp at D;subst D;show (zTU (S.put q.1 q.2) ps).get q.1=q.2;rw[H q.1 (λi p D=>O (i+1) 0 p q (by simpa using D) rfl (by omega)),wK];simp
   | succ i=>exact Z i p (by simpa using D)
  ·show (zTU (S.put q.1 q.2) ps).get t=S.get t
   rw[H t (λi p D=>T (i+1) p (by simpa using D)),wK,dU (T 0 q rfl)]
theorem z0V (hb:S'.blks=S.blks) (O:∀t,S'.get t=S.get t) (h:Sat E S a w):Sat E S' a w:=by
 obtain⟨I,ρ,C,h⟩:=h;have D:∀i,S'.blk i=S.blk i:=λi=>by unfold AState.blk;rw[hb]
 exact⟨I,ρ,C,⟨λt=>by rw[O];exact h.tmps t,λi=>by rw[D];exact h.blks i,λi i' b T hi H=>h.dist i i' b T (by rw[<-D];exact hi) (by rw[<-D];exact H),by have:=h.frame;unfold AState.ghost at this ⊢;rw[O];exact this,h.sub,h.old,h.size,h.defers,h.cI,λi b hi G=>h.cB i b (by rw[<-D];exact hi) G,λi v Z hi=>h.nm i v Z (by rw[<-D];exact hi)⟩⟩
theorem zXA (h:Sat E S a w):Sat E S a {w with drawn:=w.drawn+1}:=by obtain⟨I,ρ,C,h⟩:=h;exact⟨I,ρ,C,h.grow (Below.drew (Below.refl _ _))⟩
structure Lst (S:AState) (ps:List (Nat×AV)) (L:Nat->Bool) (S':AState):Prop where
 blks:S'.blks=S.blks
 yes:∀(i:Nat) p,ps[i]? =some p->L i=true->S'.get p.1=p.2
 no:∀t,(∀(i:Nat) p,ps[i]? =some p->L i=true->p.1≠t)->S'.get t=S.get t
def unl (listed:Array Bool):Nat:=(listed.toList.filter (λb=>!b)).length
theorem yCU (h:listed[i]? =some false):unl (listed.setIfInBounds i true)+1=unl listed:=by
 obtain⟨H,Z⟩:=dX.1 h;unfold unl;rw[Array.toList_setIfInBounds];have G:i<listed.toList.length:=by simpa using H
 have D:listed.toList=listed.toList.take i++false::listed.toList.drop (i+1):=by
  have T:listed.toList[i]=false:=by simpa using Z
  have O:listed.toList.drop i=listed.toList[i]::listed.toList.drop (i+1):=eA G;rw[T] at O;rw[<-O,fh]
 rw[hQ,eG G]
 conv=>rhs;rw[D]
 simp;omega
theorem zDP (h:i∈Region.ready .any l.toArray listed):
  i<l.length/\listed.getD i true=false/\∀o,l[i]? =some o->∀j∈aft o,listed.getD j false=true:=by
 simp only[Region.ready,fX,fQ,eC,fG,gO] at h;obtain⟨G,H,h3⟩:=h;refine⟨G,H,λo T j D=>?_⟩;simp only[fJ,T,gJ,iU,Array.all_eq_true_iff_forall_mem,gQ,fG] at h3;simp only[aft,fL,fX] at D;obtain⟨e,⟨O,hb⟩,rfl⟩:=D;rcases h3 e (by simpa using O) with h3 | h3
 ·rw[hb] at h3;cases h3
 ·exact h3
theorem zXB (D:l[i]? =some o) (G:listed.getD i true=false) (H:∀j∈aft o,listed.getD j false=true):
  i∈Region.ready .any l.toArray listed:=by
 simp only[Region.ready,fX,fQ,eC,fG,gO];refine⟨(dV.1 D).1,G,?_⟩;simp only[fJ,D,gJ,iU,Array.all_eq_true_iff_forall_mem,gQ,fG];intro e O;cases hb:Region.binds .any e with
 | false=>exact .inl rfl
 | true=>exact .inr (H e.on (by simp only[aft,fL,fX];exact⟨e,⟨by simpa using O,hb⟩,rfl⟩))
structure Down (l:List Oper) (listed:Array Bool):Prop where
 size:listed.size=l.length
 down:∀(i:Nat) o,l[i]? =some o->listed.getD i false=true->∀j∈aft o,listed.getD j false=true
theorem Down.reach (h:Down l listed) (Z:Reach l i j) (hi:∀o,l[i]? =some o->∀k∈aft o,listed.getD k false=true):listed.getD j false=true:=by
 induction Z with
 | one G O=>exact hi _ G _ O
 | more G T _ ih=>exact ih λo' H k' D=>h.down _ o' H (hi _ G _ T) k' D
theorem Down.set (h:Down l listed) (hi:∀o,l[i]? =some o->∀k∈aft o,listed.getD k false=true):Down l (listed.setIfInBounds i true):=by
 have mono:∀k,listed.getD k false=true->(listed.setIfInBounds i true).getD k false=true:=by
  intro k D;simp only[dZ] at D ⊢;by_cases e:i=k;subst e;by_cases H:i<listed.size;simp[H];simp[H] at D;rw[eX e];exact D
 refine⟨by simp[h.size],λj o O G k D=>mono k ?_⟩;by_cases e:i=j;subst e;exact hi o O k D;refine h.down j o O ?_ k D;simp only[dZ] at G ⊢
 rwa [eX e] at G
theorem zLY {k:Nat} (hi:i<listed.size):(listed.setIfInBounds i true).getD k false=(if i=k then true else listed.getD k false):=by simp only[dZ];by_cases e:i=k;subst e;simp[hi];rw[eX e,dU e]
theorem zTW (H:DrawOk l N) (Z:listed.size=l.length) (h:Region.ready .any l.toArray listed= []):∀i,i<l.length->listed.getD i false=true:=by
 intro i
 induction i using Nat.strongRecOn with
 | _ i ih=>
  intro hi;cases hb:listed.getD i false with
  | true=>rfl
  | false=>
   exfalso;have G:i<listed.size:=by omega
   have O:listed.getD i true=false:=by simpa[dZ,G] using hb
   have:=zXB (l:=l) (o:=l[i]) (dT hi) O (λj T=>by
    have D:=H.aft i _ (dT hi) j T;exact ih j D (by omega))
   rw[h] at this;cases this
theorem zXC (h:unl listed=0):∀i,i<listed.size->listed.getD i false=true:=by intro i hi;unfold unl at h;have:=dQ h;rw[i5] at this;have D:=this listed[i] (by simp);simp[dZ,hi];simpa using D
theorem zTX (h:∀i,i<l.length->listed.getD i false=true) (O:listed.size=l.length):Region.ready .any l.toArray listed= []:=by
 apply ir.2;intro i hi;obtain⟨H,D,_⟩:=zDP hi;have:=h i H;have G:i<listed.size:=by omega
 simp[dZ,G] at this D;rw[this] at D;cases D
variable {Q:Exit->Act->World->Prop}
theorem yJL (ah:DrawOk l N) (hq:∀S' a' w',J S'->Sat E S' a' w'->Q .normal a' w'):
  ∀(fuel m:Nat) (listed:Array Bool) (S:AState) (a:Act) (w:World),N<=m->Down l listed->unl listed<=fuel->(∀i,i<l.length->(listed.getD i false=true↔i<m))->
   Sq P r E l.toArray (l.drop m) S J->Sat E S a w->wpAnyIn (fen r) 0 P .any l.toArray Q fuel listed a w:=by
 intro fuel
 induction fuel with
 | zero=>
  intro m listed S a w hm O hu hL D hs;have G:∀i,i<l.length->listed.getD i false=true:=λi hi=>zXC (by omega) i (by rw[O.size];exact hi)
  have T:l.length<=m:=by
   rcases gH m l.length with h | h
   ·have:=(hL m h).1 (G m h);omega
   ·exact h
  rw[eJ T] at D;exact⟨zTX G O.size,hq S a w D hs⟩
 | succ fuel ih=>
  intro m listed S a w hm O hu hL D hs;refine⟨λag=>?_,λi hi=>?_⟩
  ·have G:=zTW ah O.size ag
   have T:l.length<=m:=by
    rcases gH m l.length with h | h
    ·have:=(hL m h).1 (G m h);omega
    ·exact h
   rw[eJ T] at D;exact hq S a w D hs
  ·obtain⟨h1,h2,h3⟩:=zDP hi
   have H:i<listed.size:=by rw[O.size];exact h1
   have ad:=dT h1;have ab:listed.getD i false=false:=by simpa[dZ,H] using h2
   have ar:m<=i:=by
    rcases gH i m with h | h
    ·have:=(hL i h1).2 h;rw[ab] at this;cases this
    ·exact h
   have ac:i=m:=by
    rcases gH m i with h | h
    ·have hr:=ah.tail i _ (by omega) ad m h
     have:=O.reach hr h3;have:=(hL m (by omega)).1 this;omega
    ·omega
   subst ac;rw[eA h1] at D;obtain⟨S',Z,ai⟩:=D;have am:listed[i]? =some false:=by
    have:listed[i]=false:=by simpa[dZ,H] using ab
    rw[gC H,this]
   unfold wpOpIn;simp only[fJ,ad];refine Z a w _ Q hs λa' w' an=>?_;refine ih (i+1) _ S' a' w' (by omega) (O.set h3) (by have:=yCU am;omega) (λk hk=>?_) ai an
   rw[zLY H];by_cases e:i=k
   ·subst e;simp
   ·simp only[e,eE]
    rw[hL k hk];omega
theorem z0W (ap:DrawOk l N) (S:AState) (ps:List (Nat×AV)) (cd:ps.length=N)
  (hA:∀(i:Nat) o p,i<N->l[i]? =some o->ps[i]? =some p->z5S P r E l.toArray (zTU S (ps.take i)) o p.1 p.2)
  (hT:∀(fuel:Nat) (listed:Array Bool) (a:Act) (w:World),Down l listed->unl listed<=fuel->(∀i,i<l.length->(listed.getD i false=true↔i<N))->Sat E (zTU S ps) a w->wpAnyIn (fen r) 0 P .any l.toArray Q fuel listed a w):
  ∀(fuel:Nat) (listed:Array Bool) (S':AState) (a:Act) (w:World),Down l listed->unl listed<=fuel->(∀i,N<=i->i<l.length->listed.getD i false=false)->
   Lst S ps (λi=>listed.getD i false) S'->Sat E S' a w->wpAnyIn (fen r) 0 P .any l.toArray Q fuel listed a w:=by
 have cp:=ap.le;have ab:∀(i:Nat) p,ps[i]? =some p->∃o,l[i]? =some o/\i<N/\o.dst=some p.1:=by
  intro i p O;have hi:i<N:=by rw[<-cd];exact(dV.1 O).1
  have ad:=dT (l:=l) (i:=i) (by omega);exact⟨_,ad,hi,(hA i _ p hi ad O).1⟩
 have H:∀(i j:Nat) p q,ps[i]? =some p->ps[j]? =some q->i≠j->p.1≠q.1:=by
  intro i j p q O al ba he;obtain⟨o,ho,hi,hd⟩:=ab i p O;obtain⟨o',bb,hj,br⟩:=ab j q al;refine ap.dist i o hi ho j hj (λe=>ba e.symm) ?_;simp only[dstAt,bb,Option.bind_some,br,hd,he]
 have aw:∀S',Lst S ps (λ_=>true) S'->∀t,S'.get t=(zTU S ps).get t:=by
  intro S' h t;obtain⟨g1,g2⟩:=z5W ps S H;by_cases am:∃(i:Nat) (p:Nat×AV),ps[i]? =some p/\p.1=t
  ·obtain⟨i,p,O,rfl⟩:=am
   rw[h.yes i p O rfl,g1 i p O]
  ·have ao:∀(i:Nat) p,ps[i]? =some p->p.1≠t:=λi p O e=>am ⟨i,p,O,e⟩
   rw[h.no t (λi p O _=>ao i p O),g2 t ao]
 intro fuel
 induction fuel with
 | zero=>
  intro listed S' a w hd hu hN hL hs;have G:∀i,i<l.length->listed.getD i false=true:=λi hi=>zXC (by omega) i (by rw[hd.size];exact hi)
  have bo:N=l.length:=by
   rcases gH N l.length with h | h
   ·have:=hN N (d9 _) h;rw[G N h] at this;cases this
   ·omega
  refine hT 0 listed a w hd hu (λi hi=>⟨λ_=>by omega,λ_=>G i hi⟩) (z0V (by rw[zTV,hL.blks]) (λt=>(aw S' ⟨hL.blks,λi p O _=>hL.yes i p O ?_,λt ht=>hL.no t λi p O _=>ht i p O rfl⟩ t).symm) hs);exact G i (by obtain⟨_,_,h,_⟩:=ab i p O;omega)
 | succ fuel ih=>
  intro listed S' a w hd hu hN hL hs;have ak:(∀i,i<N->listed.getD i false=true)->Sat E (zTU S ps) a w:=λh=>
   z0V (by rw[zTV,hL.blks]) (λt=>(aw S' ⟨hL.blks,λi p O _=>hL.yes i p O (h i (ab i p O).choose_spec.2.1),λt ht=>hL.no t λi p O _=>ht i p O rfl⟩ t).symm) hs
  refine⟨λax=>?_,λi hi=>?_⟩
  ·have G:=zTW ap hd.size ax
   have bo:N=l.length:=by
    rcases gH N l.length with h | h
    ·have:=hN N (d9 _) h;rw[G N h] at this;cases this
    ·omega
   have aq:=ak λi hi=>G i (by omega);exact(hT (fuel+1) listed a w hd hu (λi hi=>⟨λ_=>by omega,λ_=>G i hi⟩) aq).1 ax
  ·obtain⟨h1,h2,h3⟩:=zDP hi
   have ah:i<listed.size:=by rw[hd.size];exact h1
   have ad:=dT h1;have az:listed.getD i false=false:=by simpa[dZ,ah] using h2
   have bx:listed[i]? =some false:=by
    have:listed[i]=false:=by simpa[dZ,ah] using az
    rw[gC ah,this]
   by_cases bi:i<N
   ·have cc:i<ps.length:=by omega
    have O:=dT cc;obtain⟨ck,cm,bc⟩:=hA i _ _ bi ad O;have bq:∀t∈(l[i]).looksAt l.toArray,S'.get t=(zTU S (ps.take i)).get t:=by
     intro t ht;have ar:∀(a b:Nat) p q,(ps.take i)[a]? =some p->(ps.take i)[b]? =some q->a≠b->p.1≠q.1:=by
      intro a b p q O al ba;rw[ft] at O al;split at O
      ·split at al
       ·exact H a b p q O al ba
       ·cases al
      ·cases O
     obtain⟨g1,g2⟩:=z5W (ps.take i) S ar;have T:∀(k:Nat) p,(ps.take i)[k]? =some p->k<i/\ps[k]? =some p:=by
      intro k p D;rw[ft] at D;split at D
      ·exact⟨by assumption,D⟩
      ·cases D
     by_cases am:∃(j:Nat) (q:Nat×AV),ps[j]? =some q/\q.1=t
     ·obtain⟨j,q,ai,rfl⟩:=am
      obtain⟨o',bb,bu,bt⟩:=ab j q ai;have bh:dstAt l j=some q.1:=by simp[dstAt,bb,bt]
      by_cases bj:j=i
      ·subst bj
       rw[hL.no q.1 (λk p D Z he=>by
         have:k=j:=by
          rcases Nat.decEq k j with h | h
          ·exact absurd he (H k j p q D ai h)
          ·exact h
         subst this;rw[az] at Z;cases Z),
        g2 q.1 (λk p D he=>by
         obtain⟨bv,ag⟩:=T k p D;exact H k j p q ag ai (by omega) he)]
      ·have:=ap.looks i _ bi ad q.1 ht j bu bj bh
       by_cases an:j<i
       ·simp only[an,eK] at this
        have bz:=hd.reach this h3;rw[hL.yes j q ai bz];exact(g1 j q (by rw[ft,eG an];exact ai)).symm
       ·simp only[an,eE] at this
        have ca:listed.getD j false=false:=by
         cases hb:listed.getD j false with
         | false=>rfl
         | true=>
          have:=hd.reach this (λo ho k D=>hd.down j o ho hb k D);rw[az] at this;cases this
        rw[hL.no q.1 (λk p D Z he=>by
          have:k=j:=by
           rcases Nat.decEq k j with h | h
           ·exact absurd he (H k j p q D ai h)
           ·exact h
          subst this;rw[ca] at Z;cases Z),
         g2 q.1 (λk p D he=>by
          obtain⟨bv,ag⟩:=T k p D;exact H k j p q ag ai (by omega) he)]
     ·have ao:∀(k:Nat) p,ps[k]? =some p->p.1≠t:=λk p D e=>am ⟨k,p,D,e⟩
      rw[hL.no t (λk p D _=>ao k p D),g2 t (λk p D=>ao k p (T k p D).2)]
    have aq:=bc S' (by rw[zTV,hL.blks]) bq;unfold wpOpIn;simp only[fJ,ad];refine aq a w _ Q hs λa' w' ce=>?_;refine ih _ (S'.put ps[i].1 ps[i].2) a' w' (hd.set h3) (by have:=yCU bx;omega) (λk D bw=>?_) ⟨hL.blks,λk p D Z=>?_,λt ht=>?_⟩ ce
    ·rw[zLY ah,dU (by omega)];exact hN k D bw
    ·rw[zLY ah] at Z
     rw[wK];by_cases e:i=k
     ·subst e
      rw[O] at D;cases D;simp
     ·simp only[e,eE] at Z
      rw[dU (H i k _ p O D e)];exact hL.yes k p D Z
    ·rw[wK,dU (ht i _ O (by rw[zLY ah];simp))]
     exact hL.no t λk p D Z=>ht k p D (by rw[zLY ah];split<;>simp_all)
   ·have ac:∀k,k<i->listed.getD k false=true:=λk D=>hd.reach (ap.tail i _ (by omega) ad k D) h3
    have ch:i=N:=by
     rcases gH N i with h | h
     ·have:=ac N h;rw[hN N (d9 _) (by omega)] at this;cases this
     ·omega
    have aq:=ak λk D=>ac k (by omega);have be:=hT (fuel+1) listed a w hd hu (λk D=>⟨λag=>(by
      rcases gH k N with h | h
      ·exact h
      ·rw[hN k h D] at ag;cases ag),λag=>ac k (by omega)⟩) aq
    exact be.2 i hi
theorem zD0 {id:Nat} (N:Nat) (hm:P.follows .mixedOrders=true) (G:zW9 l N=true)
  (h:DA P r E l.toArray (l.take N) S (λZ=>Sq P r E l.toArray (l.drop N) Z (K .normal))):Avc P r E (.region id l.toArray true) K S:=by
 intro a w O;have D:=zU3 G;obtain⟨ps,h1,h2,h3⟩:=DA.list _ h;have H:ps.length=N:=by rw[h1,fU];have:=D.le;omega
 refine wpIn_region_any hm (z0W D S ps H (λi o p hi ho hp=>h3 i o p (by rw[ft,eG hi];exact ho) hp) (λfuel listed a w hd hu hl O=>yJL D (J:=K .normal) (λS' a' w' hj T=>⟨S',hj,T⟩) fuel N listed _ a w (d9 _) hd hu hl h2 O) _ _ S a _ ⟨by simp,λi o _ hi=>?_⟩ ?_ (λi _ hi=>by simp[hi]) ⟨rfl,λi p _ hi=>?_,λt _=>rfl⟩ (zXA O))
 ·simp[dZ,iV] at hi
  split at hi<;>simp at hi
 ·simp[unl]
 ·simp[dZ,iV] at hi
  split at hi<;>simp at hi
end
def di (n:Int):DV:= .v (.int .i64 n)
def db (b:Bool):DV:= .v (.bool b)
theorem w64 {n:Int} (D: -9223372036854775808<=n) (G:n<=9223372036854775807):IntKind.i64.wrap n=n:=IntWalk.i64_in _ (by omega)
def Cov (S:AState):List (Nat×AV)->Prop
 | []=>True
 | p::r=>S.get p.1=p.2/\Cov S r
def zQ8 (S:AState):List (Nat×Blk)->Prop
 | []=>True
 | p::r=>S.blk p.1=p.2/\zQ8 S r
theorem zLZ (ht : Cov S S'.tmps) (hb : zQ8 S S'.blks) (hgh : ∀ C w, E.fr S.ghost C w -> E.fr S'.ghost C w := by exact λ_ _ h => h) : zDZ E S S' := by
  have h1 : ∀ l, Cov S l -> ∀ p ∈ l, S.get p.1 = p.2 := by
    intro l
    induction l with
    | nil => intro _ p hp; cases hp
    | cons q l ih => intro h p hp; rcases eP.1 hp with rfl | hp
                     · exact h.1
                     · exact ih h.2 p hp
  have h2 : ∀ l, zQ8 S l -> ∀ p ∈ l, S.blk p.1 = p.2 := by
    intro l
    induction l with
    | nil => intro _ p hp; cases hp
    | cons q l ih => intro h p hp; rcases eP.1 hp with rfl | hp
                     · exact h.1
                     · exact ih h.2 p hp
  exact yOL (λp hp => .inl (h1 _ ht p hp)) (h2 _ hb) hgh
section
theorem zGU {y:AV} (D:d<E.n) (G:S.ev x=y):AOp P r E S ⟨some d,.move x,ty,pos,af,g⟩ d y:=G▸yS3 D
theorem zLA {y:AV} (D:d<E.n) (G:S.ev x=y):AOp P r E S ⟨some d,.assign x,ty,pos,af,g⟩ d y:=G▸yJJ D
theorem kW {y:DV} (D:d<E.n) (G:S.ev x= .d y):AOp P r E S ⟨some d,.move x,ty,pos,af,g⟩ d (.d y):=zGU D G
theorem zGI (D:d<E.n) (G:S.ev x= .row i):AOp P r E S ⟨some d,.move x,ty,pos,af,g⟩ d (.row i):=zGU D G
theorem zMZ {k:Nat} (D:d<E.n) (G:S.ev x= .ptr i k):AOp P r E S ⟨some d,.move x,ty,pos,af,g⟩ d (.ptr i k):=zGU D G
theorem zGJ {c:List DV} (D:d<E.n) (G:S.ev x= .tup c):AOp P r E S ⟨some d,.move x,ty,pos,af,g⟩ d (.tup c):=zGU D G
theorem zJ0 {y:DV} (D:d<E.n) (G:S.ev x= .d y):AOp P r E S ⟨some d,.assign x,ty,pos,af,g⟩ d (.d y):=zLA D G
theorem z2L (D:d<E.n) (G:S.ev x= .row i):AOp P r E S ⟨some d,.assign x,ty,pos,af,g⟩ d (.row i):=zLA D G
theorem zJG {k:Nat} (D:d<E.n) (G:S.ev x= .ptr i k):AOp P r E S ⟨some d,.assign x,ty,pos,af,g⟩ d (.ptr i k):=zLA D G
section
variable {c:Bool} {x:AV}
theorem yON (H:o.guard=some (j,want)) (O:(ops[j]?).bind (·.dst)=some t) (G:o.dst=some d) (T:d<E.n) (D:t<E.n) (Z:S.get t= .d (.v (.bool b)))
    (h:gd want b=true->AOp P r E S o d x) (k:Sq P r E ops rest (S.put d (.cond (gd want b) x)) J):Sq P r E ops (o::rest) S J:=yS7 (z5V H O G T D Z h) k
theorem vI (H:o.guard=some (j,want)) (O:(ops[j]?).bind (·.dst)=some t) (G:o.dst=some d) (T:d<E.n) (D:t<E.n) (Z:S.get t= .cond c (.d (.v (.bool b))))
    (h:(c&&gd want b)=true->AOp P r E S o d x) (k:Sq P r E ops rest (S.put d (.cond (c&&gd want b) x)) J):Sq P r E ops (o::rest) S J:=yS7 (z0U H O G T D Z h) k
theorem yWB (H:o.guard=some (j,want)) (O:(ops[j]?).bind (·.dst)=some t) (G:o.dst=some d) (T:d<E.n) (D:t<E.n) (Z:S.get t= .d (.v (.bool b)))
    (h:gd want b=true->AOp P r E S o d x) (k:DA P r E ops rest (S.put d (.cond (gd want b) x)) J):DA P r E ops (o::rest) S J:=yS8 (z5V H O G T D Z h) k
theorem zFU (H:o.guard=some (j,want)) (O:(ops[j]?).bind (·.dst)=some t) (G:o.dst=some d) (T:d<E.n) (D:t<E.n) (Z:S.get t= .cond c (.d (.v (.bool b))))
    (h:(c&&gd want b)=true->AOp P r E S o d x) (k:DA P r E ops rest (S.put d (.cond (c&&gd want b) x)) J):DA P r E ops (o::rest) S J:=yS8 (z0U H O G T D Z h) k
end
def z5X (P:Program) (r:Option Nat) (E:Env) (y:Code) (K:Exit->AState->Prop):Exit->AState->Prop
 | .normal,S=>Avc P r E y K S
 | e,S=>K e S
theorem zQ {x y:Code} (h:Avc P r E x (z5X P r E y K) S):Avc P r E (.seq x y) K S:=
 yOK λJ G=>zOF h λe S' D=>by
  cases e with
  | normal=>exact G S' D
  | _=>exact D
theorem yH {id:Nat} (G:P.follows .mixedOrders=true) (D:zW9 l l.length=true) (h:DA P r E l.toArray l S (K .normal)):Avc P r E (.region id l.toArray true) K S:=
 zD0 l.length G D (by rw[iD,gR];exact h)
theorem k9 {c:Operand} {x y:Code} (D:S.ev c= .d (.v (.bool b))) (h:(b=true->Avc P r E x K S)/\(b=false->Avc P r E y K S)):Avc P r E (.cond c x y) K S:=
 yJI D h.1 h.2
end
def AState.app (S:AState) (id:Nat) (news:List DV):AState:=S.setBlk id ((S.blk id).appended news)
section
theorem yJM (S:AState) (id:Nat) (news:List DV):(S.kill id).app id news=(S.kill id).setBlk id (zV6 id (S.blk id) |>.appended news):=by unfold AState.app;rw[zJU]
theorem yJN {size:Nat} {id:Nat} (hn:d<E.n) (hT:SlTy P t e size bytes z) (hs:S.ev s= .row id) (hb:S.blk id= .row e size sh cells)
  (hx:S.dv (S.ev x)=some (.sl size news)) (hl:cells.length=n*size) (T:news.length=m*size) (O:0<bytes) (D:(n+m)*bytes<=140737488355328) (hE:E.wrB=true) (Z:E.nm id=none):
  jI P r E ⟨some d,.call {callee:= .builtin .append,args:= #[s,x],argTypes:= #[t,t]},ty,pos,af,g⟩ S ((((S.shareAV (S.ev x)).kill id).app id news).put d (.row id)):=by
 have G:n+m<=maxLen:=by
  have:(n+m)*1<=(n+m)*bytes:=iY _ O;simp only[maxLen];omega
 have:=z5N (P:=P) (r:=r) (ty:=ty) (pos:=pos) (af:=af) (g:=g) hn hT hs hb hx hl T D G hE Z;rw[yJM];obtain⟨ai,H⟩:=zQQ (x:=S.ev x) hb;rw[H] at this ⊢;exact this
theorem z94 {size:Nat} {id:Nat} (hn:d<E.n) (hT:SlTy P t e size bytes z) (hs:S.ev s= .row id) (hb:S.blk id= .row e size sh cells)
  (T:S.ev x= .d (.sl size news)) (hl:cells.length=n*size) (H:news.length=m*size) (G:0<bytes) (D:(n+m)*bytes<=140737488355328) (Z:E.wrB=true) (O:E.nm id=none):
  jI P r E ⟨some d,.call {callee:= .builtin .append,args:= #[s,x],argTypes:= #[t,t]},ty,pos,af,g⟩ S (((S.kill id).app id news).put d (.row id)):=by
 have:=yJN (P:=P) (r:=r) (ty:=ty) (pos:=pos) (af:=af) (g:=g) hn hT hs hb (by rw[T];rfl) hl H G D Z O
 rw[T] at this;exact this
theorem zQT {t:TypeId} {id:Nat} {cells:List AV} (T:OneTy P t) (Z:S.ev x= .ptr id off) (hb:S.blk id= .box eb cells) (D:off<cells.length)
  (G:S.ev y= .d u) (H:(AV.d u).one=true) (O:E.wrB=true):jI P r E ⟨none,.store t x y,ty,pos,af,g⟩ S (S.setBlk id (.box eb (cells.set off (.d u)))):=by
 have:=zJX (P:=P) (r:=r) (E:=E) (ty:=ty) (pos:=pos) (af:=af) (g:=g) (y:=y) T Z hb D (by rw[G];exact H) (by rw[G];rfl) O
 rwa [G] at this
theorem zNL {t:TypeId} {id:Nat} {cells:List AV} (T:OneTy P t) (Z:S.ev x= .ptr id off) (hb:S.blk id= .box eb cells) (D:off<cells.length)
  (G:S.ev y= .row i) (H:zQO S (.row i)=true) (O:E.wrB=true):jI P r E ⟨none,.store t x y,ty,pos,af,g⟩ S (S.setBlk id (.box eb (cells.set off (.row i)))):=by
 have:=zJX (P:=P) (r:=r) (E:=E) (ty:=ty) (pos:=pos) (af:=af) (g:=g) (y:=y) T Z hb D (by rw[G];rfl) (by rw[G];exact H) O
 rwa [G] at this
theorem z95 {xs:List Operand} {D:List AV} {ds:List DV} (T:d<E.n) (H:xs.map S.ev=D) (G:S.dvL D=some ds) (O:zB P f ds rs) (hG:E.gdt=vF P:=by rfl):
  jI P r E ⟨some d,.call {callee:= .value (.func f),args:=xs.toArray,argTypes:=ats},ty,pos,af,g⟩ S ((S.shareL D).put d (zQP rs)):=by
 subst H;exact z0M T G O hG
theorem SatAt.newImm {ρ:Nat->Value} (H:SatAt E S A w I ρ C) {size:Nat} (T:cells.length=n*size) (G:Reps w I xs cells) (h1:∀x∈xs,x.oneCell'=true):
  ∃I':Im,SatAt E S A (w.alloc (.cells xs.toArray e)) I' ρ C/\Rep (w.alloc (.cells xs.toArray e)) I' (.slice (some ⟨w.heap.size,0,none⟩) n n) (.sl size cells):=by
 have O:∀b j,I b j->b<w.heap.size:=λb j h=>(H.old b j h).1;have hg:=H.grow (w':=w.alloc (.cells xs.toArray e)) ((Below.refl _ _).alloc (d9 _) _)
 let I':Im:=λb j=>I b j\/b=w.heap.size
 have D:∀b j,I b j->I' b j:=λ_ _ h=> .inl h;refine⟨I',hg.widen (B:=w.heap.size) D (λb j hi=>?_) (λi b hi hb=>(H.blt i b hi hb).2) (E.size _ _ _ H.frame) (λb hc=>E.csize _ _ _ H.frame b hc),?_⟩
 ·rcases hi with hi | hi
  ·exact⟨by simp;have:=O b j hi;omega,.inl hi⟩
  ·exact⟨by simp;omega,.inr (by omega)⟩
 ·by_cases Z:n=0
  ·subst Z
   have:cells= []:=dQ (by simpa using T);subst this;exact .nil _ _ _
  ·refine .sl _ 0 n n size xs cells (by omega) (d9 _) T G.1 (λj x hj=>⟨?_,.inr rfl⟩) h1 (G.mono (zEU _ O) D).2
   rw[fM,World.cell?_alloc_new];simpa using hj
theorem yJO {size:Nat} {ds:List DV} (hn:d<E.n) (hT:SlTy P t e size bytes z) (H:ps=zBZ 0 (ps.map Prod.snd)) (Z:ps.length=len)
    (O:unD ((ps.map Prod.snd).map S.ev)=some ds) (ak:ds.all (okDV size)=true) (bc:len*size<=16777216):
    jI P r E ⟨some d,.buildSlice t len ps.toArray,ty,pos,af,g⟩ S (S.put d (.d (.sl size (ds.flatMap uA)))):=
  vR (by simp) λA w I ρ C hs=>by
    generalize am:ps.map Prod.snd=xs at H O;obtain⟨ah,ai⟩:=zFT S O;obtain⟨I1,h1,h2,h3⟩:=SatAt.dvL _ hs (v2 hs xs) ah;rw[ai] at h2;obtain⟨a1,a2,a3,a4⟩:=zTS h3 ak;have G:(xs.map A.eval).length=len:=by rw[<-Z,<-am];simp
    have aj:ds.length=len:=by rw[<-h3.1];exact G
    obtain⟨I2,ad,ac⟩:=h2.newImm (e:=e) (size:=size) (n:=len) (by rw[a4,aj]) a1 a2;refine⟨.slice (some ⟨w.heap.size,0,none⟩) len len,_,?_,I2,_,C,ad.put hn ac⟩;obtain⟨i,hi,hz,bb,az⟩:=hT.info;have D:=z5O size (xs.map A.eval) 0 ((Array.range (len*size)).map ((if len*size=0 then (#[]:Array Value) else z.cells)[· % (if len*size=0 then (#[]:Array Value) else z.cells).size]!)) a3 (by simp[<-G]);have aa:ps.toArray.map (λp:Nat×Operand=>(p.1,A.eval p.2))=(zBZ 0 (xs.map A.eval)).toArray:=by
      rw[H,fq,zMY]
    have ab:¬(len*size > 2 ^ 24):=by omega
    simp only[Nat.zero_mul,iT,eN,fM,G] at D;rw[eJ (by simp)] at D;simp only[fm] at D ⊢;simp only[execOp,Instr.buildSlice,dP,eM hT.und,dR,hT.size w,ab,eE,eQ];by_cases h0:len*size=0
    · have T:len=0:=by
        rcases Nat.mul_eq_zero.1 h0 with h | h
        · exact h
        · have:=hT.pos;omega
      have al:xs= []:=dQ (by simpa[T] using G);subst al;subst T;simp[aa,zBZ,Instr.fill,newRow,Array.range_zero']
    · simp only[h0,eE] at D ⊢
      simp[zeroValue,typeInfo,hi,hz,aa,D,newRow]
theorem yCV {size:Nat} {ds:List DV} (Z:d<E.n) (hT:SlTy P t e size bytes z) (G:ps=zBZ 0 (ps.map Prod.snd)) (D:ps.length=len)
  (H:unD ((ps.map Prod.snd).map S.ev)=some ds) (O:ds.all (okDV size)=true) (T:len*size<=16777216) (hc:ds.flatMap uA=cells):
  AOp P r E S ⟨some d,.buildSlice t len ps.toArray,ty,pos,af,g⟩ d (.d (.sl size cells)):=
 ⟨rfl,Z,λS' h=>by
  subst hc;have he:(ps.map Prod.snd).map S'.ev=(ps.map Prod.snd).map S.ev:=fZ λx hx=>h.ev (by simp[Op.operands];simpa using hx)
  exact yJO Z hT G D (by rw[he];exact H) O T⟩
end
def dby (n:Int):DV:= .v (.int .u8 n)
section
theorem yWC {a b:Int} (H:d<E.n) (T:S.ev x= .d (.v (.int k a))) (Z:S.ev y= .d (.v (.int k b))):
  AOp P r E S ⟨some d,.call {callee:= .builtin .min,args:= #[x,y],argTypes:=ats},ty,pos,af,g⟩ d (.d (.v (.int k (min a b)))):=
 ⟨rfl,H,λS' h=>yD rfl H (by simp) λA w I ρ C O=>by
  have D:=(h.ev (x:=x) (by simp[Op.operands,Call.operands])).trans T;have G:=(h.ev (x:=y) (by simp[Op.operands,Call.operands])).trans Z;simp only[execOp,resolve,fq,fp,gE,O.val D,O.val G];simp[invoke,builtin,Builtin.min_,Builtin.min2];split<;>omega⟩
theorem yR2 {a b:Int} (H:d<E.n) (T:S.ev x= .d (.v (.int k a))) (Z:S.ev y= .d (.v (.int k b))):
  AOp P r E S ⟨some d,.call {callee:= .builtin .max,args:= #[x,y],argTypes:=ats},ty,pos,af,g⟩ d (.d (.v (.int k (max a b)))):=
 ⟨rfl,H,λS' h=>yD rfl H (by simp) λA w I ρ C O=>by
  have D:=(h.ev (x:=x) (by simp[Op.operands,Call.operands])).trans T;have G:=(h.ev (x:=y) (by simp[Op.operands,Call.operands])).trans Z;simp only[execOp,resolve,fq,fp,gE,O.val D,O.val G];simp[invoke,builtin,Builtin.max_,Builtin.max2];split<;>omega⟩
theorem yJP {t:TypeId} {s:ByteArray} {k:Nat} {i:Int} (O:d<E.n) (hu:P.underlying t=some .string) (hx:S.ev x= .d (.v (.string s))) (hi:S.ev ix= .d (.v (.int kk i))) (hk:i=(k:Int)) (D:k<s.size):
  AOp P r E S ⟨some d,.index t x ix,ty,pos,af,g⟩ d (.d (.v (.int .u8 (s.data.toList.getD k 0).toNat))):=
 ⟨rfl,O,λS' h=>yD rfl O (by simp) λA w I ρ C T=>by
  subst hk;have H:=(h.ev (x:=x) (by simp[Op.operands])).trans hx;have G:=(h.ev (x:=ix) (by simp[Op.operands])).trans hi;have Z:s[k]? =some (s.data.toList.getD k 0):=by
   have h2:k<s.data.size:=D;have:s[k]? =some s[k]:=by simp[getElem?_pos,D]
   rw[this];simp only[List.getD,Array.getElem?_toList,gC h2];rfl
  simp only[execOp,T.val H,T.val G];simp[Instr.index,asIntOf,eM hu,Z]⟩
theorem z5Y {l:List Int} {e:TypeId} (hs:P.underlying src=some (.slice e)) (Z:P.underlying e=some (.int .u8)) (T:P.underlying dst=some .string) (h:Rep w I v (.sl 1 (l.map dby))):
  (convert src dst v).run P w= .ok (.string (strOfNums l)) w:=by
 obtain⟨A,n,c,xs,rfl,_,hl,G,h1,hc⟩:=Rep.sl_inv h;have ac:xs=l.map (Value.int .u8):=by
  apply hJ;intro j;by_cases hj:j<xs.length
  ·have D:j<(l.map dby).length:=by rw[<-G.1];exact hj
   have:=G.2 j _ _ (dT hj) (dT D);simp only[List.getElem_map] at this;rw[dT hj];generalize xs[j]=u at this;unfold dby at this;cases this;simp only[fO] at D;simp[D]
  ·rw[fN (by omega),fN]
   have:=G.1;simp at this ⊢;omega
 have H:l.length=n:=by simpa using hl
 by_cases h0:n=0
 ·subst h0
  have:l= []:=dQ H;subst this;cases A with
  | none=>rw[run_convert_bytes_nil w src e hs Z 0 c dst T];rfl
  | some a=>
   rw[run_convert_bytes_string w src dst e _ 0 c hs Z T];simp[Conv.bytesToString,loadCells,loadCellsFrom];rfl
 ·obtain⟨b,off,rfl,O⟩:=hc (by omega)
  refine run_convert_bytes_arg w src e hs Z b off n c l H (λi hi=>?_) dst T;refine(O i _ ?_).1;rw[ac];have:i<l.length:=by omega
  simp[List.getD,this]
theorem z2M {e:TypeId} {l:List Int} (H:d<E.n) (Z:P.underlying src=some (.slice e)) (O:P.underlying dst=some .string) (T:P.underlying e=some (.int .u8)) (hx:S.ev x= .d (.sl 1 (l.map dby))):
  AOp P r E S ⟨some d,.convert src dst x,ty,pos,af,g⟩ d (.d (.v (.string (strOfNums l)))):=
 ⟨rfl,H,λS' h=>yD rfl H (by simp) λA w I ρ C D=>by
  have G:=D.ev x;rw[(h.ev (x:=x) (by simp[Op.operands])).trans hx] at G;simp only[execOp,dP,z5Y Z T O G];rfl⟩
theorem zXD {e:TypeId} {id:Nat} {l:List Int} (O:d<E.n) (hs:P.underlying src=some (.slice e)) (T:P.underlying dst=some .string) (Z:P.underlying e=some (.int .u8)) (hx:S.ev x= .row id)
  (hb:S.blk id= .row eb 1 sh (l.map dby)):AOp P r E S ⟨some d,.convert src dst x,ty,pos,af,g⟩ d (.d (.v (.string (strOfNums l)))):=
 ⟨rfl,O,λS' h=>yD rfl O (by simp) λA w I ρ C D=>by
  have H:=D.ev x;rw[(h.ev (x:=x) (by simp[Op.operands])).trans hx] at H;obtain⟨I',_,_,G⟩:=D.shareRow ((h.blk id).trans hb);have hv:A.eval x= ρ id:=H;simp only[execOp,dP,hv,z5Y hs Z T G];rfl⟩
theorem vJ (w:World) (k:IntKind) (i y:Nat) (code:BoundsCode) (h:i<=y):(Instr.sliceBound (.int k i) y code).run P w= .ok i w:=by simp[Instr.sliceBound,asIntOf,h]
structure Bd (S:AState) (n:Nat) (lo hi:Option Operand) (l h:Nat):Prop where
 lo:match lo with
  | none=>l=0
  | some x=> ∃k i,S.ev x= .d (.v (.int k i))/\i=(l:Int)
 hi:match hi with
  | none=>h=n
  | some x=> ∃k i,S.ev x= .d (.v (.int k i))/\i=(h:Int)
 le:l<=h
 len:h<=n
theorem zTY (w:World) {size:Nat} (T:P.underlying t=some (.slice e)) (O:(sizeOf e).run P w= .ok size w) (A:Option Addr) (n c l h:Nat) (lo hi:Option Value) (H:lo=none/\l=0\/∃k,lo=some (.int k l)) (G:hi=none/\h=n\/∃k,hi=some (.int k h))
    (D:l<=h) (hn:h<=n) (Z:n<=c):(Instr.sliceAt t (.slice A n c) lo hi none).run P w= .ok (.slice (if c=l then A else A.map (·.add (l*size))) (h-l) (c-l)) w:=by
  have hb:(Instr.sliceBounds true n c lo hi none).run P w= .ok (l,h,c) w:=by
    rcases H with ⟨rfl,rfl⟩ | ⟨k,rfl⟩<;>rcases G with ⟨rfl,rfl⟩ | ⟨k',rfl⟩
    · simp[Instr.sliceBounds]
    · simp[Instr.sliceBounds,vJ (P:=P) w k' h c _ (by omega)]
    · simp[Instr.sliceBounds,vJ (P:=P) w k l h _ D]
    · simp[Instr.sliceBounds,vJ (P:=P) w k' h c _ (by omega),vJ (P:=P) w k l h _ D]
  simp[Instr.sliceAt,Instr.slice,eM T,hb,O]
theorem Bd.vals {l:Nat} (hb:Bd S n lo hi l h) {ρ:Nat->Value} (G:SatAt E S A w I ρ C):
  (lo.map A.eval=none/\l=0\/∃k,lo.map A.eval=some (.int k l))/\(hi.map A.eval=none/\h=n\/∃k,hi.map A.eval=some (.int k h)):=by
 constructor
 ·cases lo with
  | none=>exact .inl ⟨rfl,hb.lo⟩
  | some x=>obtain⟨k,i,D,rfl⟩:=hb.lo;exact .inr ⟨k,by simp[G.val D]⟩
 ·cases hi with
  | none=>exact .inl ⟨rfl,hb.hi⟩
  | some x=>obtain⟨k,i,D,rfl⟩:=hb.hi;exact .inr ⟨k,by simp[G.val D]⟩
theorem Bd.agree {l:Nat} {t:TypeId} {O:Option Operand} (hb:Bd S n lo hi l h) (H:Agree S S' ⟨some d,.slice t x lo hi O,ty,pos,af,g⟩):Bd S' n lo hi l h:=by
 refine⟨?_,?_,hb.le,hb.len⟩;cases lo with
 | none=>exact hb.lo
 | some y=>obtain⟨k,i,D,G⟩:=hb.lo;exact⟨k,i,(H.ev (by simp[Op.operands])).trans D,G⟩
 cases hi with
 | none=>exact hb.hi
 | some y=>obtain⟨k,i,D,G⟩:=hb.hi;exact⟨k,i,(H.ev (by simp[Op.operands])).trans D,G⟩
theorem z0X {A:Option Addr} {l size:Nat} (hr:Rep w I (.slice A n c) (.sl size cells)) (hl:cells.length=n*size) (hp:0<size) (ai:l<=h) (hn:h<=n):
    Rep w I (.slice (if c=l then A else A.map (·.add (l*size))) (h-l) (c-l)) (.sl size ((cells.take (h*size)).drop (l*size))):=by
  by_cases h0:h-l=0
  · have:(cells.take (h*size)).drop (l*size)= []:=by
      apply eJ;rw[fU];have:h*size<=l*size:=fP _ (by omega);omega
    rw[this,h0];exact .nil _ _ _
  · obtain⟨A',n',c',xs,hv,aa,ah,Z,h1,T⟩:=Rep.sl_inv hr
    cases hv;obtain⟨b,off,rfl,O⟩:=T (by omega);rw[dU (by omega)];simp only[gJ,zFF];have ad:h*size<=n*size:=fP _ hn;have G:((cells.take (h*size)).drop (l*size)).length=(h-l)*size:=by
      rw[fD,fU,hl,Nat.sub_mul];omega
    have D:=(Z.take (h*size)).drop (l*size);refine .sl b (off+l*size) (h-l) (c-l) size ((xs.take (h*size)).drop (l*size)) _ (by omega) (by omega) G D.1 (λj x H=>?_) (λx hx=>h1 x (gA (fW hx))) D.2;rw[fK,ft] at H;split at H
    · rw[hY];exact O _ x H
    · cases H
theorem z0Y {size:Nat} {D:List DV} {l:Nat} (hn:d<E.n) (O:SlTy P t e size bytes z) (hx:S.ev x= .d (.sl size cells)) (hl:cells.length=n*size)
  (hb:Bd S n lo hi l h) (hc:(cells.take (h*size)).drop (l*size)=D):AOp P r E S ⟨some d,.slice t x lo hi none,ty,pos,af,g⟩ d (.d (.sl size D)):=
 ⟨rfl,hn,λS' ha=>zV rfl hn (by simp) λA w I ρ C hs=>by
  have h1:=hs.ev x;rw[(ha.ev (x:=x) (by simp[Op.operands])).trans hx] at h1;have G:Rep w I (A.eval x) (.sl size cells):=h1;obtain⟨A',n',c,xs,hv,H,Z,_⟩:=Rep.sl_inv G;obtain rfl:=zJV Z hl O.pos;obtain⟨aa,T⟩:=(hb.agree ha).vals hs;subst hc;rw[hv] at G;refine⟨_,?_,z0X G hl O.pos hb.le hb.len⟩;simp only[execOp,hv,dP,iu,zTY w O.und (O.size w) A' n' c l h _ _ aa T hb.le hb.len H];rfl⟩
theorem yOO {ρ:Nat->Value} {id size:Nat} (h:BlkOk w I ρ M id (.row e size sh cells)) (hl:cells.length=n*size):
  ∃A c,ρ id= .slice A n c/\n<=c/\(0<n->∃b,blockOf (ρ id)=some b/\A=some ⟨b,0,none⟩):=by
 obtain⟨h0,n',xs,H,D,_⟩:=h;obtain rfl:=zJV H hl h0.1;rcases D.2 with ⟨G,rfl⟩ | ⟨gb,T,Z,G,_,_,O,_⟩
 ·exact⟨_,_,G,by omega,λh=>absurd h (by omega)⟩
 ·exact⟨_,_,G,O,λ_=>⟨gb,by rw[G];rfl,rfl⟩⟩
theorem z5Z {size:Nat} {id:Nat} {l:Nat} (hn:d<E.n) (hT:SlTy P t e size bytes z) (hx:S.ev x= .row id) (Z:S.blk id= .row e size sh cells) (hl:cells.length=n*size)
    (hb:Bd S n lo hi l h):AOp P r E S ⟨some d,.slice t x lo hi none,ty,pos,af,g⟩ d (.rs id (l*size) (h-l)):=
  ⟨rfl,hn,λS' H=>zV rfl hn (by simp) λA w I ρ C hs=>by
    have h1:=hs.ev x;rw[(H.ev (x:=x) (by simp[Op.operands])).trans hx] at h1;have hv:A.eval x= ρ id:=h1;have hk:=hs.blks id;rw[(H.blk id).trans Z] at hk;obtain⟨A',c,ad,G,D⟩:=yOO hk hl;obtain⟨ab,aa⟩:=(hb.agree H).vals hs;have aj:=hb.len;have am:=hb.le;refine⟨_,?_,(if c=l then A' else A'.map (·.add (l*size))),c-l,rfl,by omega,λh0=>?_⟩
    · simp only[execOp,hv,ad,dP,iu,zTY w hT.und (hT.size w) A' n c l h _ _ ab aa hb.le hb.len G]
      rfl
    · obtain⟨b,O,T⟩:=D (by omega)
      refine⟨b,O,?_⟩;rw[dU (by omega),T];simp[zFF]⟩
def spl (cells:List DV) (off:Nat) (news:List DV):List DV:=cells.take off++news++cells.drop (off+news.length)
theorem yCW {D:TypeId} (Z:d<E.n) (hx:S.ev x= .d u) (T:(AV.d u).one=true) (H:E.nm d=none):
  jI P r E ⟨some d,.box D x,ty,pos,af,g⟩ S (((S.kill d).setBlk d (.box D [.d u])).put d (.ptr d 0)):=
 vR (by simp) λA w I ρ C O=>by
  have h:=O.ev x;rw[hx] at h;have G:=zTQ O.blks h T (by intro _ e;cases e)
  have hb:=O.newBox (id:=d) (e:=D) (arr:= #[A.eval x]) (cells:=[.d u]) (Pw.cons h Pw.nil) (by simpa using G) H;refine⟨.pointer (some ⟨w.heap.size,0,none⟩),w.alloc (.cells #[A.eval x] D),?_,I,_,C,hb.put Z ⟨w.heap.size,by simp[upd,blockOf],rfl⟩⟩;simp only[execOp,Instr.box,newVar,zHY G];simp[newRow]
theorem zO {id:Nat} {cells:List AV} {ds:List DV} (hn:t<E.n) (ht:S.get t= .ptr id 0) (hb:S.blk id= .box e cells) (Z:unD cells=some ds):zDZ E S ((S.setBlk id .none).put t (.d (.pt ds))):=by
 rintro a w ⟨I,ρ,C,h⟩
 have hk:=h.blks id;rw[hb] at hk;obtain⟨b,arr,T,hM,hh,h1,G,hI⟩:=hk;have aa:S.blk id≠ .none:=by rw[hb];simp
 have ab:=h.blt id b aa (by rw[T];rfl)
 have O:Reps w I arr.toList ds:=by
  clear hb hh h1;generalize arr.toList=xs at G
  induction cells generalizing xs ds with
  | nil=>simp[unD] at Z;subst Z;have:xs= []:=dQ G.1;subst this;exact Pw.nil
  | cons c cells ih=>
   cases xs with
   | nil=>have:=G.1;simp at this
   | cons x xs=>
    cases c with
    | d y=>
     simp only[unD] at Z;cases hu:unD cells with
     | none=>simp[hu] at Z
     | some ys=>
      simp[hu] at Z;subst Z;exact Pw.cons (G.2 0 x (.d y) rfl rfl) (ih hu xs ⟨by have:=G.1;simpa using this,λj u z hu hz=>G.2 (j+1) u z (by simpa using hu) (by simpa using hz)⟩)
    | _=>simp[unD] at Z
 let I':Im:=λb' j=>I b' j\/b'=b
 have D:∀b j,I b j->I' b j:=λ_ _ h=> .inl h;have key:∀i,(S.setBlk id .none).blk i≠ .none->S.blk i≠ .none/\i≠id:=by
  intro i hi;rw[yC] at hi;by_cases e:id=i;subst e;simp at hi;simp only[e,eE] at hi;exact⟨hi,λe'=>e e'.symm⟩
 refine⟨I',ρ,C,⟨λu=>?_,λi=>?_,λi i' b' ah hi ag=>h.dist i i' b' ah (key i hi).1 (key i' ag).1,by rw[vZ _ _ hn];exact h.frame,λb j hi=>D b j (h.sub b j hi),λb' j hi=>?_,h.size,h.defers,λb' j hi=>?_,λi b' hi H=>h.cB i b' (key i hi).1 H,λi v hv hi=>h.nm i v hv (key i hi).1⟩⟩
 rw[wK];by_cases e:t=u;subst e;simp only[eK];have:=h.tmps t;rw[ht] at this;obtain⟨b',H,hv⟩:=this;rw[T] at H;simp[blockOf] at H;subst H;rw[hv];have ai:=O.mono (jJ I w) D;exact Rep.pt b 0 arr.toList ds O.1 (λj x hj=>⟨by rw[fM,gN w b j arr e (0,0) hh];simpa using hj,.inr rfl⟩) h1 ai.2
 simp only[e,eE];exact(h.tmps u).mono (jJ I w) D;show BlkOk w I' ρ E.mine i ((S.setBlk id .none).blk i);by_cases e:id=i;subst e;rw[yC];simp only[eK];trivial;rw[yC,dU e];refine(h.blks i).widenI D λb2 j hx ad hi=>?_;rcases hi with hi | hi
 exact hi;subst hi;exact absurd ad (h.dist id i b2 e aa hx (by rw[T];rfl))
 rcases hi with hi | hi;exact h.old b' j hi;subst hi;exact⟨ab.2,.inr ab.1⟩;rcases hi with hi | hi;exact h.cI b' j hi;subst hi;exact h.cB id b' aa (by rw[T];rfl)
theorem yFL {t:TypeId} {e:DV} (hn:d<E.n) (hT:OneTy P t) (hx:S.ev x= .d (.pt cells)) (Z:cells[0]? =some e):
  AOp P r E S ⟨some d,.load t x,ty,pos,af,g⟩ d (.d e):=
 ⟨rfl,hn,λS' ha=>zV rfl hn (by simp) λA w I ρ C hs=>by
  have h:=hs.ev x;rw[(ha.ev (x:=x) (by simp[Op.operands])).trans hx] at h;have T:Rep w I (A.eval x) (.pt cells):=h;generalize hv:A.eval x=v at T;cases T with
  | pt b o xs cells O G h1 hr=>
   have H:0<xs.length:=by rw[O];exact(dV.1 Z).1
   have D:=dT H;refine⟨xs[0],?_,hr 0 _ e D Z⟩;have:=(G 0 _ D).1;simp only[gZ] at this;simp only[execOp,hv,dP,zIK w hT b o _ this];rfl⟩
theorem z96 {D:List Operand} {ds:List DV} (hn:d<E.n) (H:unD (D.map S.ev)=some ds):
  AOp P r E S ⟨some d,.makeFunc (.func f) #[] D.toArray,ty,pos,af,g⟩ d (.d (.fn f ds)):=
 ⟨rfl,hn,λS' ha=>zV rfl hn (by simp) λA w I ρ C hs=>by
  have Z:D.map S'.ev=D.map S.ev:=fZ λx hx=>ha.ev (by simp[Op.operands];simpa using hx)
  rw[<-Z] at H;obtain⟨h1,h2⟩:=zFT S' H;have G:Reps w I (D.map A.eval) ds:=by
   have:=v2 hs D;generalize D.map A.eval=vs at this ⊢;generalize D.map S'.ev=T at this H;clear h1 h2 Z
   induction T generalizing vs ds with
   | nil=>simp[unD] at H;subst H;have:vs= []:=dQ this.1;subst this;exact Pw.nil
   | cons c cells ih=>
    cases vs with
    | nil=>have:=this.1;simp at this
    | cons x xs=>
     cases c with
     | d y=>
      simp only[unD] at H;cases O:unD cells with
      | none=>simp[O] at H
      | some ys=>
       simp[O] at H;subst H;exact Pw.cons (this.2 0 x (.d y) rfl rfl) (ih xs ⟨by have:=this.1;simpa using this,λj u z O hz=>this.2 (j+1) u z (by simpa using O) (by simpa using hz)⟩ O)
     | _=>simp[unD] at H
  refine⟨.func (.func f) #[] (D.map A.eval).toArray,?_,.fn f _ ds G.1 G.2⟩;simp[execOp,Instr.makeFunc]⟩
theorem yOP {xs:List Operand} {D ds:List DV} (hn:d<E.n) (hx:S.ev x= .d (.fn f D)) (ac:unD (xs.map S.ev)=some ds) (hc:zB P f (ds++D) rs) (hG:E.gdt=vF P:=by rfl):
  AOp P r E S ⟨some d,.call {callee:= .value x,args:=xs.toArray,argTypes:=ats},ty,pos,af,g⟩ d (zQP rs):=
 ⟨rfl,hn,λS' ha=>by
  have he:xs.map S'.ev=xs.map S.ev:=fZ λx hx=>ha.ev (by simp[Op.operands,Call.operands,hx]);rw[<-he] at ac;obtain⟨ap,aq⟩:=zFT S' ac
  rintro A w K Q ⟨I,ρ,C,hs⟩ hk
  obtain⟨⟨fn,hf,aa,T⟩,Z⟩:=hc;obtain⟨I1,h1,O,h3⟩:=SatAt.dvL _ hs (v2 hs xs) ap;rw[aq] at O;have aj:=hs.ev x;rw[(ha.ev (x:=x) (by simp[Op.operands,Call.operands])).trans hx] at aj;have G:Rep w I (A.eval x) (.fn f D):=aj;generalize aw:A.eval x=vx at G;cases G with
  | fn f H D ao an=>
   have ab:Reps w I1 H D:=⟨ao,λj u z hu hz=>(an j u z hu hz).mono (jJ I w) h1⟩;have am:=Z w I1 (xs.map A.eval++H) (λb j hi=>(O.old b j hi).1) (hG▸O.gl) (Pw.append h3 ab);refine⟨λf _=>trivial,?_⟩;rw[Oper.semAt_eq _ _ _ (by simp)];have ah:(execOp A.eval ⟨some d,.call {callee:= .value x,args:=xs.toArray,argTypes:=ats},ty,pos,af,g⟩).run P w= .ok (.enter f (xs.map A.eval++H).toArray) w:=by
    simp only[execOp,resolve,aw,Deferred.ofValue];have ar:¬fn.name= "runtime.NumGoroutine" :=by simpa using aa
    have hn2:¬fn.body=none:=by intro e;simp[e] at T
    simp[invoke,callFunc,hf,ar,hn2,fq]
   rw[ah];refine⟨by simp[fen,Fence.wide],?_⟩;show CallsIn Fence.wide 0 P f _ w _;refine g8.2 (am.mono ?_)
   rintro e w' ⟨v,I',rfl,hb,ai,ad,ag⟩
   refine hk _ _ ⟨I',ρ,C,SatAt.put ?_ hn (zIL ag)⟩;have h4:=O.grow hb;exact h4.widen ai ad (λi b hi ak=>(O.blt i b hi ak).2) (E.size _ _ _ O.frame) (λb hc=>E.csize _ _ _ O.frame b hc)⟩
end
end Go.AV


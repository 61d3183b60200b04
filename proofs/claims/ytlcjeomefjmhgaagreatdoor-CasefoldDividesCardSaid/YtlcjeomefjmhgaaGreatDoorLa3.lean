/- The layer of abstract values: what a temporary holds, said once; every rule of it is proved from the model. Conditions: none. -/
import Derived.Test.YtlcjeomefjmhgaaGreatDoorLa2
import Derived.Maps.RangeRun
import Derived.Sort.Grow
import Derived.Sort.EncStr
import Derived.ChangeArms
import Derived.OpenShut
import Derived.WideShapes
set_option linter.unusedSimpArgs false
set_option linter.unusedVariables false
set_option linter.unnecessarySimpa false
namespace Go.AV
open Go.RowKit Go.M
end Go.AV
namespace Go.AV
open Go.RowKit Go.M
section
variable {P:Program} {r:Option Nat} {E:Env} {S:AState} {d:Nat} {ty:TypeId} {pos:String} {af:Array Edge} {g:Option (Nat×Bool)}
inductive View (S:AState):AV→DV→Prop
 | d (x:DV):View S (.d x) x
 | win {id e size k:Nat} {cells:List DV} (h:S.blk id= .win e size k cells):View S (.row id) (.sl size cells)
 | ws {id e size k off n N:Nat} {tt:Bool} {cells:List DV} (h:S.blk id= .win e size k cells) (hl:cells.length=N*size) (hf:off+n≤N):View S (.ws id (off*size) n tt) (.sl size ((cells.drop (off*size)).take (n*size)))
theorem run_equal_nil {t e:TypeId} (hu:P.underlying t=some (.slice e)) (B:Option Addr) (n c:Nat) (w:World):(Op.equal t (.slice B n c) (.slice none 0 0)).run P w= .ok B.isNone w:=by
 show (Op.equalIn (9999+1) t (.slice B n c) (.slice none 0 0)).run P w=_
 rw [Op.equalIn]
 cases B <;> simp [run_underlying hu]
theorem a_eqnil {t e : TypeId} {x : Operand} {size : Nat} {cells : List DV} {tz : TypeId} (hn : d < E.n) (hu : P.underlying t = some (.slice e)) (hx : S.ev x = .d (.sl size cells)) (hne : cells ≠ []) :
    AOp P r E S ⟨some d, .binOp .eql t x (.const (.slice none 0 0)) tz, ty, pos, af, g⟩ d (.d (.v (.bool false))) :=
  ⟨rfl, hn, fun S' ha => step_val rfl hn (by simp) fun A w I ρ C hs => by
    have h1 := hs.ev x
    rw [(ha.ev (x := x) (by simp [Op.operands])).trans hx] at h1
    obtain ⟨B, n, c, xs, hv, _, hl, _, _, hadr⟩ := Rep.sl_inv h1
    have hpos : 0 < n := by
      rcases Nat.eq_zero_or_pos n with h | h
      · subst h; exact absurd (List.eq_nil_of_length_eq_zero (by omega)) hne
      · exact h
    obtain ⟨b, off, rfl, _⟩ := hadr hpos
    have hc : A.eval (.const (.slice none 0 0)) = .slice none 0 0 := rfl
    have hb : binOp .eql t (.slice (some ⟨b, off, none⟩) n c) (.slice none 0 0) = (do pure (.bool (← Op.equal t (.slice (some ⟨b, off, none⟩) n c) (.slice none 0 0)))) := rfl
    have hg : eqGuard .eql t x (.const (.slice none 0 0)) (.slice (some ⟨b, off, none⟩) n c) (.slice none 0 0) = pure () := rfl
    simp only [execOp, hv, hc, hb, hg, Sem.run_bind, Sem.run_pure, Result.andThen_ok, run_equal_nil hu]
    rfl⟩
theorem a_eqnil_v {t e : TypeId} {x : Operand} {B : Option Addr} {n c : Nat} {tz : TypeId} (hn : d < E.n) (hu : P.underlying t = some (.slice e)) (hx : S.ev x = .d (.v (.slice B n c))) :
    AOp P r E S ⟨some d, .binOp .eql t x (.const (.slice none 0 0)) tz, ty, pos, af, g⟩ d (.d (.v (.bool B.isNone))) :=
  ⟨rfl, hn, fun S' ha => step_val rfl hn (by simp) fun A w I ρ C hs => by
    have hv := hs.val ((ha.ev (x := x) (by simp [Op.operands])).trans hx)
    have hc : A.eval (.const (.slice none 0 0)) = .slice none 0 0 := rfl
    have hb : binOp .eql t (.slice B n c) (.slice none 0 0) = (do pure (.bool (← Op.equal t (.slice B n c) (.slice none 0 0)))) := rfl
    have hg : eqGuard .eql t x (.const (.slice none 0 0)) (.slice B n c) (.slice none 0 0) = pure () := rfl
    simp only [execOp, hv, hc, hb, hg, Sem.run_bind, Sem.run_pure, Result.andThen_ok, run_equal_nil hu]⟩
theorem weak_empty_d {t:Nat} {B:Option Addr} {c:Nat} (size:Nat) (hn:t < E.n) (ht:S.get t= .d (.v (.slice B 0 c))):Weak E S (S.put t (.d (.sl size []))):=by
 rintro a w ⟨I,ρ,C,h⟩
 refine ⟨I,ρ,C,⟨fun u=>?_,h.blks,h.dist,by rw [ghost_put _ _ hn];exact h.frame,h.sub,h.old,h.size,h.defers,h.cI,h.cB,h.nm⟩⟩
 rw [get_put]
 by_cases e:t=u
 subst e
 simp only [if_true]
 have:=h.tmps t
 rw [ht] at this
 generalize a.tmps.getD t undef=v at this ⊢
 have h':Rep w I v (.v (.slice B 0 c)):=this
 cases h'
 exact .nil _ _ _
 simp only [e,if_false];exact h.tmps u
end
theorem gc_empty {P:Program} {f:FuncId} {size:Nat} {T T':List (Nat×Blk)} {keep:List Nat} {rets:List Cap} (hp:0 < size) (h:∀B c,GC P f [.d (.v (.slice B 0 c))] T keep rets T'):GC P f [.d (.sl size [])] T keep rets T':=by
 refine ⟨(h none 0).1,fun w I ρ vs hI hG hf hv=>?_⟩
 match vs,hv.1 with
 | [v],_=>
  have hr:Rep w I v (.sl size []):=hv.2 0 v (.d (.sl size [])) rfl rfl
  cases hr with
  | nil A c=>exact (h A c).2 w I ρ _ hI hG hf (Pw.cons (show HoldsC w I ρ _ (.d (.v _)) from .v _) Pw.nil)
  | sl b off n c size xs cells hn hcap hl=>exact absurd hl (by have:=Nat.mul_pos hn hp;simp only [List.length_nil];omega)
end Go.AV
namespace Go.AV
open Go.RowKit Go.M
end Go.AV
namespace Go.AV
open Go.RowKit Go.M
theorem all_ne {α:Type} {en:En α} {x: α} {l:List α} (h:0 < en.size):en.all (x::l)≠[]:=by
 intro hc
 have:=congrArg List.length hc
 rw [all_len,List.length_cons,List.length_nil,Nat.add_mul] at this
 omega
theorem run_forUnit {P:Program} {α:Type} {w:World} {F: α→PUnit→Sem (ForInStep PUnit)}:∀(fs:List α),(∀f∈fs,(F f ()).run P w= .ok (.yield ()) w)→(forIn fs () F).run P w= .ok () w
 | [],_=>by simp
 | f::fs,h=>by
  have ih:=run_forUnit fs fun g hg=>h g (by simp [hg])
  rw [List.forIn_cons]
  simp only [Sem.run_bind,h f (by simp),Result.andThen_ok,ih]
def plainTy:TypeDesc→Bool
 | .int _ | .string | .bool=>true
 | _=>false
theorem check_plain {P:Program} {t:TypeId} {ds:TypeDesc} (hu:P.underlying t=some ds) (hp:plainTy ds=true) (v:Value) (n:Nat) (b:Bool) (w:World):(Instr.checkKey b (n+1) t v).run P w= .ok () w:=by
 simp only [Instr.checkKey,Sem.run_bind,run_underlying hu,Result.andThen_ok]
 cases ds <;> first | (simp [plainTy] at hp;done) | (cases v <;> rfl)
theorem check_str' {P : Program} {kt : TypeId} {fields : Array Field} {vals : List Value} (hu : P.underlying kt = some (.struct fields))
    (hf : ∀ f ∈ fields.toList, OneTy P f.type ∧ (∃ ds, P.underlying f.type = some ds ∧ plainTy ds = true) ∧ f.offset < vals.length) (b : Bool) (w : World) : (Instr.checkKey b 10000 kt (.agg vals.toArray)).run P w = .ok () w := by
  show (Instr.checkKey b (9999 + 1) kt (.agg vals.toArray)).run P w = _
  rw [Instr.checkKey]
  simp only [Sem.run_bind, run_underlying hu, Result.andThen_ok]
  rw [← Array.forIn_toList]
  refine (congrArg (fun q => Result.andThen q _) (run_forUnit _ fun f hi => ?_)).trans (by simp)
  obtain ⟨h1, ⟨ds, h2, h3⟩, h4⟩ := hf f hi
  have := check_plain h2 h3 (vals[f.offset]'h4) 9998 b w
  simp only [show (9998 + 1) = 9999 from rfl] at this
  have hpart : (part f.type vals.toArray f.offset).run P w = .ok (vals[f.offset]'h4) w := run_part h1.agg (by simp [h4]) w
  by_cases hn : f.name = "_"
  · simp [hn]
  · simp only [ne_eq, hn, not_false_eq_true, if_true, Sem.run_bind, hpart, Result.andThen_ok, this]
    rfl
end Go.AV
namespace Go.AV
open Go.RowKit Go.M
def QJ (E:Env) (J:AState→Prop):Exit→Act→World→Prop
 | .normal,a,w=> ∃S,J S∧Sat E S a w
 | _,_,_=>False
def AnyS (P:Program) (r:Option Nat) (E:Env) (l:List Oper) (J:AState→Prop) (fuel:Nat) (listed:List Bool) (S:AState):Prop:=
 ∀a w,Sat E S a w→wpAnyIn (fen r) 0 P .any l.toArray (QJ E J) fuel listed.toArray a w
def AnyE (P:Program) (r:Option Nat) (E:Env) (l:List Oper) (J:AState→Prop) (fuel:Nat) (listed:List Bool) (S:AState):List Nat→Prop
 | []=>True
 | i::is=>(∃o S',l[i]? =some o∧StepG P r E l.toArray o S S'∧AnyS P r E l J fuel (listed.set i true) S')∧AnyE P r E l J fuel listed S is
section
variable {P:Program} {r:Option Nat} {E:Env} {l:List Oper} {J:AState→Prop} {fuel:Nat} {listed:List Bool} {S:AState}
theorem AnyE.mem:∀{is:List Nat} {i:Nat},AnyE P r E l J fuel listed S is→i∈is→∃o S',l[i]? =some o∧StepG P r E l.toArray o S S'∧AnyS P r E l J fuel (listed.set i true) S'
 | [],_,_,h=>by cases h
 | k::is,i,h,hi=>by
  rcases List.mem_cons.1 hi with e | hi
  subst e;exact h.1
  exact AnyE.mem h.2 hi
def rdy (l:List Oper) (ls:List Bool):List Nat:=(List.range l.length).filter fun i=>!ls.getD i true&&(match l[i]? with | none=>true | some o=>(aft o).all fun j=>ls.getD j false)
theorem rdy_mem {i:Nat} (h:i∈Region.ready .any l.toArray listed.toArray):i∈rdy l listed:=by
 obtain ⟨h1,h2,h3⟩:=ready_spec h
 simp only [rdy,List.mem_filter,List.mem_range,Bool.and_eq_true,Bool.not_eq_true']
 have e:∀k b,listed.toArray.getD k b=listed.getD k b:=fun k b=>by simp [Array.getD_eq_getD_getElem?,List.getD_eq_getElem?_getD]
 refine ⟨h1,by rw [←e];exact h2,?_⟩
 have ho:=List.getElem?_eq_getElem h1
 rw [ho]
 simp only [List.all_eq_true]
 intro j hj
 rw [←e]
 exact h3 _ ho j hj
theorem mem_rdy {i:Nat} (h:(rdy l listed).contains i=true):i∈Region.ready .any l.toArray listed.toArray:=by
 have h:=List.contains_iff_mem.1 h
 simp only [rdy,List.mem_filter,List.mem_range,Bool.and_eq_true,Bool.not_eq_true'] at h
 have e:∀k b,listed.toArray.getD k b=listed.getD k b:=fun k b=>by simp [Array.getD_eq_getD_getElem?,List.getD_eq_getElem?_getD]
 obtain ⟨h1,h2,h3⟩:=h
 have ho:=List.getElem?_eq_getElem h1
 rw [ho] at h3
 simp only [List.all_eq_true] at h3
 exact ready_of ho (by rw [e];exact h2) fun j hj=>by rw [e];exact h3 j hj
theorem set_arr (ls:List Bool) (i:Nat):ls.toArray.setIfInBounds i true=(ls.set i true).toArray:=by simp
theorem any_end (hr:rdy l listed= []) (h:J S):AnyS P r E l J fuel listed S:=by
 intro a w hs
 have hr':Region.ready .any l.toArray listed.toArray= []:=List.eq_nil_iff_forall_not_mem.2 fun i hi=>by have:=rdy_mem hi;rw [hr] at this;cases this
 cases fuel with
 | zero=>exact ⟨hr',S,h,hs⟩
 | succ n=>exact ⟨fun _=>⟨S,h,hs⟩,fun i hi=>by rw [hr'] at hi;cases hi⟩
theorem any_n (is:List Nat) (hr:rdy l listed=is) (hne:is.isEmpty=false) (h:AnyE P r E l J fuel listed S is):AnyS P r E l J (fuel+1) listed S:=by
 intro a w hs
 refine ⟨fun e=>?_,fun i hi=>?_⟩
 cases is with
 | nil=>cases hne
 | cons k is=>
  have:=mem_rdy (l:=l) (listed:=listed) (i:=k) (by rw [hr];simp)
  rw [e] at this;cases this
 have hi:=rdy_mem hi
 rw [hr] at hi
 obtain ⟨o,S',h1,h2,h3⟩:=h.mem hi
 unfold wpOpIn
 simp only [List.getElem?_toArray,h1]
 refine h2 a w _ _ hs fun a' w' hs'=>?_
 rw [set_arr]
 exact h3 a' w' hs'
theorem any_nil:AnyE P r E l J fuel listed S []:=trivial
theorem any_b {i:Nat} {is:List Nat} {o:Oper} {S':AState} (ho:l[i]? =some o) (hg:o.guard=none) (h:Step P r E o S S') (k:AnyS P r E l J fuel (listed.set i true) S') (ks:AnyE P r E l J fuel listed S is):AnyE P r E l J fuel listed S (i::is):=
 ⟨⟨o,S',ho,stepG_of hg h,k⟩,ks⟩
theorem any_a {i d:Nat} {is:List Nat} {o:Oper} {x:AV} (ho:l[i]? =some o) (hg:o.guard=none) (h:AOp P r E S o d x) (k:AnyS P r E l J fuel (listed.set i true) (S.put d x)) (ks:AnyE P r E l J fuel listed S is):AnyE P r E l J fuel listed S (i::is):=
 ⟨⟨o,_,ho,stepG_of hg h.step,k⟩,ks⟩
def apOk (l:List Oper) (listed:List Bool) (i:Nat) (oi:Oper):Bool:=
 (List.range l.length).all fun j=>Nat.beq j i ||listed.getD j true ||(match l[j]? with
  | none=>true
  | some oj=>(aft oj).contains i ||oi.apart l.toArray oj)
def noSel (l:List Oper):Bool:=l.all fun o=>match o.op with | .select _ _=>false | _=>true
theorem any_first {i d : Nat} {oi : Oper} {x : AV} (hr : r = none) (hi : l[i]? = some oi) (hg : oi.guard = none) (hd : oi.dst = some d) (hsel : noSel l = true) (hap : apOk l listed i oi = true) (hrd : (rdy l listed).contains i = true)
    (hy : ∀ a w, Sat E S a w → ∃ v, (∀ w', (execOp a.eval oi).run P w' = .ok (.value v) w') ∧ (∀ w', oi.about P w' a.eval = none) ∧ Sat E (S.put d x) (a.put (some d) v) w) (k : AnyS P r E l J fuel (listed.set i true) (S.put d x)) : AnyS P r E l J (fuel + 1) listed S := by
  subst hr
  intro a w hs
  obtain ⟨v, h1, h2, h3⟩ := hy a w hs
  have hi' : l.toArray[i]? = some oi := by simpa using hi
  refine wpAnyIn_first (i := i) (oi := oi) (v := v) rfl hi' (fun j o cs b ho e => ?_) (fun c a w h => h.elim) fuel listed.toArray a w (fun j oj hj hne hl hnot => ?_) (mem_rdy hrd) ⟨.inl ⟨?_, h1⟩, h2⟩ (by rw [hd, set_arr]; exact k _ w h3)
  · have := List.all_eq_true.1 hsel o (List.mem_of_getElem? (by simpa using ho))
    rw [e] at this
    cases this
  · have hj' : l[j]? = some oj := by simpa using hj
    have hlt := (List.getElem?_eq_some_iff.1 hj').1
    have := List.all_eq_true.1 hap j (List.mem_range.2 hlt)
    have hl' : listed.getD j true = false := by rw [← hl]; simp [Array.getD_eq_getD_getElem?, List.getD_eq_getElem?_getD]
    simp only [Bool.or_eq_true, Nat.beq_eq, hl', hj'] at this
    rcases this with (h | h) | h | h
    · exact absurd h hne
    · cases h
    · exfalso
      have h := List.contains_iff_mem.1 h
      simp only [aft, List.mem_map, List.mem_filter] at h
      obtain ⟨q, ⟨hq, hb⟩, he⟩ := h
      exact hnot q (by simpa using hq) hb he
    · exact h
  · unfold Region.wanted
    rw [hg]
section
variable {d:Nat} {ty:TypeId} {pos:String} {af:Array Edge} {x:Operand}
theorem any_move {i : Nat} (hi : l[i]? = some ⟨some d, .move x, ty, pos, af, none⟩) (hn : d < E.n) (hr : r = none) (hsel : noSel l = true) (hap : apOk l listed i ⟨some d, .move x, ty, pos, af, none⟩ = true) (hrd : (rdy l listed).contains i = true)
    (k : AnyS P r E l J fuel (listed.set i true) (S.put d (S.ev x))) : AnyS P r E l J (fuel + 1) listed S :=
  any_first hr hi rfl rfl hsel hap hrd (fun a w ⟨I, ρ, C, hs⟩ => ⟨a.eval x, fun w' => by simp [execOp], fun w' => rfl, I, ρ, C, hs.put hn (hs.ev x)⟩) k
theorem any_sub {i : Nat} {y : Operand} {tx tz : TypeId} {a b : Int} (hi : l[i]? = some ⟨some d, .binOp .sub tx x y tz, ty, pos, af, none⟩) (hn : d < E.n) (hx : S.ev x = .d (.v (.int .i64 a))) (hy : S.ev y = .d (.v (.int .i64 b))) (hr : r = none) (hsel : noSel l = true) (hap : apOk l listed i ⟨some d, .binOp .sub tx x y tz, ty, pos, af, none⟩ = true) (hrd : (rdy l listed).contains i = true)
    (k : AnyS P r E l J fuel (listed.set i true) (S.put d (.d (.v (.int .i64 (wi (a - b))))))) : AnyS P r E l J (fuel + 1) listed S :=
  any_first hr hi rfl rfl hsel hap hrd (fun A w ⟨I, ρ, C, hs⟩ => ⟨.int .i64 (wi (a - b)), fun w' => by
    simp only [execOp, hs.val hx, hs.val hy]
    simp [binOp, eqGuard, Op.intArith, wi], fun w' => rfl, I, ρ, C, SatAt.put (x := .d (.v _)) hs hn (Rep.v _)⟩) k
end
theorem avc_any {id:Nat} {K:Exit→AState→Prop} (hm:P.follows .mixedOrders=true) (h:AnyS P r E l (K .normal) l.length (List.replicate l.length false) S):Avc P r E (.region id l.toArray true) K S:=by
 intro a w hs
 have h2:=h a {w with drawn:=w.drawn+1} (sat_drew hs)
 refine wpIn_mono (wpIn_region_any (Q:=QJ E (K .normal)) hm (by simpa [←List.toArray_replicate] using h2)) ?_
 intro e a' w' hq
 cases e with
 | normal=>exact hq
 | _=>exact hq.elim
end
end Go.AV
namespace Go.AV
open Go.RowKit Go.M
def CapsOf:List AV→List Cap→Prop
 | [],cs=>cs= []
 | x::xs,cs=> ∃c ds,cs=c::ds∧CapOf x c∧CapsOf xs ds
section
variable {P:Program} {r:Option Nat} {E:Env} {S:AState} {d:Nat} {ty:TypeId} {pos:String} {af:Array Edge} {g:Option (Nat×Bool)}
theorem CapsOf.holds {w:World} {I:Im} {ρ:Nat→Value}:∀{vs:List Value} {xs:List AV} {cs:List Cap},CapsOf xs cs→Pw (Holds w I ρ) vs xs→Pw (HoldsC w I ρ) vs cs
 | [],[],cs,h,_=>by cases h;exact Pw.nil
 | [],x::xs,cs,_,hp=>by have:=hp.1;simp at this
 | v::vs,[],cs,_,hp=>by have:=hp.1;simp at this
 | v::vs,x::xs,cs,⟨c,ds,e,h1,h2⟩,hp=>by
  subst e
  obtain ⟨q1,q2⟩:=pw_tail hp
  exact Pw.cons (h1.holds q1) (CapsOf.holds h2 q2)
end
end Go.AV
namespace Go.AV
open Go.RowKit Go.M
theorem BlkOk.lt {w:World} {I:Im} {ρ:Nat→Value} {M:Nat→Prop} {i b:Nat} {x:Blk} (h:BlkOk w I ρ M i x) (hne:x≠ .none) (hb:blockOf (ρ i)=some b):b < w.heap.size:=by
 cases x with
 | none=>exact absurd rfl hne
 | row e size sh cells=>
  obtain ⟨hM,n,xs,hl,hown,_⟩:=h
  rcases hown.2 with ⟨hn,_⟩ | ⟨g,cap,cur,hv,hB,hh,_⟩
  rw [hn] at hb;simp [blockOf] at hb
  rw [hv] at hb;simp [blockOf] at hb;subst hb;exact (Array.getElem?_eq_some_iff.1 hh).1
 | box e cells=>
  obtain ⟨b',arr,hv,hB,hh,_⟩:=h
  rw [hv] at hb;simp [blockOf] at hb;subst hb;exact (Array.getElem?_eq_some_iff.1 hh).1
 | it es q=>
  obtain ⟨b',bm,ents,clock,seen,hv,hB,hh,_⟩:=h
  rw [hv] at hb;simp [blockOf] at hb;subst hb;exact (Array.getElem?_eq_some_iff.1 hh).1
 | map es=>
  obtain ⟨b',ents,clock,hv,hB,hh,_⟩:=h
  rw [hv] at hb;simp [blockOf] at hb;subst hb;exact (Array.getElem?_eq_some_iff.1 hh).1
 | win e size k cells=>
  obtain ⟨A,n,c,xs,hv,_,_,_,_,_,hA⟩:=h
  rcases hA with ⟨hA,_⟩ | ⟨b',off,arr,hA,hB,hh,_⟩
  rw [hv,hA] at hb;simp [blockOf] at hb
  rw [hv,hA] at hb;simp [blockOf] at hb;subst hb;exact (Array.getElem?_eq_some_iff.1 hh).1
end Go.AV
namespace Go.AV
open Go.RowKit Go.M
section
variable {P:Program} {r:Option Nat} {E:Env} {S:AState} {d ty:Nat} {pos:String} {af:Array Edge} {g:Option (Nat×Bool)}
theorem take_patch {β:Type} {c ys:List β} {off n N:Nat} (h:ys.length=n) (h1:off+n≤N) (h2:N≤c.length):(c.take off++ys++c.drop (off+n)).take N=(c.take N).take off++ys++(c.take N).drop (off+n):=by
 have l1:(c.take off++ys).length=off+n:=by simp;omega
 rw [List.take_append,List.take_of_length_le (by omega),l1,List.take_take,Nat.min_eq_left (by omega),List.drop_take]
theorem step_store_rowA {t n : Nat} {x y : Operand} {id off e size : Nat} {cells ds : List DV} (hT : AggTy P t n) (hx : S.ev x = .ptr id off) (hb : S.blk id = .row e size false cells) (hlt : off + n ≤ cells.length)
    (hy : S.ev y = .d (.agg ds)) (hl2 : ds.length = n) (hE : E.wrB = true) :
    Step P r E ⟨none, .store t x y, ty, pos, af, g⟩ S (S.setBlk id (.row e size false (cells.take off ++ ds ++ cells.drop (off + n)))) :=
  step_skip rfl (by simp) fun A w I ρ C hs => by
    have h := hs.ev x
    rw [hx] at h
    obtain ⟨b, hρ, hv⟩ := h
    have hbk := hs.blks id
    rw [hb] at hbk
    obtain ⟨h0, n', xs, hl, hown, h1', hpw, hI⟩ := hbk
    have hyv := hs.ev y
    rw [hy] at hyv
    have hyv' : Rep w I (A.eval y) (.agg ds) := hyv
    generalize he : A.eval y = vy at hyv'
    cases hyv' with
    | agg ys cells' hly h1 hr =>
      have hrp : Reps w I ys ds := ⟨hly, hr⟩
      rcases hown.2 with ⟨hn, _⟩ | ⟨gb, cap, cur, hn, hB, hh, hnc, hcm, hcs, htk⟩
      · rw [hn] at hρ; cases hρ
      · have hbb : gb = b := by rw [hn] at hρ; simpa [blockOf] using hρ
        subst hbb
        have hI' : ∀ j, ¬ I gb j := fun j hj => by have := (hI gb j (by rw [hn]; rfl) hj).1; cases this
        have hxl : xs.length = n' * size := hown.1
        have hlt2 : cells.length ≤ cur.size := by rw [hcs, hl]; exact Nat.mul_le_mul_right _ hnc
        have hyl : ys.length = n := by rw [hly]; exact hl2
        have hst := run_storeN (P := P) w hT (b := gb) (off := off) (vs := ys) hh (by omega) hyl h1
        have hwn : cells.length = n' * size := hl
        refine ⟨_, ?_, I, ρ, C, hs.modify (grownBy_setRow w gb (cur.toList.take off ++ ys ++ cur.toList.drop (off + n)).toArray) (by rw [hb]; simp) hρ (same_setRow hI') ⟨h0, n', xs.take off ++ ys ++ xs.drop (off + n), by simp; omega, ⟨by simp; omega, .inr ⟨gb, cap, _, hn, hB, setRow_heap w gb cur _ e _ hh, hnc, hcm, ?_, ?_⟩⟩, ?_, ?_, ?_⟩ hE⟩
        · simp only [execOp, hv, he, Sem.run_bind, hst]
          rfl
        · simp; omega
        · have htk' : cur.toList.take (n' * size) = xs := htk
          rw [← htk']
          exact take_patch hyl (by omega) (by simp; omega)
        · intro v hv'
          simp only [List.mem_append] at hv'
          rcases hv' with (hu | hu) | hu
          · exact h1' v (List.mem_of_mem_take hu)
          · exact h1 v hu
          · exact h1' v (List.mem_of_mem_drop hu)
        · have hp2 := hpw.imp fun _ _ h => h.mono (same_setRow (arr := (cur.toList.take off ++ ys ++ cur.toList.drop (off + n)).toArray) hI') (fun _ _ h => h)
          have hr2 := Reps.mono hrp (same_setRow (arr := (cur.toList.take off ++ ys ++ cur.toList.drop (off + n)).toArray) hI') (fun _ _ h => h)
          exact ((hp2.take off).append hr2).append (hp2.drop (off + n))
        · intro g' j hg' hi
          rw [hn] at hg'
          simp [Value.ownBlock] at hg'
          subst hg'
          exact absurd hi (hI' j)
theorem all_setA {α:Type} (en:En α) (l:List α) (v: α):∀(i:Nat),i < l.length→en.all (l.set i v)=(en.all l).take (i*en.size)++en.cells v++(en.all l).drop (i*en.size+en.size):=by
 induction l with
 | nil=>intro i hi;simp at hi
 | cons a l ih=>
  intro i hi
  have ha:(en.cells a).length=en.size:=en.len a
  cases i with
  | zero=>
   simp only [List.set_cons_zero,En.all,List.flatMap_cons,Nat.zero_mul,List.take_zero,List.nil_append,Nat.zero_add]
   rw [List.drop_append_of_le_length (by omega),List.drop_of_length_le (by omega)]
   simp
  | succ j=>
   have:=ih j (by simpa using hi)
   simp only [List.set_cons_succ,En.all,List.flatMap_cons] at this ⊢
   rw [this,Nat.add_mul,Nat.one_mul]
   rw [List.take_append,List.drop_append,ha]
   rw [List.take_of_length_le (l:=en.cells a) (by omega),List.drop_of_length_le (l:=en.cells a) (by omega)]
   have e1:j*en.size+en.size - en.size=j*en.size:=by omega
   have e2:j*en.size+en.size+en.size - en.size=j*en.size+en.size:=by omega
   rw [e1,e2]
   simp [List.append_assoc]
theorem m_storeA {α : Type} {en : En α} {l l' : List α} {e tt : Nat} {x y : Operand} {id : Nat} {i : Int} {v : α} (hT : AggTy P tt en.size) (hx : S.ev x = .ptr id (i.toNat * en.size)) (hb : S.blk id = .row e en.size false (en.all l)) (hy : S.ev y = .d (en.dv v)) (hd : en.dv v = .agg (en.cells v))
    (hs : setM l i v = some l') (hE : E.wrB = true) :
    Step P r E ⟨none, .store tt x y, ty, pos, af, g⟩ S (S.setBlk id (.row e en.size false (en.all l'))) := by
  obtain ⟨rfl, h0, hlt⟩ := setM_some hs
  rw [all_setA en l v i.toNat hlt]
  refine step_store_rowA hT hx hb ?_ (by rw [hy, hd]) (en.len v) hE
  rw [all_len]
  have : (i.toNat + 1) * en.size ≤ l.length * en.size := Nat.mul_le_mul_right _ hlt
  rw [Nat.add_mul] at this
  omega
def Blk.is:Blk→Bool
 | .none=>false
 | _=>true
theorem Blk.is_ne {b:Blk} (h:b.is=true):b≠ .none:=by cases b <;> simp_all [Blk.is]
def nmB (keep0:List Nat) (σ:List (Nat×Nat)) (keep:List Nat) (T T':List (Nat×Blk)):Bool:=
 σ.all fun p=>!keep0.contains p.2 ||(keep.contains p.1&&((look Blk.none T p.1).is&&(look Blk.none T' p.1).is))
theorem g_callN {gdt : Nat → Option (List Value)} {w0 : World} {I0 : Im} {hG0 : GlI gdt w0 I0} {ρ0 : Nat → Value} {T0 : List (Nat × Blk)} {keep0 : List Nat} {n0 : Nat} {hn0 : n0 ≤ 1000000} {f : FuncId} {xs : List Operand} {ats : Array TypeId} {args rets : List Cap} {T T' : List (Nat × Blk)} {keep : List Nat} (σ : List (Nat × Nat)) (hc : GC P f args T keep rets T') (hn : d < n0) (hσ : (σ.map Prod.fst).Nodup ∧ (σ.map Prod.snd).Nodup)
    (hargs : ArgsAs σ (xs.map S.ev) args) (hal : args.all (Cap.idsLt σ) = true) (hrl : rets.all (Cap.idsLt σ) = true) (hT : BlksAs S σ T) (hTo : blksOk σ T = true) (hTo' : blksOk σ T' = true)
    (hfr : freshB S σ T = true) (hnm : nmB keep0 σ keep T T' = true) (hG : gdt = gdOf P := by rfl) :
    Step P r (Env.gen gdt w0 I0 hG0 ρ0 T0 keep0 n0 hn0) ⟨some d, .call { callee := .value (.func f), args := xs.toArray, argTypes := ats }, ty, pos, af, g⟩ S
      (((S.killL (lost σ keep T')).setL (renL σ T' ++ gone σ T T')).put d ((retAVc rets).ren σ)) :=
  s_callG (E := Env.gen gdt w0 I0 hG0 ρ0 T0 keep0 n0 hn0) σ hn (ren_of hσ) hargs hal hrl hT hTo hTo' (fresh_of hfr) (fun k hk => by
    have := List.all_eq_true.1 hnm _ (inDom_mem hk)
    by_cases hc : keep0.contains (look 0 σ k) = true
    · simp only [hc, Bool.not_true, Bool.false_or, Bool.and_eq_true] at this
      exact .inr ⟨this.1, Blk.is_ne this.2.1, Blk.is_ne this.2.2⟩
    · refine .inl ?_
      show (if keep0.contains (look 0 σ k) = true then _ else _) = _
      rw [if_neg hc]) hc rfl hG
end
end Go.AV
namespace Go.M
end Go.M
namespace Go.AV
open Go.M
end Go.AV
namespace Go.AV
open Go.M
section
variable {P:Program} {r:Option Nat} {E:Env} {S:AState} {K:Exit→AState→Prop} {c:Code} {A B C D:Type}
def out2 (E:Env) (e1:Exit) (S1:A→AState) (e2:Exit) (S2:B→AState):A⊕B→Exit→AState→Prop
 | .inl y,e',S'=>e'=e1∧Weak E S' (S1 y)
 | .inr y,e',S'=>e'=e2∧Weak E S' (S2 y)
def out3 (E:Env) (e1:Exit) (S1:A→AState) (e2:Exit) (S2:B→AState) (e3:Exit) (S3:C→AState):A⊕(B⊕C)→Exit→AState→Prop
 | .inl y,e',S'=>e'=e1∧Weak E S' (S1 y)
 | .inr (.inl y),e',S'=>e'=e2∧Weak E S' (S2 y)
 | .inr (.inr y),e',S'=>e'=e3∧Weak E S' (S3 y)
theorem avc_tail2 (y:A⊕B) (e1:Exit) (S1:A→AState) (e2:Exit) (S2:B→AState) (h:Avc P r E c (out2 E e1 S1 e2 S2 y) S) (k1:∀z,y= .inl z→K e1 (S1 z)) (k2:∀z,y= .inr z→K e2 (S2 z)):Avc P r E c K S:=by
 rcases y with y | y
 exact avc_tail (e:=e1) (S2:=S1 y) h (k1 y rfl)
 exact avc_tail (e:=e2) (S2:=S2 y) h (k2 y rfl)
theorem avc_tail3 (y:A⊕(B⊕C)) (e1:Exit) (S1:A→AState) (e2:Exit) (S2:B→AState) (e3:Exit) (S3:C→AState) (h:Avc P r E c (out3 E e1 S1 e2 S2 e3 S3 y) S) (k1:∀z,y= .inl z→K e1 (S1 z)) (k2:∀z,y= .inr (.inl z)→K e2 (S2 z)) (k3:∀z,y= .inr (.inr z)→K e3 (S3 z)):Avc P r E c K S:=by
 rcases y with y | y | y
 exact avc_tail (e:=e1) (S2:=S1 y) h (k1 y rfl)
 exact avc_tail (e:=e2) (S2:=S2 y) h (k2 y rfl)
 exact avc_tail (e:=e3) (S2:=S3 y) h (k3 y rfl)
end
end Go.AV
namespace Go.AV
open Go.RowKit Go.M
end Go.AV
namespace Go.M
def partM {α:Type} (f:List α→Option (List α)) (l:List α) (a b:Int):Option (List α):=
 if 0≤a∧a < b∧b.toNat≤l.length then (f ((l.drop a.toNat).take (b.toNat - a.toNat))).map fun m=>l.take a.toNat++m++l.drop b.toNat else none
end Go.M
namespace Go.AV
open Go.RowKit Go.M
end Go.AV
namespace Go.M
def sortRuns {α β:Type} (f:List α→Option (List α)) (lo hi: β→Int) (l:List α) (items:List β):Option (List α):=items.foldl (fun o x=>o.bind fun l=>partM f l (lo x) (hi x)) (some l)
noncomputable def outK {α β:Type} (f:List α→Option (List α)) (lo hi: β→Int) (l:List α) (items:List β) (k:Nat):List α:=(sortRuns f lo hi l (items.take k)).getD []
end Go.M
namespace Go.AV
open Go.RowKit Go.M
section
variable {P:Program} {r:Option Nat} {E:Env} {S:AState} {d:Nat} {ty:TypeId} {pos:String} {af:Array Edge} {g:Option (Nat×Bool)}
theorem NilL.app:∀{as bs cs ds:List DV},NilL as bs→NilL cs ds→NilL (as++cs) (bs++ds)
 | [],[],_,_,_,h=>h
 | [],_::_,_,_,h,_=>h.elim
 | _::_,[],_,_,h,_=>h.elim
 | _::_,_::_,_,_,h,k=>⟨h.1,NilL.app h.2 k⟩
theorem NilL.len:∀{as bs:List DV},NilL as bs→as.length=bs.length
 | [],[],_=>rfl
 | [],_::_,h=>h.elim
 | _::_,[],h=>h.elim
 | _::_,_::_,h=>by simp [NilL.len h.2]
variable {α:Type} {en:En α} {l:List α} {t e bytes:Nat} {z:Value} {x:Operand}
end
end Go.AV
namespace Go.AV
open Go.M
theorem wc {E:Env} {S S':AState} (ht:Cov S S'.tmps:=by repeat (first | exact trivial | refine ⟨rfl,?_⟩)) (hb:CovB S S'.blks:=by repeat (first | exact trivial | refine ⟨rfl,?_⟩)) (hgh:∀C w,E.fr S.ghost C w→E.fr S'.ghost C w:=by exact fun _ _ h=>h):Weak E S S':=weak_cov ht hb hgh
section
variable {P:Program} {r:Option Nat} {E:Env} {S S':AState} {l:List Oper} {J:AState→Prop} {fuel i d j t:Nat} {listed:List Bool} {is:List Nat} {o:Oper} {x:AV} {b:Bool} {ops:Array Oper} {rest:List Oper}
theorem xc (ho:l[i]? =some o) (h:AOp P r E S o d x) (k:AnyS P r E l J fuel (listed.set i true) (S.put d x)) (hg:o.guard=none:=by rfl):AnyE P r E l J fuel listed S [i]:=any_a ho hg h k any_nil
theorem xd (ho:l[i]? =some o) (h:Step P r E o S S') (k:AnyS P r E l J fuel (listed.set i true) S') (hg:o.guard=none:=by rfl):AnyE P r E l J fuel listed S [i]:=any_b ho hg h k any_nil
theorem ifM {c:Operand} {y z:Code} {K:Exit→AState→Prop} {α:Type} {A B:Option α} {q:Option α} (hc:S.ev c= .d (.v (.bool b))) (h:cond b A B=q) (k1:b=true→A=q→Avc P r E y K S) (k2:b=false→B=q→Avc P r E z K S):Avc P r E (.cond c y z) K S:=
 avc_if hc ⟨fun e=>k1 e (cT e h),fun e=>k2 e (cF e h)⟩
end
theorem co {F H G:Prop} (f:F) (k:H) (h:F→H→G:=by exact fun f k=>contract_of f (by kernel_rfl) rfl (lq rfl) (lq rfl) k):G:=h f k
theorem tl {E:Env} {P:Program} {r:Option Nat} {S:AState} {K:Exit→AState→Prop} {c:Code} (e:Exit) (S2:AState) (h1:Avc P r E c (outK E e S2) S) (h2:K e S2):Avc P r E c K S:=avc_tail h1 h2
theorem oi {α:Type} {a b: α} (h:some a=some b):a=b:=Option.some.inj h
end Go.AV
namespace Go.AV
open Go.RowKit Go.M
def pnd (a:Act) (vs:Nat→Value):List (Nat×Nat)→Act
 | []=>a
 | u::U=>(pnd a vs U).put (some u.2) (vs u.2)
def unf (listed:List Bool) (U:List (Nat×Nat)):List Bool:=(List.range listed.length).map fun k=>listed.getD k true&& !U.any fun u=>u.1==k
section
variable {P:Program} {r:Option Nat} {E:Env} {l:List Oper} {J:AState→Prop} {S:AState}
def FlS (P:Program) (r:Option Nat) (E:Env) (l:List Oper) (S:AState) (u:Nat×Nat):Prop:= ∃o,l[u.1]? =some o∧o.guard=none∧u.2∉o.looksAt l.toArray∧AOp P r E S o u.2 (S.get u.2)
def AnyF (P:Program) (r:Option Nat) (E:Env) (l:List Oper) (J:AState→Prop) (fl:List (Nat×Nat)) (fuel:Nat) (listed:List Bool) (S:AState):Prop:=
 ∀(U:List (Nat×Nat)),U.Nodup→(∀u∈U,u∈fl)→∀(vs:Nat→Value) (a:Act) (w:World),Sat E S (pnd a vs U) w→wpAnyIn (fen r) 0 P .any l.toArray (QJ E J) (fuel+U.length) (unf listed U).toArray a w
end
end Go.AV
namespace Go.AV
open Go.RowKit Go.M
section
variable {P:Program} {r:Option Nat} {E:Env} {l:List Oper} {J:AState→Prop} {S:AState} {fl:List (Nat×Nat)} {listed:List Bool} {fuel:Nat}
def FlA (P:Program) (r:Option Nat) (E:Env) (l:List Oper) (S:AState):List (Nat×Nat)→Prop
 | []=>True
 | u::fl=>FlS P r E l S u∧FlA P r E l S fl
theorem FlA.mem:∀{fl:List (Nat×Nat)},FlA P r E l S fl→∀u∈fl,FlS P r E l S u
 | [],_,u,h=>by cases h
 | v::fl,h,u,hu=>by
  rcases List.mem_cons.1 hu with e | hu
  rw [e];exact h.1
  exact h.2.mem u hu
def AnyG (P:Program) (r:Option Nat) (E:Env) (l:List Oper) (J:AState→Prop) (fl:List (Nat×Nat)) (fuel:Nat) (listed:List Bool) (S:AState):List Nat→Prop
 | []=>True
 | i::is=>(∃o S',l[i]? =some o∧o.guard=none∧Step P r E o S S'∧AnyF P r E l J fl fuel (listed.set i true) S')∧AnyG P r E l J fl fuel listed S is
theorem AnyG.mem:∀{is:List Nat} {i:Nat},AnyG P r E l J fl fuel listed S is→i∈is→∃o S',l[i]? =some o∧o.guard=none∧Step P r E o S S'∧AnyF P r E l J fl fuel (listed.set i true) S'
 | [],_,_,h=>by cases h
 | k::is,i,h,hi=>by
  rcases List.mem_cons.1 hi with e | hi
  subst e;exact h.1
  exact AnyG.mem h.2 hi
end
end Go.AV
namespace Go.M
end Go.M
namespace Go.AV
open Go.RowKit Go.M
end Go.AV
namespace Go.AV
open Go.RowKit Go.M
end Go.AV
namespace Go.M
end Go.M
namespace Go.M
theorem gT {α:Type} [Inhabited α] {m:Option α} {r: α} (h:gM true m=some r):m=some r:=h
end Go.M
namespace Go.AV
open Go.RowKit Go.M
end Go.AV
namespace Go.M
end Go.M
namespace Go.AV
open Go.RowKit Go.M
end Go.AV
namespace Go.M
end Go.M
namespace Go.AV
open Go.RowKit Go.M
end Go.AV
namespace Go.AV
end Go.AV
namespace Go.M
open Go.AV
end Go.M
namespace Go.AV
end Go.AV
namespace Go.AV
open Go.M
section
variable {α:Type} {x y: α} {G:Prop}
theorem es (h:some x=some y) (k:x=y→G:=by intro e;cases e;exact ret_1 rfl):G:=k (oi h)
theorem ex (h:some x=some y) (k:x=y→G:=by intro e;cases e;intro q;cases q;exact out_mk wc):G:=k (oi h)
end
end Go.AV
namespace Go.M
def mrun {α X Y:Type} (bs: α→X→Option (Stp X Y)) (bn:X→Option (Stp X Y)):List α→X→Option Y
 | [],x=>(bn x).bind fun s=>match s with | .next _=>none | .done y=>some y
 | e::p,x=>(bs e x).bind fun s=>match s with | .next x'=>mrun bs bn p x' | .done y=>some y
open Classical in
noncomputable def anyOrd {α β:Type} (m:List α) (f:List α→Option β):Option β:=
 if h:∃r,∀p,p.Perm m→f p=some r then some (Classical.choose h) else none
theorem anyOrd_all {α β:Type} {m:List α} {f:List α→Option β} {r: β} (h:anyOrd m f=some r):∀p,p.Perm m→f p=some r:=by
 unfold anyOrd at h
 split at h
 rename_i hx
 cases h
 exact Classical.choose_spec hx
 cases h
theorem anyOrd_eq {α β:Type} {m:List α} {f:List α→Option β} {r: β} (h:∀p,p.Perm m→f p=some r):anyOrd m f=some r:=by
 unfold anyOrd
 have hx:∃r,∀p,p.Perm m→f p=some r:=⟨r,h⟩
 rw [dif_pos hx]
 have h1:=Classical.choose_spec hx m (.refl _)
 rw [h m (.refl _)] at h1
 exact h1.symm
def atQ {α:Type} (m:List α) (q:List Nat):List α:=q.filterMap fun i=>m[i]?
theorem ext_perm:∀{q l:List Nat},q.Nodup→(∀i∈q,i∈l)→∃q',(q++q').Perm l
 | [],l,_,_=>⟨l,.refl _⟩
 | i::q,l,hn,hs=>by
  rw [List.nodup_cons] at hn
  obtain ⟨q',h⟩:=ext_perm (q:=q) (l:=l.erase i) hn.2 fun j hj=>by
   have:j≠i:=fun e=>hn.1 (e▸hj)
   exact (List.mem_erase_of_ne this).2 (hs j (List.mem_cons_of_mem _ hj))
  exact ⟨q',(List.Perm.cons i h).trans (List.perm_cons_erase (hs i (List.mem_cons_self ..))).symm⟩
theorem atQ_range {α:Type}:∀m:List α,atQ m (List.range m.length)=m
 | []=>rfl
 | x::m=>by
  unfold atQ
  rw [List.length_cons,List.range_succ_eq_map,List.filterMap_cons]
  simp only [List.getElem?_cons_zero,List.filterMap_map]
  have:=atQ_range m
  unfold atQ at this
  exact congrArg (x:: ·) this
theorem atQ_append {α:Type} (m:List α) (q q':List Nat):atQ m (q++q')=atQ m q++atQ m q':=by unfold atQ;exact List.filterMap_append ..
theorem atQ_perm {α:Type} {m:List α} {q:List Nat} (h:q.Perm (List.range m.length)):(atQ m q).Perm m:=by
 have:=List.Perm.filterMap (fun i=>m[i]?) h
 have e:=atQ_range m
 unfold atQ at e ⊢
 rw [e] at this
 exact this
theorem atQ_one {α:Type} {m:List α} {i:Nat} {e: α} (h:m[i]? =some e):atQ m [i]= [e]:=by simp [atQ,h]
theorem ord_ext {α : Type} {m : List α} {q : List Nat} (hn : q.Nodup) (hs : ∀ i ∈ q, i < m.length) {i : Nat} {e : α} (hi : m[i]? = some e) (hq : i ∉ q) :
    ∃ p', (atQ m q ++ e :: p').Perm m := by
  have hil : i < m.length := (List.getElem?_eq_some_iff.1 hi).1
  obtain ⟨q', h⟩ := ext_perm (q := q ++ [i]) (l := List.range m.length) (by
      rw [List.nodup_append]
      exact ⟨hn, by simp, fun a ha b hb e => by simp at hb; subst hb; subst e; exact hq ha⟩) (fun j hj => by
      rw [List.mem_append] at hj
      rcases hj with hj | hj
      · exact List.mem_range.2 (hs j hj)
      · simp at hj; subst hj; exact List.mem_range.2 hil)
  have := atQ_perm h
  rw [atQ_append, atQ_append, atQ_one hi, List.append_assoc] at this
  exact ⟨_, this⟩
theorem ord_all {α:Type} {m:List α} {q:List Nat} (hn:q.Nodup) (hs:∀i∈q,i < m.length) (ha:∀i,i < m.length→i∈q):(atQ m q).Perm m:=by
 obtain ⟨q',h⟩:=ext_perm (l:=List.range m.length) hn fun i hi=>List.mem_range.2 (hs i hi)
 have hnd:(q++q').Nodup:=(h.nodup_iff).2 List.nodup_range
 have:q'= []:=by
  cases q' with
  | nil=>rfl
  | cons j q'=>
   exfalso
   rw [List.nodup_append] at hnd
   have hj:j∈List.range m.length:=h.mem_iff.1 (by simp)
   exact hnd.2.2 j (ha j (List.mem_range.1 hj)) j (by simp) rfl
 subst this
 rw [List.append_nil] at h
 exact atQ_perm h
end Go.M
namespace Go.AV
open Go.RowKit Go.M
theorem mp_inv2 {w : World} {I : Im} {v : Value} {κ ν : Type} {kv : κ → Value} {ev : En ν} {m : List (κ × ν)} (h : Rep w I v (mpD kv ev m)) :
    ∃ b ents clock, v = .map (some b) ∧ w.heap[b]? = some (.map ents clock) ∧ I b 0 ∧ Pw (fun (x : MapEntry) (y : Value × DV) => x.key = y.1 ∧ Rep w I x.val y.2) ents.toList (mapE kv ev m) ∧ Born ents clock := by
  obtain ⟨b, ents, clock, hv, hh, hp⟩ := mp_inv h
  have h2 : I b 0 ∧ Born ents clock := by
    subst hv
    unfold mpD at h
    generalize (m.map fun p => kv p.1) = ks at h
    cases h with
    | mp _ clock' ents' _ hh' hI _ _ hN => rw [hh] at hh'; cases hh'; exact ⟨hI, hN⟩
  exact ⟨b, ents, clock, hv, hh, h2.1, hp, h2.2⟩
section
variable {P:Program} {r:Option Nat} {E:Env} {S:AState} {d:Nat} {ty:TypeId} {pos:String} {af:Array Edge} {g:Option (Nat×Bool)} {κ ν:Type} {kv: κ→Value} {ev:En ν} {m:List (κ×ν)} {t kt vt:TypeId} {x:Operand}
theorem m_range (hn : d < E.n) (ht : P.underlying t = some (.map kt vt)) (hx : S.ev x = .d (mpD kv ev m)) (hnm : E.nm d = none) :
    Step P r E ⟨some d, .range t x, ty, pos, af, g⟩ S (((S.kill d).setBlk d (.it (mapE kv ev m) [])).put d (.row d)) :=
  step_run (by simp) fun A w I ρ C hs => by
    have hI : ∀ b j, I b j → b < w.heap.size := fun b j h => (hs.old b j h).1
    have hv := hs.ev x
    rw [hx] at hv
    obtain ⟨bm, ents, clock, hv', hh, hbI, hp, hN⟩ := mp_inv2 hv
    have hlt := hI _ _ hbI
    have hsame : Same I w (w.alloc (.mapIter (some bm) clock #[] clock)) := same_alloc _ hI
    have hb := hs.update (grownBy_alloc' w (.mapIter (some bm) clock #[] clock)) (id := d) (u := .pointer (some ⟨w.heap.size, 0, none⟩)) (x := .it (mapE kv ev m) []) (by simp) hsame (fun b hb => .inl (by simp [blockOf] at hb; omega))
      ⟨w.heap.size, bm, ents, clock, #[], by simp [upd], E.mineB _ (E.size _ _ _ hs.frame), heap_alloc_new w _, fun j hj => by have := hI _ j hj; omega, (hsame _ _ hbI).map _ _ hh, hbI, hp.imp fun _ _ h => ⟨h.1, h.2.mono hsame (fun _ _ h => h)⟩, hN, rfl⟩ (.inl rfl) hnm
    refine ⟨.pointer (some ⟨w.heap.size, 0, none⟩), w.alloc (.mapIter (some bm) clock #[] clock), ?_, I, _, C, hb.put hn (by simp [Holds, upd])⟩
    simp only [execOp, hv', Instr.range, Sem.run_bind, run_underlying ht, Result.andThen_ok, getObj, Sem.run, hh, Result.andThen, Sem.run_pure, run_newObj_alloc]
theorem run_next_it {w : World} {b bm clock : Nat} {seen : Array Nat} {ents : Array MapEntry} {q : List Nat} (hr : w.heap[b]? = some (.mapIter (some bm) clock seen clock)) (hb : w.heap[bm]? = some (.map ents clock)) (hN : Born ents clock)
    (hq : seen.toList.map some = q.map fun i => (ents[i]?).map (·.born)) (ty : TypeId) :
    ((∀ i, i < ents.size → i ∈ q) ∧ (Instr.next (.pointer (some ⟨b, 0, none⟩)) false ty).run P w = .ok (.tuple #[.bool false]) w) ∨
    ∃ (i : Nat) (e : MapEntry) (w1 : World), ents[i]? = some e ∧ i ∉ q ∧ (w1 = w ∨ w1 = w.drew) ∧ (Instr.next (.pointer (some ⟨b, 0, none⟩)) false ty).run P w = .ok (.tuple #[.bool true, e.key, e.val]) (ChangeMaps.setBlock w1 b (.mapIter (some bm) clock (seen.push e.born) clock)) := by
  have hmem : ∀ (i : Nat) (e : MapEntry), ents[i]? = some e → (e.born ∈ seen.toList ↔ i ∈ q) := by
    intro i e hi
    have h1 : e.born ∈ seen.toList ↔ some e.born ∈ seen.toList.map some := by simp
    rw [h1, hq, List.mem_map]
    constructor
    · rintro ⟨j, hj, hje⟩
      cases hje' : ents[j]? with
      | none => rw [hje'] at hje; cases hje
      | some e2 =>
        rw [hje'] at hje
        have hbe : e2.born = e.born := by simpa using hje
        have hij : j = i := by
          have hjl := (Array.getElem?_eq_some_iff.1 hje').1
          have hil := (Array.getElem?_eq_some_iff.1 hi).1
          refine (List.getElem?_inj (l := ents.toList.map (·.born)) (by simpa using hjl) hN.nd).1 ?_
          rw [List.getElem?_map, List.getElem?_map, Array.getElem?_toList, Array.getElem?_toList, hje', hi]
          simp [hbe]
        exact hij ▸ hj
    · intro hj
      exact ⟨i, hj, by rw [hi]; rfl⟩
  rcases run_next_at w ty b bm clock clock seen ents clock hr hb hN.lt (Nat.le_refl _) with ⟨h0, h1⟩ | ⟨e, he, w1, hw1, h1⟩
  · refine .inl ⟨fun i hi => ?_, h1⟩
    have hi' : ents[i]? = some ents[i] := Array.getElem?_eq_getElem hi
    refine (hmem i _ hi').1 ?_
    unfold leftOf at h0
    rw [Array.size_eq_zero_iff, Array.filter_eq_empty_iff] at h0
    have := h0 ents[i] (Array.getElem_mem hi)
    simpa using this
  · refine .inr ?_
    unfold leftOf at he
    simp only [Array.toList_filter, List.mem_filter] at he
    obtain ⟨hm, hc⟩ := he
    obtain ⟨i, hi⟩ := List.mem_iff_getElem?.1 hm
    rw [Array.getElem?_toList] at hi
    refine ⟨i, e, w1, hi, fun hq' => ?_, hw1, h1⟩
    have := (hmem i e hi).2 hq'
    simp at hc
    exact hc (by simpa using this)
theorem wp_next {it : Operand} {id : Nat} {q : List Nat} (hn : d < E.n) (hi : S.ev it = .row id) (hb : S.blk id = .it (mapE kv ev m) q) (hE : E.wrB = true) {a : Act} {w : World} (hs : Sat E S a w) {K : Act → World → Prop} {Q : Exit → Act → World → Prop}
    (k1 : ∀ i k v, m[i]? = some (k, v) → i ∉ q → ∀ a' w', Sat E ((S.setBlk id (.it (mapE kv ev m) (q ++ [i]))).put d (.tup [.v (.bool true), .v (kv k), ev.dv v])) a' w' → K a' w')
    (k2 : (∀ i, i < m.length → i ∈ q) → ∀ a' w', Sat E (S.put d (.tup [.v (.bool false)])) a' w' → K a' w') :
    (⟨some d, .next it false, ty, pos, af, none⟩ : Oper).wpIn (fen r) 0 P a w K Q := by
  obtain ⟨I, ρ, C, hs⟩ := hs
  have hv := hs.ev it
  rw [hi] at hv
  have hk := hs.blks id
  rw [hb] at hk
  obtain ⟨b, bm, ents, clock, seen, hρ, hM, hh, hI, hm, hmI, hp, hN, hq⟩ := hk
  have hv' : a.eval it = .pointer (some ⟨b, 0, none⟩) := Eq.trans hv hρ
  have hsz : ents.size = m.length := by have := hp.1; simpa [mapE] using this
  refine ⟨fun f _ => trivial, ?_⟩
  rw [Oper.semAt_eq _ _ _ (by simp)]
  rcases run_next_it (P := P) hh hm hN hq ty with ⟨hall, h1⟩ | ⟨i, e, w1, hi1, hiq, hw1, h1⟩
  · have hx : (execOp a.eval ⟨some d, .next it false, ty, pos, af, none⟩).run P w = .ok (.value (.tuple #[.bool false])) w := by
      simp only [execOp, hv', Sem.run_bind, h1]; rfl
    rw [hx]
    exact k2 (fun i hi => hall i (by omega)) _ _ ⟨I, ρ, C, hs.put hn ⟨[.bool false], rfl, Pw.cons (.v _) Pw.nil⟩⟩
  · have hx : (execOp a.eval ⟨some d, .next it false, ty, pos, af, none⟩).run P w = .ok (.value (.tuple #[.bool true, e.key, e.val])) (ChangeMaps.setBlock w1 b (.mapIter (some bm) clock (seen.push e.born) clock)) := by
      simp only [execOp, hv', Sem.run_bind, h1]; rfl
    rw [hx]
    have hs1 : SatAt E S a w1 I ρ C := by
      rcases hw1 with rfl | rfl
      · exact hs
      · exact hs.grow (Below.drew (Below.refl _ _))
    have hh1 : w1.heap[b]? = some (.mapIter (some bm) clock seen clock) := by rcases hw1 with rfl | rfl <;> exact hh
    have hm1 : w1.heap[bm]? = some (.map ents clock) := by rcases hw1 with rfl | rfl <;> exact hm
    have hdr : Same I w w1 := by rcases hw1 with rfl | rfl <;> exact fun _ _ _ => KeepB.of rfl
    have hlt := (Array.getElem?_eq_some_iff.1 hh1).1
    have hil : i < m.length := by have := (Array.getElem?_eq_some_iff.1 hi1).1; omega
    have hmi : m[i]? = some m[i] := List.getElem?_eq_getElem hil
    have hpi := hp.2 i e (kv m[i].1, ev.dv m[i].2) (by rw [Array.getElem?_toList]; exact hi1) (by simp [mapE, hmi])
    have hg : w1.grownBy (ChangeMaps.setBlock w1 b (.mapIter (some bm) clock (seen.push e.born) clock)) (some b) :=
      ⟨rfl, rfl, rfl, by simp [ChangeMaps.setBlock], fun q _ hq => Array.getElem?_setIfInBounds_ne (fun e => hq (by rw [e]))⟩
    have hsame : Same I w1 (ChangeMaps.setBlock w1 b (.mapIter (some bm) clock (seen.push e.born) clock)) := fun b' j hi => by
      have : b' ≠ b := fun e => hI j (e ▸ hi)
      exact KeepB.of (Array.getElem?_setIfInBounds_ne (fun e => this e.symm))
    have hs2 := hs1.modify (x := .it (mapE kv ev m) (q ++ [i])) hg (by rw [hb]; simp) (by rw [hρ]; rfl) hsame
      ⟨b, bm, ents, clock, seen.push e.born, hρ, hM, by simp [ChangeMaps.setBlock, hlt], hI, (hsame _ _ hmI).map _ _ hm1, hmI, hp.imp fun _ _ h => ⟨h.1, (h.2.mono hdr (fun _ _ h => h)).mono hsame (fun _ _ h => h)⟩, hN, by simp [hq, hi1]⟩ hE
    refine k1 i m[i].1 m[i].2 hmi hiq _ _ ⟨I, ρ, C, hs2.put hn ⟨[.bool true, e.key, e.val], rfl, Pw.cons (.v _) (Pw.cons ?_ (Pw.cons ((hpi.2.mono hdr (fun _ _ h => h)).mono hsame (fun _ _ h => h)) Pw.nil))⟩⟩
    rw [hpi.1]
    exact .v _
theorem avc_next {rid : Nat} {it : Operand} {id : Nat} {q : List Nat} {rest : List Oper} {K : Exit → AState → Prop} (hn : d < E.n) (hi : S.ev it = .row id) (hb : S.blk id = .it (mapE kv ev m) q) (hE : E.wrB = true)
    (k1 : ∀ i k v, m[i]? = some (k, v) → i ∉ q → Sq P r E (⟨some d, .next it false, ty, pos, af, none⟩ :: rest).toArray rest ((S.setBlk id (.it (mapE kv ev m) (q ++ [i]))).put d (.tup [.v (.bool true), .v (kv k), ev.dv v])) (K .normal))
    (k2 : (∀ i, i < m.length → i ∈ q) → Sq P r E (⟨some d, .next it false, ty, pos, af, none⟩ :: rest).toArray rest (S.put d (.tup [.v (.bool false)])) (K .normal)) :
    Avc P r E (.region rid (⟨some d, .next it false, ty, pos, af, none⟩ :: rest).toArray false) K S := fun a w hs =>
  wpIn_region_lit (wpListIn_step fun K' hK => by
    rw [if_pos (by simp [Region.wanted])]
    exact wp_next hn hi hb hE hs
      (fun i k v h1 h2 a' w' hs' => hK a' w' (Sq.wp rest (k1 i k v h1 h2) a' w' hs' fun S' _ _ hj hs' => ⟨S', hj, hs'⟩))
      (fun h1 a' w' hs' => hK a' w' (Sq.wp rest (k2 h1) a' w' hs' fun S' _ _ hj hs' => ⟨S', hj, hs'⟩)))
theorem m_entry {it : Operand} {id i : Nat} {q : List Nat} {k : κ} {v : ν} (hn : d < E.n) (hi : S.ev it = .row id) (hb : S.blk id = .it (mapE kv ev m) (q ++ [i])) (hm : m[i]? = some (k, v)) :
    AOp P r E S ⟨some d, .entry it, ty, pos, af, g⟩ d (.tup [.v (kv k), ev.dv v]) :=
  ⟨rfl, hn, fun S' ha => step_value rfl hn (by simp) fun A w I ρ C hs => by
    have hv := hs.ev it
    rw [(ha.ev (by simp [Op.operands])).trans hi] at hv
    have hbk := hs.blks id
    rw [(ha.blk id).trans hb] at hbk
    obtain ⟨b, bm, ents, clock, seen, hρ, _, hh, _, hmm, _, hp, hN, hq⟩ := hbk
    have hv' : A.eval it = .pointer (some ⟨b, 0, none⟩) := Eq.trans hv hρ
    have hsz : ents.size = m.length := by have := hp.1; simpa [mapE] using this
    have hil : i < ents.size := by have := (List.getElem?_eq_some_iff.1 hm).1; omega
    have hie : ents[i]? = some ents[i] := Array.getElem?_eq_getElem hil
    have hpi := hp.2 i ents[i] (kv k, ev.dv v) (by rw [Array.getElem?_toList]; exact hie) (by simp [mapE, hm])
    have hl : seen.toList.length = q.length + 1 := by have := congrArg List.length hq; simpa using this
    have hlast : seen.back? = some ents[i].born := by
      have h1 : seen.toList[q.length]?.map some = some (some ents[i].born) := by
        rw [← List.getElem?_map, hq]; simp [hie]
      rw [Array.back?_eq_getElem?]
      have : seen.size - 1 = q.length := by simp at hl; omega
      rw [this, ← Array.getElem?_toList]
      cases hx : seen.toList[q.length]? with
      | none => rw [hx] at h1; cases h1
      | some u => rw [hx] at h1; simpa using h1
    have hf : ents.find? (·.born == ents[i].born) = some ents[i] := by rw [← Array.find?_toList]; exact find_born ents[i] ents.toList hN.nd (Array.getElem_mem_toList hil)
    refine ⟨.tuple #[ents[i].key, ents[i].val], ?_, [ents[i].key, ents[i].val], rfl, Pw.cons (by rw [hpi.1]; exact .v _) (Pw.cons hpi.2 Pw.nil)⟩
    simp only [execOp, hv', Instr.entry, getObj, Sem.run_bind, Sem.run, hh, hmm, Result.andThen, hlast, bne_self_eq_false, Bool.false_eq_true, if_false, hf]
    rfl⟩
def roundO {X Y:Type} (E:Env) (T:X→AState) (ex:Y→Exit) (st:Y→AState):Stp X Y→Exit→AState→Prop
 | .next x',.normal,S=>Weak E S (T x')
 | .next _,_,_=>False
 | .done _,.normal,_=>False
 | .done y,e,S=>e=ex y∧Weak E S (st y)
section
variable {α X Y:Type}
def CanS (m:List α) (q:List Nat) (bs: α→X→Option (Stp X Y)) (x:X):Prop:= ∀i e,m[i]? =some e→i∉q→∃s,bs e x=some s
def CanN (m:List α) (q:List Nat) (bn:X→Option (Stp X Y)) (x:X):Prop:=(∀i,i < m.length→i∈q)→∃s,bn x=some s
def roundQ (E:Env) (m:List α) (q:List Nat) (bs: α→X→Option (Stp X Y)) (bn:X→Option (Stp X Y)) (x:X) (T:List Nat→X→AState) (ex:Y→Exit) (st:Y→AState):Exit→AState→Prop:=fun e S'=>
 (∃i u s,m[i]? =some u∧i∉q∧bs u x=some s∧roundO E (T (q++ [i])) ex st s e S')∨∃s,(∀i,i < m.length→i∈q)∧bn x=some s∧roundO E (T q) ex st s e S'
end
theorem avc_mapLoop {c : Code} {X Y R : Type} {K : Exit → AState → Prop} {bs : κ × ν → X → Option (Stp X Y)} {bn : X → Option (Stp X Y)} {x0 : X} {rest : Y → Option R} {res : R} (ex : Y → Exit) (st : Y → AState) (T : List Nat → X → AState)
    (h : anyOrd m (fun p => (mrun bs bn p x0).bind rest) = some res) (hS : Weak E S (T [] x0))
    (round : ∀ q x, CanS m q bs x → CanN m q bn x → Avc P r E c (roundQ E m q bs bn x T ex st) (T q x))
    (tail : ∀ y, rest y = some res → K (ex y) (st y)) : Avc P r E (.loop c) K S := by
  have hall := anyOrd_all h
  have key : Avc P r E (.loop c) (fun e S' => ∃ y, rest y = some res ∧ e = ex y ∧ Weak E S' (st y)) S := by
    refine avc_loop (ι := List Nat × X) (fun p => T p.1 p.2) (fun p => p.1.Nodup ∧ (∀ i ∈ p.1, i < m.length) ∧ ∀ p', mrun bs bn (atQ m p.1 ++ p') x0 = mrun bs bn p' p.2) (fun p => m.length - p.1.length) ([], x0) ⟨List.nodup_nil, by simp, fun _ => rfl⟩ hS ?_
    rintro ⟨q, x⟩ ⟨hn, hs, hp⟩
    have hql : q.length ≤ m.length := by
      obtain ⟨q', h⟩ := ext_perm (l := List.range m.length) hn fun i hi => List.mem_range.2 (hs i hi)
      have := h.length_eq
      simp at this
      omega
    have f1 : ∀ i e, m[i]? = some e → i ∉ q → ∃ s, bs e x = some s ∧ (∀ y, s = .done y → rest y = some res) ∧ ∀ x', s = .next x' → ∀ p', mrun bs bn (atQ m (q ++ [i]) ++ p') x0 = mrun bs bn p' x' := by
      intro i e hi hq
      obtain ⟨p', hpp⟩ := ord_ext hn hs hi hq
      have h1 := hall _ hpp
      rw [hp] at h1
      simp only [mrun] at h1
      cases hb : bs e x with
      | none => rw [hb] at h1; cases h1
      | some s =>
        rw [hb] at h1
        refine ⟨s, rfl, fun y hy => ?_, fun x' hx' p2 => ?_⟩
        · subst hy; exact h1
        · subst hx'
          rw [atQ_append, atQ_one hi, List.append_assoc, hp]
          simp only [List.cons_append, List.nil_append, mrun, hb]
          rfl
    have f2 : (∀ i, i < m.length → i ∈ q) → ∃ y, bn x = some (.done y) ∧ rest y = some res := by
      intro ha
      have h1 := hall _ (ord_all hn hs ha)
      have h2 := hp []
      rw [List.append_nil] at h2
      rw [h2] at h1
      simp only [mrun] at h1
      cases hb : bn x with
      | none => rw [hb] at h1; cases h1
      | some s =>
        rw [hb] at h1
        cases s with
        | next x' => cases h1
        | done y => exact ⟨y, rfl, h1⟩
    refine avc_mono (round q x (fun i e hi hq => let ⟨s, h, _⟩ := f1 i e hi hq; ⟨s, h⟩) (fun ha => let ⟨y, h, _⟩ := f2 ha; ⟨_, h⟩)) fun e S' hk => ?_
    rcases hk with ⟨i, u, s, hi, hq, hb, hk⟩ | ⟨s, ha, hb, hk⟩
    · obtain ⟨s', hb', hd, hx⟩ := f1 i u hi hq
      rw [hb] at hb'; cases hb'
      cases s with
      | next x' =>
        cases e with
        | normal =>
          have hil := (List.getElem?_eq_some_iff.1 hi).1
          refine ⟨(q ++ [i], x'), ⟨?_, ?_, hx x' rfl⟩, ?_, hk⟩
          · rw [List.nodup_append]
            exact ⟨hn, by simp, fun a ha b hb e => by simp at hb; subst hb; subst e; exact hq ha⟩
          · intro j hj
            rw [List.mem_append] at hj
            rcases hj with hj | hj
            · exact hs j hj
            · simp at hj; subst hj; exact hil
          · have : q.length ≠ m.length := by
              intro e
              obtain ⟨q', h⟩ := ext_perm (q := q ++ [i]) (l := List.range m.length) (by
                rw [List.nodup_append]
                exact ⟨hn, by simp, fun a ha b hb e => by simp at hb; subst hb; subst e; exact hq ha⟩) (fun j hj => by
                rw [List.mem_append] at hj
                rcases hj with hj | hj
                · exact List.mem_range.2 (hs j hj)
                · simp at hj; subst hj; exact List.mem_range.2 hil)
              have := h.length_eq
              simp at this
              omega
            simp
            omega
        | _ => exact hk.elim
      | done y =>
        cases e with
        | normal => exact hk.elim
        | _ => exact ⟨y, hd y rfl, hk.1, hk.2⟩
    · obtain ⟨y, hb', hd⟩ := f2 ha
      rw [hb] at hb'; cases hb'
      cases e with
      | normal => exact hk.elim
      | _ => exact ⟨y, hd, hk.1, hk.2⟩
  exact fun a w hs => wpIn_mono (key a w hs) fun e' a' w' ⟨S', ⟨y, hy, he, hw⟩, hs'⟩ => by
    subst he
    exact ⟨st y, tail y hy, hw a' w' hs'⟩
section
variable {X Y:Type} {bs: κ×ν→X→Option (Stp X Y)} {bn:X→Option (Stp X Y)} {ex:Y→Exit} {st:Y→AState} {T:List Nat→X→AState} {q:List Nat} {x:X} {s:Stp X Y} {c:Code} {ops:Array Oper} {l:List Oper}
theorem Sq.mono {J J':AState→Prop} (hj:∀S,J S→J' S):∀(l:List Oper) {S:AState},Sq P r E ops l S J→Sq P r E ops l S J'
 | [],_,h=>hj _ h
 | _::l,_,⟨S',h,k⟩=>⟨S',h,Sq.mono hj l k⟩
theorem next_some {i : Nat} {u : κ × ν} (h : CanS m q bs x) (hi : m[i]? = some u) (hq : i ∉ q) (k : ∀ s, bs u x = some s → Sq P r E ops l S (thenC P r E c (roundO E (T (q ++ [i])) ex st s) .normal)) :
    Sq P r E ops l S (thenC P r E c (roundQ E m q bs bn x T ex st) .normal) :=
  let ⟨s, hb⟩ := h i u hi hq
  Sq.mono (fun _ h => avc_mono h fun _ _ hk => .inl ⟨i, u, s, hi, hq, hb, hk⟩) l (k s hb)
theorem next_none (h : CanN m q bn x) (ha : ∀ i, i < m.length → i ∈ q) (k : ∀ s, bn x = some s → Sq P r E ops l S (thenC P r E c (roundO E (T q) ex st s) .normal)) :
    Sq P r E ops l S (thenC P r E c (roundQ E m q bs bn x T ex st) .normal) :=
  let ⟨s, hb⟩ := h ha
  Sq.mono (fun _ h => avc_mono h fun _ _ hk => .inr ⟨s, ha, hb, hk⟩) l (k s hb)
end
end
section
variable {E:Env} {S:AState}
theorem SatAt.relabel {a:Act} {w:World} {I:Im} {ρ:Nat→Value} {C:Nat→Prop} (h:SatAt E S a w I ρ C) {t:Nat} {x:AV} (hn:t < E.n) (hx:Holds w I ρ (a.tmps.getD t undef) x):SatAt E (S.put t x) a w I ρ C:=by
 refine ⟨fun u=>?_,h.blks,h.dist,by rw [ghost_put _ _ hn];exact h.frame,h.sub,h.old,h.size,h.defers,h.cI,h.cB,h.nm⟩
 rw [get_put]
 by_cases e:t=u
 subst e;simpa using hx
 simp only [e,if_false];exact h.tmps u
theorem weak_map_d {κ ν : Type} {kv : κ → Value} {ev : En ν} {m : List (κ × ν)} {t id : Nat} (hn : t < E.n) (ht : S.get t = .row id) (hr : S.blk id = .map (mapE kv ev m)) :
    Weak E S ((S.setBlk id .none).put t (.d (mpD kv ev m))) := by
  rintro a w ⟨I, ρ, C, h⟩
  have hk := h.blks id
  rw [hr] at hk
  obtain ⟨b, ents, clock, hρ, hM, hh, hp, hI, hN⟩ := hk
  have h2 := h.giveUp (id := id) (b := b) (by rw [hr]; simp) (by rw [hρ]; rfl)
  have hv := h.tmps t
  rw [ht] at hv
  refine ⟨_, ρ, C, h2.relabel hn ?_⟩
  have hv' : a.tmps.getD t undef = .map (some b) := Eq.trans hv hρ
  rw [hv']
  exact mp_mk hh (.inr rfl) (hp.imp fun _ _ q => ⟨q.1, q.2.mono (same_refl I w) fun _ _ h => .inl h⟩) hN
end
end Go.AV
namespace Go.M
def sortI (l:List Int):Option (List Int):=if l.length≤LIM then some (l.mergeSort fun x y=>decide (x≤y)) else none
end Go.M
namespace Go.AV
open Go.RowKit Go.M Go.Sort
section
variable {P:Program} {α:Type} [Inhabited α]
theorem heap_put {w : World} {g n off : Nat} {os : Array Obj} {cur : Array Value} {e : TypeId} {fr : Nat × Nat} (encV : α → Value) (d : Array α) (hb : w.heap[g]? = some (.cells cur e fr)) :
    (grow (putRow encV (Sort.ahead w n) g off d) os).heap[g]? = some (.cells (putCells encV off d cur) e fr) := by
  have hg : g < w.heap.size := (Array.getElem?_eq_some_iff.1 hb).1
  rw [heap_grow_old _ _ (by simpa using hg)]
  simp [putRow, mapBlock, Sort.ahead, Array.getElem?_modify, hb, onCells]
theorem heap_put_other {w : World} {g n off k : Nat} {os : Array Obj} (encV : α → Value) (d : Array α) (hk : k < w.heap.size) (hne : k ≠ g) :
    (grow (putRow encV (Sort.ahead w n) g off d) os).heap[k]? = w.heap[k]? := by
  rw [heap_grow_old _ _ (by simpa using hk)]
  have : g ≠ k := fun e => hne e.symm
  simp [putRow, mapBlock, Sort.ahead, Array.getElem?_modify, this]
theorem gc_sort {f : FuncId} {e : Nat} {en : En α} {encV : α → Value} (hv : ∀ x, en.dv x = .v (encV x)) (hsz : en.size = 1) (h1 : ∀ x, (encV x).oneCell' = true) {l r : List α} (hl : r.length = l.length)
    (hfn : ∃ fn, P.funcs[f]? = some fn ∧ (fn.name == "runtime.NumGoroutine") = false ∧ fn.body.isNone = false)
    (hnil : l = [] → ∀ (A : Option Addr) (c : Nat) (w : World), Calls P f #[.slice A 0 c] w fun en w' => en = .returned (.tuple #[]) ∧ w' = w)
    (hcall : ∀ (blk off cap : Nat) (w : World), Sort.Holds encV w blk off l.toArray → blk < w.heap.size → Calls P f #[.slice (some ⟨blk, off, none⟩) l.length cap] w fun en w' =>
      en = .returned (.tuple #[]) ∧ ∃ n os, w' = grow (putRow encV (Sort.ahead w n) blk off r.toArray) os) :
    GC P f [.row 0] [(0, .win e en.size 0 (en.all l))] [0] [] [(0, .win e en.size 0 (en.all r))] := by
  have hall : ∀ m : List α, en.all m = m.map fun x => DV.v (encV x) := fun m => by
    have : en.cells = fun x => [DV.v (encV x)] := by funext x; simp [En.cells, hv, flatDV]
    simp only [En.all, this]
    induction m with
    | nil => rfl
    | cons x m ih => simp [ih]
  refine ⟨hfn, fun w I ρ vs hI hG hfrag hvs => ?_⟩
  have hlen := hvs.1
  match vs, hlen with
  | [v0], _ =>
    have hv0 : v0 = ρ 0 := hvs.2 0 v0 (.row 0) rfl rfl
    subst hv0
    have hk := hfrag.ok 0
    have hlk : look Blk.none [(0, Blk.win e en.size 0 (en.all l))] 0 = .win e en.size 0 (en.all l) := rfl
    rw [hlk] at hk
    obtain ⟨A, n, c, xs, hρ, hnc, hp, hcl, hr, hx1, hA⟩ := hk
    have hn : n = l.length := by rw [all_len] at hcl; exact (Nat.eq_of_mul_eq_mul_right hp hcl).symm
    subst hn
    have hxs : xs = l.map encV := by
      have hrl : xs.length = l.length := by have := hr.1; rw [hall] at this; simpa using this
      apply List.ext_getElem?
      intro j
      by_cases hj : j < xs.length
      · have hxj : xs[j]? = some xs[j] := List.getElem?_eq_getElem hj
        have hlj : l[j]? = some (l[j]'(by omega)) := List.getElem?_eq_getElem (by omega)
        have := hr.2 j xs[j] (.v (encV (l[j]'(by omega)))) hxj (by rw [hall]; simp [hlj])
        rw [hxj, List.getElem?_map, hlj, rep_v this]
        rfl
      · rw [List.getElem?_eq_none (by omega), List.getElem?_eq_none (by simp; omega)]
    have own : ∀ b, ownedBy [(0, Blk.win e en.size 0 (en.all l))] ρ b ↔ blockOf (ρ 0) = some b := by
      intro b
      constructor
      · rintro ⟨id, hne, hb⟩
        by_cases e0 : 0 = id
        · subst e0; exact hb
        · exact absurd (by rw [look_cons]; simp [e0, look]) hne
      · intro hb; exact ⟨0, by rw [hlk]; simp, hb⟩
    have own' : ∀ b (ρ' : Nat → Value), ownedBy [(0, Blk.win e en.size 0 (en.all r))] ρ' b → blockOf (ρ' 0) = some b := by
      rintro b ρ' ⟨id, hne, hb⟩
      by_cases e0 : 0 = id
      · subst e0; exact hb
      · exact absurd (by rw [look_cons]; simp [e0, look]) hne
    rcases hA with ⟨rfl, hl0⟩ | ⟨b, off, arr, rfl, _, hh, hfit, hc, hIw⟩
    · have hlnil : l = [] := List.eq_nil_of_length_eq_zero hl0
      have hrnil : r = [] := List.eq_nil_of_length_eq_zero (by omega)
      subst hlnil; subst hrnil
      have hcl := hnil rfl none c w
      rw [hρ]
      refine hcl.mono ?_
      rintro en' w' ⟨rfl, rfl⟩
      exact ⟨_, I, ρ, rfl, Chg.refl _ _, same_refl _ _, fun _ _ h => h, fun b j hi => ⟨hI b j hi, .inl hi⟩, hfrag, ⟨[], rfl, Pw.nil⟩, fun b hb => by have := own' b ρ hb; rw [hρ] at this; simp [blockOf] at this, fun _ _ _ => rfl⟩
    · have hb : b < w.heap.size := (Array.getElem?_eq_some_iff.1 hh).1
      rw [hsz, Nat.mul_one] at hfit hIw
      have hH : Sort.Holds encV w b off l.toArray := by
        intro j hj
        have hj' : j < l.length := by simpa using hj
        refine ⟨?_, by simp [World.frozen?, hh]⟩
        rw [cell_of_row w b (off + j) arr e (0, 0) hh]
        have := hc j (encV (l[j])) (by rw [hxs, List.getElem?_map, List.getElem?_eq_getElem hj']; rfl)
        rw [this]
        congr 2
        simp [hj']
      rw [hρ]
      refine (hcall b off c w hH hb).mono ?_
      rintro en' w' ⟨rfl, q, os, rfl⟩
      have hsame : Same I w (grow (putRow encV (Sort.ahead w q) b off r.toArray) os) := by
        intro b' j hi
        by_cases e' : b' = b
        · subst e'
          have hout : j < off ∨ off + l.length ≤ j := by
            rcases Nat.lt_or_ge j off with h | h
            · exact .inl h
            · rcases Nat.lt_or_ge j (off + l.length) with h2 | h2
              · have := hIw j h h2 hi; omega
              · exact .inr h2
          refine KeepB.ofCell hh ?_
          rw [cell_of_row _ b' j _ e (0, 0) (heap_put encV r.toArray hh), cell_of_row w b' j arr e (0, 0) hh]
          simp only [putCells, Array.getElem?_mapIdx, List.size_toArray, hl]
          have : ¬ (off ≤ j ∧ j < off + l.length) := by omega
          simp [this]
        · exact KeepB.of (heap_put_other encV _ (hI b' j hi) e')
      have hbo : blockOf (ρ 0) = some b := by rw [hρ]; rfl
      refine ⟨_, I, ρ, rfl, ⟨rfl, rfl, rfl, by simp, fun k hk hne => heap_put_other encV _ hk (fun e' => hne (by rw [own, hbo, e']))⟩, hsame, fun _ _ h => h, fun b' j hi => ⟨by have := hI b' j hi; simp; omega, .inl hi⟩, ⟨fun id => ?_, fun id id' b' hne h1' h2' => ?_⟩, ⟨[], rfl, Pw.nil⟩, fun b' hb' => ?_, fun _ _ _ => rfl⟩
      · by_cases e0 : 0 = id
        · subst e0
          show BlkOk _ I ρ _ 0 (.win e en.size 0 (en.all r))
          refine ⟨_, l.length, c, r.map encV, hρ, hnc, hp, by rw [all_len, hl], ?_, by simpa using fun x _ => h1 x, .inr ⟨b, off, putCells encV off r.toArray arr, rfl, trivial, heap_put encV _ hh, ?_, fun j x hj => ?_, fun j hj1 hj2 hi => by rw [hsz, Nat.mul_one] at hj2; have := hIw j hj1 (by omega) hi; omega⟩⟩
          · rw [hall]
            refine ⟨by simp, fun j x d hx hd => ?_⟩
            rw [List.getElem?_map] at hx hd
            cases hr' : r[j]? with
            | none => simp [hr'] at hx
            | some y => simp [hr'] at hx hd; subst hx; subst hd; exact .v _
          · rw [hsz]; simp [putCells]; omega
          · rw [List.getElem?_map] at hj
            cases hr' : r[j]? with
            | none => simp [hr'] at hj
            | some y =>
              simp [hr'] at hj; subst hj
              have hjl : j < r.length := (List.getElem?_eq_some_iff.1 hr').1
              simp only [putCells, Array.getElem?_mapIdx, List.size_toArray]
              have hlt : off + j < arr.size := by omega
              rw [Array.getElem?_eq_getElem hlt]
              have hin : off ≤ off + j ∧ off + j < off + r.length := by omega
              simp only [Option.map_some, hin, and_self, if_true]
              have e3 : off + j - off = j := by omega
              rw [e3]
              congr 2
              have : r[j]? = some r[j] := List.getElem?_eq_getElem hjl
              rw [this] at hr'; cases hr'
              simp [hjl]
        · have : look Blk.none [(0, Blk.win e en.size 0 (en.all r))] id = .none := by rw [look_cons]; simp [e0, look]
          rw [this]; trivial
      · exfalso
        by_cases e0 : 0 = id
        · have : look Blk.none [(0, Blk.win e en.size 0 (en.all r))] id' = .none := by rw [look_cons]; simp [show ¬ 0 = id' from fun e1 => hne (e0.symm.trans e1), look]
          exact h2' this
        · have : look Blk.none [(0, Blk.win e en.size 0 (en.all r))] id = .none := by rw [look_cons]; simp [e0, look]
          exact h1' this
      · have h2 := own' b' ρ hb'
        refine ⟨?_, .inr ((own b').2 h2)⟩
        rw [hbo] at h2; cases h2; simp; omega
end
end Go.AV
namespace Go.AV
open Go.RowKit Go.M
def Opens (P:Program) (t:TypeId) {α:Type} (en:En α) (ok: α→Prop):Prop:=
 ∀(H:Type) (enc:TypeId×Value→H) (w:World) (base:Nat) (spare:Nat→Bool) (held:Bool) (fuel:Nat) (cs:List Value) (x:DataW H×List MemPlace),DataW.trod enc P w base spare held fuel t cs=some x→
  ∃a,ok a∧Reps w (oldI w) cs (en.cells a)∧∀c∈cs,c.oneCell'=true
section
variable {P:Program} {t:TypeId}
theorem opens_i64 (ht:P.underlying t=some (.int .i64)):Opens P t eI (fun n=> -9223372036854775808≤n∧n≤9223372036854775807):=by
 intro H enc w base spare held fuel cs x h
 obtain ⟨n,rfl,_,hw⟩:=DataW.trod_int ht h
 refine ⟨n,?_,Pw.cons (.v _) Pw.nil,by simp [Value.oneCell']⟩
 simp only [Lit.wf,Bool.and_eq_true,decide_eq_true_eq] at hw
 exact hw
theorem opens_str (ht:P.underlying t=some .string):Opens P t eS (fun s=>s.length≤9223372036854775807):=by
 intro H enc w base spare held fuel cs x h
 obtain ⟨s,rfl,_,hs⟩:=DataW.trod_string ht h
 refine ⟨s.data.toList,hs,Pw.cons ?_ Pw.nil,by simp [Value.oneCell']⟩
 have:ds s.data.toList= .v (.string s):=by simp [ds]
 show Rep _ _ _ (ds s.data.toList)
 rw [this]
 exact .v _
theorem reps_flat_list {w:World} {I:Im} {α:Type} (en:En α):∀(css:List (List Value)) (l:List α),Pw (fun cs a=>Reps w I cs (en.cells a)) css l→Reps w I css.flatten (en.all l)
 | [],l,h=>by cases l with
  | nil=>exact Pw.nil
  | cons a l=>have:=h.1;simp at this
 | cs::css,l,h=>by cases l with
  | nil=>have:=h.1;simp at this
  | cons a l=>
   obtain ⟨h1,h2⟩:=pw_tail h
   exact Pw.append h1 (reps_flat_list en css l h2)
theorem choose_list {α β : Type} {R : Nat → α → β → Prop} (n : Nat) (h : ∀ i, i < n → ∃ a b, R i a b) : ∃ (as : List α) (bs : List β), as.length = n ∧ bs.length = n ∧ ∀ i a b, as[i]? = some a → bs[i]? = some b → R i a b := by
  induction n with
  | zero => exact ⟨[], [], rfl, rfl, fun i a b h => by simp at h⟩
  | succ n ih =>
    obtain ⟨as, bs, h1, h2, h3⟩ := ih fun i hi => h i (by omega)
    obtain ⟨a, b, hab⟩ := h n (by omega)
    refine ⟨as ++ [a], bs ++ [b], by simp [h1], by simp [h2], fun i x y hx hy => ?_⟩
    by_cases hi : i < n
    · rw [List.getElem?_append_left (by omega)] at hx hy; exact h3 i x y hx hy
    · have : i = n := by
        have := (List.getElem?_eq_some_iff.1 hx).1
        simp [h1] at this; omega
      subst this
      rw [List.getElem?_append_right (by omega), h1] at hx
      rw [List.getElem?_append_right (by omega), h2] at hy
      simp at hx hy; subst hx; subst hy; exact hab
theorem flatten_get {α:Type} {css:List (List α)} {n:Nat} (h:∀cs∈css,cs.length=n) {j:Nat} {x: α} (hj:css.flatten[j]? =some x):∃cs,css[j / n]? =some cs∧cs[j % n]? =some x∧0 < n:=by
 induction css generalizing j with
 | nil=>simp at hj
 | cons cs css ih=>
  have hl:=h cs (by simp)
  rw [List.flatten_cons] at hj
  by_cases hlt:j < cs.length
  rw [List.getElem?_append_left hlt] at hj
  have hn:0 < n:=by omega
  refine ⟨cs,?_,?_,hn⟩
  rw [Nat.div_eq_of_lt (by omega)];rfl
  rw [Nat.mod_eq_of_lt (by omega)];exact hj
  rw [List.getElem?_append_right (by omega)] at hj
  obtain ⟨c2,h1,h2,hn⟩:=ih (fun c hc=>h c (by simp [hc])) hj
  rw [hl] at h1 h2
  have e:j=(j - n)+n:=by omega
  refine ⟨c2,?_,?_,hn⟩
  rw [e,Nat.add_div_right _ hn];simpa using h1
  rw [e,Nat.add_mod_right];exact h2
theorem opens_slice {e : TypeId} {α : Type} {en : En α} {ok : α → Prop} (ht : P.underlying t = some (.slice e)) (hc : P.cellsOf e = en.size) (hp : 0 < en.size) (he : Opens P e en ok) :
    Opens P t (eL en) (fun l => l.length ≤ 9223372036854775807 ∧ ∀ x ∈ l, ok x) := by
  intro H enc w base spare held fuel cs x h
  rcases DataW.trod_slice ht h with ⟨rfl, _⟩ | ⟨a, len, cap, elems, rest, n, _, rfl, _, hb, hl, hm, hlen, hel, _, _⟩
  · exact ⟨[], ⟨by simp, by simp⟩, Pw.cons (.nil _ _ _) Pw.nil, by simp [Value.oneCell']⟩
  · obtain ⟨css, l, h1, h2, h3⟩ := choose_list (R := fun i (cs' : List Value) (y : α) => ok y ∧ Reps w (oldI w) cs' (en.cells y) ∧ (∀ c ∈ cs', c.oneCell' = true) ∧ cs'.length = en.size ∧ ∀ j, j < en.size → w.cell? ((a.add (i * en.size)).add j) = cs'[j]?) len (fun i hi => by
      have h1 := hel i hi
      have h2 : elems[i]? = some (elems[i]'(by omega)) := List.getElem?_eq_getElem (by omega)
      rw [h2, Option.bind_eq_some_iff] at h1
      obtain ⟨cs', hcs, hy⟩ := h1
      obtain ⟨y, q1, q2, q3⟩ := he _ _ _ _ _ _ _ _ _ hy
      rw [hc] at hcs
      obtain ⟨_, r1, r2⟩ := World.cells?_some hcs
      exact ⟨cs', y, q1, q2, q3, r1, r2⟩)
    have hlens : ∀ cs ∈ css, cs.length = en.size := fun cs hcs => by
      obtain ⟨i, hi⟩ := List.getElem?_of_mem hcs
      have hil := (List.getElem?_eq_some_iff.1 hi).1
      have : l[i]? = some (l[i]'(by omega)) := List.getElem?_eq_getElem (by omega)
      exact (h3 i cs _ hi this).2.2.2.1
    refine ⟨l, ⟨by unfold maxLen at hm; omega, fun y hy => ?_⟩, Pw.cons ?_ Pw.nil, by simp [Value.oneCell']⟩
    · obtain ⟨i, hi⟩ := List.getElem?_of_mem hy
      have hil := (List.getElem?_eq_some_iff.1 hi).1
      have : css[i]? = some (css[i]'(by omega)) := List.getElem?_eq_getElem (by omega)
      exact (h3 i _ y this hi).1
    · show Rep w (oldI w) _ (dsl en l)
      by_cases h0 : len = 0
      · subst h0
        have : l = [] := List.eq_nil_of_length_eq_zero h2
        subst this
        exact .nil _ _ _
      · obtain ⟨b, off, spot⟩ := a
        have hcell0 : ∀ (j : Nat) v, css.flatten[j]? = some v → ∃ i k, j = i * en.size + k ∧ k < en.size ∧ w.cell? (((⟨b, off, spot⟩ : Addr).add (i * en.size)).add k) = some v := by
          intro j v hj
          obtain ⟨cs, q1, q2, _⟩ := flatten_get hlens hj
          have hil := (List.getElem?_eq_some_iff.1 q1).1
          have hli : l[j / en.size]? = some (l[j / en.size]'(by omega)) := List.getElem?_eq_getElem (by omega)
          have := (h3 _ cs _ q1 hli).2.2.2.2 (j % en.size) (Nat.mod_lt _ hp)
          exact ⟨j / en.size, j % en.size, (Nat.div_add_mod' j en.size).symm, Nat.mod_lt _ hp, by rw [this]; exact q2⟩
        have hspot : spot = none := by
          have hne : css.flatten ≠ [] := by
            intro e
            have := congrArg List.length e
            cases css with
            | nil => simp at h1; omega
            | cons c css =>
              have := hlens c (by simp)
              simp at e
              have := e.1
              rw [this] at *
              simp_all
          obtain ⟨v, hv⟩ : ∃ v, css.flatten[0]? = some v := by
            cases hf : css.flatten with
            | nil => exact absurd hf hne
            | cons v _ => exact ⟨v, rfl⟩
          obtain ⟨i, k, hik, hk, hcell⟩ := hcell0 0 v hv
          have hi0 : i * en.size = 0 := by omega
          have hk0 : k = 0 := by omega
          rw [hi0, hk0] at hcell
          simp only [Addr.add, if_true, World.cell?] at hcell
          cases spot with
          | none => rfl
          | some s => cases hb : w.heap[b]? with
            | none => simp [hb] at hcell
            | some o => cases o <;> simp [hb] at hcell
        subst hspot
        have hreps := reps_flat_list (w := w) (I := oldI w) en css l ⟨by omega, fun j cs y hcs hy => (h3 j cs y hcs hy).2.1⟩
        refine .sl b off len cap en.size css.flatten (en.all l) (by omega) hl (by rw [all_len, h2]) hreps.1 (fun j v hj => ?_) (fun v hv => ?_) hreps.2
        · obtain ⟨i, k, hik, hk, hcell⟩ := hcell0 j v hj
          rw [add_lit, add_lit] at hcell
          have e2 : off + i * en.size + k = off + j := by omega
          rw [e2] at hcell
          refine ⟨hcell, ?_⟩
          show b < w.heap.size
          unfold World.cell? at hcell
          cases hb : w.heap[b]? with
          | none => simp [hb] at hcell
          | some o => exact (Array.getElem?_eq_some_iff.1 hb).1
        · obtain ⟨cs, hcs, hv'⟩ := List.mem_flatten.1 hv
          obtain ⟨i, hi⟩ := List.getElem?_of_mem hcs
          have hil := (List.getElem?_eq_some_iff.1 hi).1
          have : l[i]? = some (l[i]'(by omega)) := List.getElem?_eq_getElem (by omega)
          exact (h3 i cs _ hi this).2.2.1 v hv'
theorem open_part {fs : Array Field} {H : Type} {enc : TypeId × Value → H} {w : World} {base : Nat} {spare : Nat → Bool} {held : Bool} {fuel : Nat} {cs : List Value} {x : DataW H × List MemPlace} (ht : P.underlying t = some (.struct fs))
    (h : DataW.trod enc P w base spare held fuel t cs = some x) {k : Nat} {α : Type} {en : En α} {ok : α → Prop} {ft : TypeId} {off : Nat} (hf : (fs[k]?).map (fun f => (f.offset, f.type)) = some (off, ft)) (hc : P.cellsOf ft = en.size) (he : Opens P ft en ok) :
    ∃ a, ok a ∧ Reps w (oldI w) ((cs.drop off).take en.size) (en.cells a) ∧ ∀ c ∈ (cs.drop off).take en.size, c.oneCell' = true := by
  obtain ⟨xs, n, _, _, hl, hxl, hel⟩ := DataW.trod_struct ht h
  cases hk : fs[k]? with
  | none => simp [hk] at hf
  | some f =>
    simp [hk] at hf
    obtain ⟨rfl, rfl⟩ := hf
    have h1 := hel k f hk
    have hlt : k < xs.length := by rw [hxl]; exact (Array.getElem?_eq_some_iff.1 hk).1
    rw [List.getElem?_eq_getElem hlt, hc] at h1
    exact he _ _ _ _ _ _ _ _ _ h1
theorem struct_len {fs : Array Field} {H : Type} {enc : TypeId × Value → H} {w : World} {base : Nat} {spare : Nat → Bool} {held : Bool} {fuel : Nat} {cs : List Value} {x : DataW H × List MemPlace} (ht : P.underlying t = some (.struct fs))
    (h : DataW.trod enc P w base spare held fuel t cs = some x) : cs.length = P.cellsOf t := by
  obtain ⟨xs, n, _, _, hl, _⟩ := DataW.trod_struct ht h; exact hl
theorem parts_nil {w:World} {I:Im} {cs:List Value} {off:Nat} (h:cs.length=off):Reps w I (cs.drop off) []∧∀c∈cs.drop off,c.oneCell'=true:=by
 rw [List.drop_eq_nil_of_le (by omega)];exact ⟨Pw.nil,by simp⟩
theorem parts_cons {w:World} {I:Im} {cs:List Value} {off n:Nat} {d1 d2:List DV} (h1:Reps w I ((cs.drop off).take n) d1) (o1:∀c∈(cs.drop off).take n,c.oneCell'=true) (h2:Reps w I (cs.drop (off+n)) d2∧∀c∈cs.drop (off+n),c.oneCell'=true):Reps w I (cs.drop off) (d1++d2)∧∀c∈cs.drop off,c.oneCell'=true:=by
 have e:cs.drop off=(cs.drop off).take n++cs.drop (off+n):=by rw [←List.drop_drop,List.take_append_drop]
 rw [e]
 exact ⟨Pw.append h1 h2.1,fun c hc=>by rcases List.mem_append.1 hc with h | h;exact o1 c h;exact h2.2 c h⟩
theorem arg_rep {H : Type} {enc : TypeId × Value → H} {w : World} {base : Nat} {spare : Nat → Bool} {held : Bool} {v : Value} {x : DataW H} {ps : List MemPlace} {α : Type} {en : En α} {ok : α → Prop} (he : Opens P t en ok) (h : DataW.Trod enc P w base spare held t v x ps)
    (hv : (v.cells = #[v] ∧ en.size = 1 ∧ (∀ a, flatDV (en.dv a) = [en.dv a])) ∨ (∃ cs, v = .agg cs ∧ ∀ a, ∃ es, en.dv a = .agg es)) : ∃ a, ok a ∧ Rep w (oldI w) v (en.dv a) := by
  obtain ⟨fuel, hf⟩ := h
  obtain ⟨a, h1, h2, h3⟩ := he _ _ _ _ _ _ _ _ _ hf
  refine ⟨a, h1, ?_⟩
  rcases hv with ⟨e1, e2, e3⟩ | ⟨cs, rfl, e⟩
  · rw [e1] at h2
    simp only [En.cells, e3] at h2
    exact h2.2 0 v (en.dv a) rfl rfl
  · obtain ⟨es, he'⟩ := e a
    simp only [En.cells, he', flatDV, Value.cells] at h2 h3
    rw [he']
    have := Rep.agg (w := w) (I := oldI w) cs.toList es h2.1 h3 h2.2
    rwa [Array.toArray_toList] at this
end
end Go.AV


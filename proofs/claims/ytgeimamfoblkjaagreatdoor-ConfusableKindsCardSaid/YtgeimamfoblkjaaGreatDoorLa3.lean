/- The layer of abstract values: what a temporary holds, said once; every rule of it is proved from the model. Conditions: none. -/
import Derived.Test.YtgeimamfoblkjaaGreatDoorLa2
import Derived.Maps.RangeRun
import Derived.Sort.Grow
import Derived.Sort.EncStr
import Derived.Lib.SlicesCompact
import Derived.Lib.ItoaLen
import Derived.ChangeArms
import Derived.OpenShut
import Derived.WideShapes
set_option linter.unusedSimpArgs false
set_option linter.unusedVariables false
set_option linter.unnecessarySimpa false
namespace Go.AV
open Go.RowKit Go.M
section
variable {P:Program} {r:Option Nat} {E:Env} {S:AState} {d:Nat} {ty:TypeId} {pos:String} {af:Array Edge} {g:Option (Nat×Bool)}
section win
variable {t e size bytes k n:Nat} {z:Value} {x:Operand} {id:Nat} {cells:List DV}
theorem zU8 {ix:Operand} {kk:IntKind} {i:Int} {j:Nat} (hn:d<E.n) (hT:SlTy P t e size bytes z) (hx:S.ev x= .row id) (hb:S.blk id= .win e size k cells) (hi:S.ev ix= .d (.v (.int kk i))) (hj:i=(j:Int)) (hl:cells.length=n*size) (hlt:j<n):
  AOp P r E S ⟨some d,.indexAddr t x ix,ty,pos,af,g⟩ d (.wp id (j*size)):=
 ⟨rfl,hn,fun S' ha=>kC rfl hn (by simp) fun A w I ρ C hs=>by
  subst hj;have h1:=hs.ev x;rw[(ha.ev (x:=x) (by simp[Op.operands])).trans hx] at h1;have hv:A.eval x= ρ id:=h1;have hk:=hs.blks id;rw[(ha.blk id).trans hb] at hk;obtain⟨_,A',c,xs,hρ,hcap,_,_,hadr⟩:=zX4 hk hl;obtain⟨b,off,arr,rfl,_⟩:=hadr (by omega);have hiv:=hs.val ((ha.ev (x:=ix) (by simp[Op.operands])).trans hi);refine⟨_,?_,b,off,n,c,hρ,rfl⟩;simp only[execOp,hv,hρ,hiv,Sem.run_bind,zHB w hT.und (hT.size w) b off n c kk j hlt];rfl⟩
theorem zZ8 {tt:TypeId} {off:Nat} {y:DV} (hn:d<E.n) (hT:OneTy P tt) (hx:S.ev x= .wp id off) (hb:S.blk id= .win e size k cells) (hc:cells[off]? =some y):
  AOp P r E S ⟨some d,.load tt x,ty,pos,af,g⟩ d (.d y):=
 ⟨rfl,hn,fun S' ha=>kC rfl hn (by simp) fun A w I ρ C hs=>by
  have h1:=hs.ev x;rw[(ha.ev (x:=x) (by simp[Op.operands])).trans hx] at h1;obtain⟨b,o,n0,c0,hρ,hv⟩:=h1;have hk:=hs.blks id;rw[(ha.blk id).trans hb] at hk;obtain⟨A',n',c,xs,hρ',hnc,hp,hl',hr,h1',hA⟩:=hk;rw[hρ] at hρ';cases hρ';have hlt:off<xs.length:=by rw[hr.1];exact(List.getElem?_eq_some_iff.1 hc).1
  have hxx:=List.getElem?_eq_getElem hlt;rcases hA with ⟨hA,_⟩ | ⟨b',off',arr,hA,hM,hh,hf,hcc,hI⟩
  ·cases hA
  ·cases hA
   refine⟨xs[off],?_,hr.2 off _ y hxx hc⟩;have hcell:w.cell? ⟨b,o+off,none⟩=some xs[off]:=by rw[cell_of_row w b (o+off) arr e (0,0) hh];exact hcc off _ hxx
   simp only[execOp,hv,Sem.run_bind,zE4 w hT b _ _ hcell];rfl⟩
theorem SatAt.spliceW {A:Act} {w:World} {I:Im} {ρ:Nat→Value} {C:Nat→Prop} (hs:SatAt E S A w I ρ C) {off b o:Nat} {news:List DV} {ys:List Value} {n0 c0:Nat} (hb:S.blk id= .win e size k cells) (hρ: ρ id= .slice (some ⟨b,o,none⟩) n0 c0)
  (hk:k*size≤off) (hfit:off+news.length≤cells.length) (hpos:0<news.length) (hpy:Reps w I ys news) (h1y:∀u∈ys,u.oneCell'=true) (hE:E.wrB=true):
  ∃w',(storeCells ⟨b,o+off,none⟩ ys).run P w= .ok () w'∧SatAt E (S.setBlk id (.win e size k (spl cells off news))) A w' I ρ C:=by
 have hbk:=hs.blks id;rw[hb] at hbk;obtain⟨A',n',c,xs,hρ',hnc,hp,hl',hr,h1',hA⟩:=hbk;have hρ2:=hρ';rw[hρ] at hρ';cases hρ';have hyl:ys.length=news.length:=hpy.1;rcases hA with ⟨hA,h0⟩ | ⟨b',off',arr,hA,hM,hh,hf,hcc,hI⟩
 ·cases hA
 ·cases hA
  have hst:=run_storeCells_at P b (o+off) e ys 0 arr w hh (by omega) h1y;simp only[Nat.add_zero] at hst;have hsame:Same I w (w.setRow b (arr.toList.take (o+off)++ys++arr.toList.drop (o+off+ys.length)).toArray):=by
   intro b2 j hi;by_cases e':b2=b
   ·subst e'
    refine KeepB.ofCell hh (zM3 hh _ ?_);have hout:j<o+off∨o+off+ys.length≤j:=by
     rcases Nat.lt_or_ge j o with h | h
     ·left;omega
     ·rcases Nat.lt_or_ge j (o+n0*size) with h2 | h2
      ·have:=hI j h h2 hi;left;omega
      ·right;omega
    have hjs:o+off+ys.length≤arr.size:=by omega
    simp only[List.getElem?_toArray,List.append_assoc];rcases hout with h | h
    ·rw[List.getElem?_append_left (by simp;omega),List.getElem?_take,if_pos h];simp
    ·rw[List.getElem?_append_right (by simp;omega),List.getElem?_append_right (by simp;omega),List.getElem?_drop]
     simp only[List.length_take,Array.length_toList];rw[show o+off+ys.length+(j-min (o+off) arr.size-ys.length)=j by omega];simp
   ·exact KeepB.of (setRow_other w b b2 _ e')
  have hspl:(spl cells off news).length=cells.length:=by simp[spl];omega
  refine⟨_,hst,hs.modify (zCS w b _) (by rw[hb];simp) (by rw[hρ];rfl) hsame ⟨_,n0,c0,xs.take off++ys++xs.drop (off+ys.length),hρ2,hnc,hp,by rw[hspl,hl'],?_,?_,.inr ⟨b,o,_,rfl,hM,setRow_heap w b arr _ e _ hh,?_,?_,hI⟩⟩ hE⟩
  ·have hr':=hr.mono hsame (fun _ _ h=>h)
   have hpy':=hpy.mono hsame (fun _ _ h=>h);unfold spl;rw[←hyl];exact Pw.append (Pw.append (hr'.take off) hpy') (hr'.drop (off+ys.length))
  ·intro v hv'
   simp only[List.mem_append] at hv';rcases hv' with (hv' | hv') | hv'
   ·exact h1' v (List.mem_of_mem_take hv')
   ·exact h1y v hv'
   ·exact h1' v (List.mem_of_mem_drop hv')
  ·simp;omega
  ·intro j u hj
   have hxl:xs.length=cells.length:=hr.1;have hjl:j<(xs.take off++ys++xs.drop (off+ys.length)).length:=(List.getElem?_eq_some_iff.1 hj).1;simp only[List.length_append,List.length_take,List.length_drop] at hjl;simp only[List.getElem?_toArray,List.append_assoc] at hj ⊢;rcases Nat.lt_or_ge j off with h | h
   ·rw[List.getElem?_append_left (by simp;omega),List.getElem?_take,if_pos h] at hj
    rw[List.getElem?_append_left (by simp;omega),List.getElem?_take,if_pos (by omega)]
    have:=hcc j u hj;simpa using this
   ·rcases Nat.lt_or_ge j (off+ys.length) with h2 | h2
    ·rw[List.getElem?_append_right (by simp;omega),List.getElem?_append_left (by simp;omega)] at hj
     rw[List.getElem?_append_right (by simp;omega),List.getElem?_append_left (by simp;omega)]
     simp only[List.length_take,Array.length_toList] at hj ⊢;rw[show o+j-min (o+off) arr.size=j-min off xs.length by omega];exact hj
    ·rw[List.getElem?_append_right (by simp;omega),List.getElem?_append_right (by simp;omega),List.getElem?_drop] at hj
     rw[List.getElem?_append_right (by simp;omega),List.getElem?_append_right (by simp;omega),List.getElem?_drop]
     simp only[List.length_take,Array.length_toList] at hj ⊢;rw[show off+ys.length+(j-min off xs.length-ys.length)=j by omega] at hj;have:=hcc j u hj;rw[show o+off+ys.length+(o+j-min (o+off) arr.size-ys.length)=o+j by omega];simpa using this
theorem zXC {tt:TypeId} {y:Operand} {off:Nat} {u:DV} (hT:OneTy P tt) (hx:S.ev x= .wp id off) (hb:S.blk id= .win e size k cells) (hk:k*size≤off) (hlt:off<cells.length) (hy:S.ev y= .d u) (h1:(AV.d u).one=true) (hE:E.wrB=true):
  j9 P r E ⟨none,.store tt x y,ty,pos,af,g⟩ S (S.setBlk id (.win e size k (cells.set off u))):=
 zER rfl (by simp) fun A w I ρ C hs=>by
  have h:=hs.ev x;rw[hx] at h;obtain⟨b,o,n0,c0,hρ,hv⟩:=h;have hyv:=hs.ev y;rw[hy] at hyv;have hone:=zSE hs.blks hyv h1 (by intro _ e;cases e)
  obtain⟨w',hst,hsat⟩:=hs.spliceW (P:=P) (off:=off) (news:=[u]) (ys:=[A.eval y]) hb hρ hk (by simp only[List.length_cons,List.length_nil];omega) (by simp) (Pw.cons hyv Pw.nil) (by simpa using hone) hE
  refine⟨w',?_,I,ρ,C,?_⟩
  ·simp only[execOp,hv,Instr.storeAt,Instr.sureAddr,storeVar,Sem.run_bind,Sem.run_pure,Result.andThen_ok,hT.agg,hT.size,zJS hone]
   simp[hst]
  ·have e1:spl cells off [u]=cells.set off u:=by
    unfold spl;rw[List.set_eq_take_append_cons_drop,if_pos hlt];simp
   rw[e1] at hsat;exact hsat
end win
end
end Go.AV
namespace Go.AV
open Go.RowKit Go.M
section
variable {P:Program} {r:Option Nat} {E:Env} {S:AState} {d:Nat} {ty:TypeId} {pos:String} {af:Array Edge} {g:Option (Nat×Bool)}
inductive View (S:AState):AV→DV→Prop
 | d (x:DV):View S (.d x) x
 | win {id e size k:Nat} {cells:List DV} (h:S.blk id= .win e size k cells):View S (.row id) (.sl size cells)
 | ws {id e size k off n N:Nat} {tt:Bool} {cells:List DV} (h:S.blk id= .win e size k cells) (hl:cells.length=N*size) (hf:off+n≤N):View S (.ws id (off*size) n tt) (.sl size ((cells.drop (off*size)).take (n*size)))
theorem zKG {t e:TypeId} (hu:P.underlying t=some (.slice e)) (B:Option Addr) (n c:Nat) (w:World):(Op.equal t (.slice B n c) (.slice none 0 0)).run P w= .ok B.isNone w:=by show (Op.equalIn (9999+1) t (.slice B n c) (.slice none 0 0)).run P w=_;rw[Op.equalIn];cases B<;>simp[run_underlying hu]
theorem z5I {t e:TypeId} {x:Operand} {size:Nat} {cells:List DV} {tz:TypeId} (hn:d<E.n) (hu:P.underlying t=some (.slice e)) (hx:S.ev x= .d (.sl size cells)) (hne:cells≠[]):
  AOp P r E S ⟨some d,.binOp .eql t x (.const (.slice none 0 0)) tz,ty,pos,af,g⟩ d (.d (.v (.bool false))):=
 ⟨rfl,hn,fun S' ha=>jQ rfl hn (by simp) fun A w I ρ C hs=>by
  have h1:=hs.ev x;rw[(ha.ev (x:=x) (by simp[Op.operands])).trans hx] at h1;obtain⟨B,n,c,xs,hv,_,hl,_,_,hadr⟩:=Rep.sl_inv h1;have hpos:0<n:=by
   rcases Nat.eq_zero_or_pos n with h | h
   ·subst h;exact absurd (List.eq_nil_of_length_eq_zero (by omega)) hne
   ·exact h
  obtain⟨b,off,rfl,_⟩:=hadr hpos;have hc:A.eval (.const (.slice none 0 0))= .slice none 0 0:=rfl;have hb:binOp .eql t (.slice (some ⟨b,off,none⟩) n c) (.slice none 0 0)=(do pure (.bool (←Op.equal t (.slice (some ⟨b,off,none⟩) n c) (.slice none 0 0)))):=rfl;have hg:eqGuard .eql t x (.const (.slice none 0 0)) (.slice (some ⟨b,off,none⟩) n c) (.slice none 0 0)=pure ():=rfl;simp only[execOp,hv,hc,hb,hg,Sem.run_bind,Sem.run_pure,Result.andThen_ok,zKG hu];rfl⟩
theorem zZ9 {t e:TypeId} {x:Operand} {B:Option Addr} {n c:Nat} {tz:TypeId} (hn:d<E.n) (hu:P.underlying t=some (.slice e)) (hx:S.ev x= .d (.v (.slice B n c))):
  AOp P r E S ⟨some d,.binOp .eql t x (.const (.slice none 0 0)) tz,ty,pos,af,g⟩ d (.d (.v (.bool B.isNone))):=
 ⟨rfl,hn,fun S' ha=>jQ rfl hn (by simp) fun A w I ρ C hs=>by
  have hv:=hs.val ((ha.ev (x:=x) (by simp[Op.operands])).trans hx);have hc:A.eval (.const (.slice none 0 0))= .slice none 0 0:=rfl;have hb:binOp .eql t (.slice B n c) (.slice none 0 0)=(do pure (.bool (←Op.equal t (.slice B n c) (.slice none 0 0)))):=rfl;have hg:eqGuard .eql t x (.const (.slice none 0 0)) (.slice B n c) (.slice none 0 0)=pure ():=rfl;simp only[execOp,hv,hc,hb,hg,Sem.run_bind,Sem.run_pure,Result.andThen_ok,zKG hu]⟩
theorem zSR {t:Nat} {B:Option Addr} {c:Nat} (size:Nat) (hn:t<E.n) (ht:S.get t= .d (.v (.slice B 0 c))):zGG E S (S.put t (.d (.sl size []))):=by
 rintro a w ⟨I,ρ,C,h⟩
 refine⟨I,ρ,C,⟨fun u=>?_,h.blks,h.dist,by rw[zDA _ _ hn];exact h.frame,h.sub,h.old,h.size,h.defers,h.cI,h.cB,h.nm⟩⟩
 rw[zBD];by_cases e:t=u;subst e;simp only[if_true];have:=h.tmps t;rw[ht] at this;generalize a.tmps.getD t undef=v at this ⊢;have h':Rep w I v (.v (.slice B 0 c)):=this;cases h';exact .nil _ _ _;simp only[e,if_false];exact h.tmps u
end
theorem z18 {P:Program} {f:FuncId} {size:Nat} {T T':List (Nat×Blk)} {keep:List Nat} {rets:List Cap} (hp:0<size) (h:∀B c,GC P f [.d (.v (.slice B 0 c))] T keep rets T'):GC P f [.d (.sl size [])] T keep rets T':=by
 refine⟨(h none 0).1,fun w I ρ vs hI hG hf hv=>?_⟩
 match vs,hv.1 with
 | [v],_=>
  have hr:Rep w I v (.sl size []):=hv.2 0 v (.d (.sl size [])) rfl rfl;cases hr with
  | nil A c=>exact(h A c).2 w I ρ _ hI hG hf (Pw.cons (show HoldsC w I ρ _ (.d (.v _)) from .v _) Pw.nil)
  | sl b off n c size xs cells hn hcap hl=>exact absurd hl (by have:=Nat.mul_pos hn hp;simp only[List.length_nil];omega)
end Go.AV
namespace Go.AV
open Go.RowKit Go.M
section
variable {P:Program} {r:Option Nat} {E:Env} {S:AState} {d:Nat} {ty:TypeId} {pos:String} {af:Array Edge} {g:Option (Nat×Bool)}
section lists
variable {α:Type} {en:En α} {l l':List α} {t e bytes k:Nat} {z:Value} {x:Operand} {id:Nat}
theorem z8D (hn:d<E.n) (hT:SlTy P t e en.size bytes z) (hx:S.ev x= .row id) (hb:S.blk id= .win e en.size k (en.all l)):
  AOp P r E S ⟨some d,.call {callee:= .builtin .len,args:= #[x],argTypes:= #[t]},ty,pos,af,g⟩ d (.d (.v (.int .i64 l.length))):=zZ6 hn hT hx hb (vW en l)
theorem yD {ix:Operand} {kk:IntKind} {i:Int} {v: α} (hn:d<E.n) (hT:SlTy P t e en.size bytes z) (hx:S.ev x= .row id) (hb:S.blk id= .win e en.size k (en.all l)) (hi:S.ev ix= .d (.v (.int kk i))) (hv:kV l i=some v):
  AOp P r E S ⟨some d,.indexAddr t x ix,ty,pos,af,g⟩ d (.wp id (i.toNat*en.size)):=
 zU8 hn hT hx hb hi (uL hv).2.1 (vW en l) (uL hv).2.2.1
theorem kN {tt:TypeId} {i:Int} {v: α} {y:DV} (hn:d<E.n) (hT:OneTy P tt) (hx:S.ev x= .wp id (i.toNat*en.size)) (hb:S.blk id= .win e en.size k (en.all l)) (hv:kV l i=some v) (hy:(en.cells v)[0]? =some y):
  AOp P r E S ⟨some d,.load tt x,ty,pos,af,g⟩ d (.d y):=
 zZ8 hn hT hx hb (by have:=zSJ en (uL hv).2.2.2 0 (by rw[←en.len v];exact(List.getElem?_eq_some_iff.1 hy).1);rw[Nat.add_zero] at this;rw[this];exact hy)
theorem kH {tt:TypeId} {y:Operand} {i:Int} {v: α} {u:DV} {w0: α} (hT:OneTy P tt) (hx:S.ev x= .wp id (i.toNat*en.size)) (hb:S.blk id= .win e en.size 0 (en.all l)) (hs1:en.size=1) (hi:kV l i=some w0) (hv:zBE l i v=some l') (hy:S.ev y= .d u) (hu:en.cells v= [u]) (h1:(AV.d u).one=true) (hE:E.wrB=true):
  j9 P r E ⟨none,.store tt x y,ty,pos,af,g⟩ S (S.setBlk id (.win e en.size 0 (en.all l'))):=by
 obtain⟨rfl,h2,h3⟩:=zMJ hv;have hl:=vW en l;rw[hs1,Nat.mul_one] at hl;have hx':S.ev x= .wp id i.toNat:=by rw[hx,hs1,Nat.mul_one]
 have:=zXC (P:=P) (r:=r) (ty:=ty) (pos:=pos) (af:=af) (g:=g) hT hx' hb (by omega) (by omega) hy h1 hE;have e1:en.all (l.set i.toNat v)=(en.all l).set i.toNat u:=by
  unfold En.all;clear hi hx hx' hl hb hv this h2 h3
  induction l generalizing i with
  | nil=>rfl
  | cons a l ih=>
   have ha:(en.cells a).length=1:=by rw[en.len,hs1]
   match hca:en.cells a,ha with
   | [q],_=>
    cases hi:i.toNat with
    | zero=>simp[hca,hu]
    | succ j=>
     have:=ih (i:=(j:Int));simp only[Int.toNat_natCast] at this;simp only[List.set_cons_succ,List.flatMap_cons,hca,this,List.singleton_append,List.set_cons_succ]
 rw[e1];exact this
end lists
end
end Go.AV
namespace Go.AV
open Go.RowKit Go.M
theorem z8E {α:Type} {en:En α} {x: α} {l:List α} (h:0<en.size):en.all (x::l)≠[]:=by intro hc;have:=congrArg List.length hc;rw[vW,List.length_cons,List.length_nil,Nat.add_mul] at this;omega
theorem zNA {P:Program} {α:Type} {w:World} {F: α→PUnit→Sem (ForInStep PUnit)}:∀(fs:List α),(∀f∈fs,(F f ()).run P w= .ok (.yield ()) w)→(forIn fs () F).run P w= .ok () w
 | [],_=>by simp
 | f::fs,h=>by
  have ih:=zNA fs fun g hg=>h g (by simp[hg]);rw[List.forIn_cons];simp only[Sem.run_bind,h f (by simp),Result.andThen_ok,ih]
def zSS:TypeDesc→Bool
 | .int _ | .string | .bool=>true
 | _=>false
theorem zU9 {P:Program} {t:TypeId} {ds:TypeDesc} (hu:P.underlying t=some ds) (hp:zSS ds=true) (v:Value) (n:Nat) (b:Bool) (w:World):(Instr.checkKey b (n+1) t v).run P w= .ok () w:=by
 simp only[Instr.checkKey,Sem.run_bind,run_underlying hu,Result.andThen_ok];cases ds<;>first | (simp[zSS] at hp;done) | (cases v<;>rfl)
theorem zXD {P:Program} {kt:TypeId} {fields:Array Field} {vals:List Value} (hu:P.underlying kt=some (.struct fields))
  (hf:∀f∈fields.toList,OneTy P f.type∧(∃ds,P.underlying f.type=some ds∧zSS ds=true)∧f.offset<vals.length) (b:Bool) (w:World):(Instr.checkKey b 10000 kt (.agg vals.toArray)).run P w= .ok () w:=by
 show (Instr.checkKey b (9999+1) kt (.agg vals.toArray)).run P w=_;rw[Instr.checkKey];simp only[Sem.run_bind,run_underlying hu,Result.andThen_ok];rw[←Array.forIn_toList];refine(congrArg (fun q=>Result.andThen q _) (zNA _ fun f hi=>?_)).trans (by simp);obtain⟨h1,⟨ds,h2,h3⟩,h4⟩:=hf f hi;have:=zU9 h2 h3 (vals[f.offset]'h4) 9998 b w;simp only[show (9998+1)=9999 from rfl] at this;have hpart:(part f.type vals.toArray f.offset).run P w= .ok (vals[f.offset]'h4) w:=zJK h1.agg (by simp[h4]) w;by_cases hn:f.name= "_"
 ·simp[hn]
 ·simp only[ne_eq,hn,not_false_eq_true,if_true,Sem.run_bind,hpart,Result.andThen_ok,this]
  rfl
end Go.AV
namespace Go.AV
open Go.RowKit Go.M
def QJ (E:Env) (J:AState→Prop):Exit→Act→World→Prop
 | .normal,a,w=> ∃S,J S∧Sat E S a w
 | _,_,_=>False
def zIJ (P:Program) (r:Option Nat) (E:Env) (l:List Oper) (J:AState→Prop) (fuel:Nat) (listed:List Bool) (S:AState):Prop:=
 ∀a w,Sat E S a w→wpAnyIn (fen r) 0 P .any l.toArray (QJ E J) fuel listed.toArray a w
def AnyE (P:Program) (r:Option Nat) (E:Env) (l:List Oper) (J:AState→Prop) (fuel:Nat) (listed:List Bool) (S:AState):List Nat→Prop
 | []=>True
 | i::is=>(∃o S',l[i]? =some o∧zUF P r E l.toArray o S S'∧zIJ P r E l J fuel (listed.set i true) S')∧AnyE P r E l J fuel listed S is
section
variable {P:Program} {r:Option Nat} {E:Env} {l:List Oper} {J:AState→Prop} {fuel:Nat} {listed:List Bool} {S:AState}
theorem AnyE.mem:∀{is:List Nat} {i:Nat},AnyE P r E l J fuel listed S is→i∈is→∃o S',l[i]? =some o∧zUF P r E l.toArray o S S'∧zIJ P r E l J fuel (listed.set i true) S'
 | [],_,_,h=>by cases h
 | k::is,i,h,hi=>by
  rcases List.mem_cons.1 hi with e | hi;subst e;exact h.1;exact AnyE.mem h.2 hi
def rdy (l:List Oper) (ls:List Bool):List Nat:=(List.range l.length).filter fun i=>!ls.getD i true&&(match l[i]? with | none=>true | some o=>(aft o).all fun j=>ls.getD j false)
theorem zX5 {i:Nat} (h:i∈Region.ready .any l.toArray listed.toArray):i∈rdy l listed:=by
 obtain⟨h1,h2,h3⟩:=zIF h;simp only[rdy,List.mem_filter,List.mem_range,Bool.and_eq_true,Bool.not_eq_true'];have e:∀k b,listed.toArray.getD k b=listed.getD k b:=fun k b=>by simp[Array.getD_eq_getD_getElem?,List.getD_eq_getElem?_getD]
 refine⟨h1,by rw[←e];exact h2,?_⟩
 have ho:=List.getElem?_eq_getElem h1;rw[ho];simp only[List.all_eq_true];intro j hj;rw[←e];exact h3 _ ho j hj
theorem zX6 {i:Nat} (h:(rdy l listed).contains i=true):i∈Region.ready .any l.toArray listed.toArray:=by
 have h:=List.contains_iff_mem.1 h;simp only[rdy,List.mem_filter,List.mem_range,Bool.and_eq_true,Bool.not_eq_true'] at h;have e:∀k b,listed.toArray.getD k b=listed.getD k b:=fun k b=>by simp[Array.getD_eq_getD_getElem?,List.getD_eq_getElem?_getD]
 obtain⟨h1,h2,h3⟩:=h;have ho:=List.getElem?_eq_getElem h1;rw[ho] at h3;simp only[List.all_eq_true] at h3;exact zUN ho (by rw[e];exact h2) fun j hj=>by rw[e];exact h3 j hj
theorem zX7 (ls:List Bool) (i:Nat):ls.toArray.setIfInBounds i true=(ls.set i true).toArray:=by simp
theorem yZ (hr:rdy l listed= []) (h:J S):zIJ P r E l J fuel listed S:=by
 intro a w hs;have hr':Region.ready .any l.toArray listed.toArray= []:=List.eq_nil_iff_forall_not_mem.2 fun i hi=>by have:=zX5 hi;rw[hr] at this;cases this
 cases fuel with
 | zero=>exact⟨hr',S,h,hs⟩
 | succ n=>exact⟨fun _=>⟨S,h,hs⟩,fun i hi=>by rw[hr'] at hi;cases hi⟩
theorem zP (is:List Nat) (hr:rdy l listed=is) (hne:is.isEmpty=false) (h:AnyE P r E l J fuel listed S is):zIJ P r E l J (fuel+1) listed S:=by
 intro a w hs;refine⟨fun e=>?_,fun i hi=>?_⟩;cases is with
 | nil=>cases hne
 | cons k is=>
  have:=zX6 (l:=l) (listed:=listed) (i:=k) (by rw[hr];simp)
  rw[e] at this;cases this
 have hi:=zX5 hi;rw[hr] at hi;obtain⟨o,S',h1,h2,h3⟩:=h.mem hi;unfold wpOpIn;simp only[List.getElem?_toArray,h1];refine h2 a w _ _ hs fun a' w' hs'=>?_;rw[zX7];exact h3 a' w' hs'
theorem zX8:AnyE P r E l J fuel listed S []:=trivial
theorem zRI {i:Nat} {is:List Nat} {o:Oper} {S':AState} (ho:l[i]? =some o) (hg:o.guard=none) (h:j9 P r E o S S') (k:zIJ P r E l J fuel (listed.set i true) S') (ks:AnyE P r E l J fuel listed S is):AnyE P r E l J fuel listed S (i::is):=
 ⟨⟨o,S',ho,zK9 hg h,k⟩,ks⟩
theorem xE {i d:Nat} {is:List Nat} {o:Oper} {x:AV} (ho:l[i]? =some o) (hg:o.guard=none) (h:AOp P r E S o d x) (k:zIJ P r E l J fuel (listed.set i true) (S.put d x)) (ks:AnyE P r E l J fuel listed S is):AnyE P r E l J fuel listed S (i::is):=
 ⟨⟨o,_,ho,zK9 hg h.step,k⟩,ks⟩
def z2A (l:List Oper) (listed:List Bool) (i:Nat) (oi:Oper):Bool:=
 (List.range l.length).all fun j=>Nat.beq j i ||listed.getD j true ||(match l[j]? with
  | none=>true
  | some oj=>(aft oj).contains i ||oi.apart l.toArray oj)
def zVA (l:List Oper):Bool:=l.all fun o=>match o.op with | .select _ _=>false | _=>true
theorem zJW {i d:Nat} {oi:Oper} {x:AV} (hr:r=none) (hi:l[i]? =some oi) (hg:oi.guard=none) (hd:oi.dst=some d) (hsel:zVA l=true) (hap:z2A l listed i oi=true) (hrd:(rdy l listed).contains i=true)
  (hy:∀a w,Sat E S a w→∃v,(∀w',(execOp a.eval oi).run P w'= .ok (.value v) w')∧(∀w',oi.about P w' a.eval=none)∧Sat E (S.put d x) (a.put (some d) v) w) (k:zIJ P r E l J fuel (listed.set i true) (S.put d x)):zIJ P r E l J (fuel+1) listed S:=by
 subst hr;intro a w hs;obtain⟨v,h1,h2,h3⟩:=hy a w hs;have hi':l.toArray[i]? =some oi:=by simpa using hi
 refine wpAnyIn_first (i:=i) (oi:=oi) (v:=v) rfl hi' (fun j o cs b ho e=>?_) (fun c a w h=>h.elim) fuel listed.toArray a w (fun j oj hj hne hl hnot=>?_) (zX6 hrd) ⟨.inl ⟨?_,h1⟩,h2⟩ (by rw[hd,zX7];exact k _ w h3)
 ·have:=List.all_eq_true.1 hsel o (List.mem_of_getElem? (by simpa using ho))
  rw[e] at this;cases this
 ·have hj':l[j]? =some oj:=by simpa using hj
  have hlt:=(List.getElem?_eq_some_iff.1 hj').1;have:=List.all_eq_true.1 hap j (List.mem_range.2 hlt);have hl':listed.getD j true=false:=by rw[←hl];simp[Array.getD_eq_getD_getElem?,List.getD_eq_getElem?_getD]
  simp only[Bool.or_eq_true,Nat.beq_eq,hl',hj'] at this;rcases this with (h | h) | h | h
  ·exact absurd h hne
  ·cases h
  ·exfalso
   have h:=List.contains_iff_mem.1 h;simp only[aft,List.mem_map,List.mem_filter] at h;obtain⟨q,⟨hq,hb⟩,he⟩:=h;exact hnot q (by simpa using hq) hb he
  ·exact h
 ·unfold Region.wanted
  rw[hg]
section
variable {d:Nat} {ty:TypeId} {pos:String} {af:Array Edge} {x:Operand}
theorem kJ {i:Nat} (hi:l[i]? =some ⟨some d,.move x,ty,pos,af,none⟩) (hn:d<E.n) (hr:r=none) (hsel:zVA l=true) (hap:z2A l listed i ⟨some d,.move x,ty,pos,af,none⟩=true) (hrd:(rdy l listed).contains i=true)
  (k:zIJ P r E l J fuel (listed.set i true) (S.put d (S.ev x))):zIJ P r E l J (fuel+1) listed S:=
 zJW hr hi rfl rfl hsel hap hrd (fun a w ⟨I,ρ,C,hs⟩=>⟨a.eval x,fun w'=>by simp[execOp],fun w'=>rfl,I,ρ,C,hs.put hn (hs.ev x)⟩) k
theorem zIK {i:Nat} {y:Operand} {tx tz:TypeId} {a b:Int} (hi:l[i]? =some ⟨some d,.binOp .sub tx x y tz,ty,pos,af,none⟩) (hn:d<E.n) (hx:S.ev x= .d (.v (.int .i64 a))) (hy:S.ev y= .d (.v (.int .i64 b))) (hr:r=none) (hsel:zVA l=true) (hap:z2A l listed i ⟨some d,.binOp .sub tx x y tz,ty,pos,af,none⟩=true) (hrd:(rdy l listed).contains i=true)
  (k:zIJ P r E l J fuel (listed.set i true) (S.put d (.d (.v (.int .i64 (wi (a-b))))))):zIJ P r E l J (fuel+1) listed S:=
 zJW hr hi rfl rfl hsel hap hrd (fun A w ⟨I,ρ,C,hs⟩=>⟨.int .i64 (wi (a-b)),fun w'=>by
  simp only[execOp,hs.val hx,hs.val hy];simp[binOp,eqGuard,Op.intArith,wi],fun w'=>rfl,I,ρ,C,SatAt.put (x:= .d (.v _)) hs hn (Rep.v _)⟩) k
theorem zJX {i:Nat} {y:Operand} {tx tz:TypeId} {a b:Int} (hi:l[i]? =some ⟨some d,.binOp .add tx x y tz,ty,pos,af,none⟩) (hn:d<E.n) (hx:S.ev x= .d (.v (.int .i64 a))) (hy:S.ev y= .d (.v (.int .i64 b))) (hr:r=none) (hsel:zVA l=true) (hap:z2A l listed i ⟨some d,.binOp .add tx x y tz,ty,pos,af,none⟩=true) (hrd:(rdy l listed).contains i=true)
  (k:zIJ P r E l J fuel (listed.set i true) (S.put d (.d (.v (.int .i64 (wi (a+b))))))):zIJ P r E l J (fuel+1) listed S:=
 zJW hr hi rfl rfl hsel hap hrd (fun A w ⟨I,ρ,C,hs⟩=>⟨.int .i64 (wi (a+b)),fun w'=>by
  simp only[execOp,hs.val hx,hs.val hy];simp[binOp,eqGuard,Op.intArith,wi],fun w'=>rfl,I,ρ,C,SatAt.put (x:= .d (.v _)) hs hn (Rep.v _)⟩) k
theorem zRJ {α:Type} {en:En α} {ls:List α} {i t e bytes:Nat} {z:Value} {ix:Operand} {kk:IntKind} {q:Int} {v: α} (hi:l[i]? =some ⟨some d,.indexAddr t x ix,ty,pos,af,none⟩) (hn:d<E.n) (hT:SlTy P t e en.size bytes z) (hx:S.ev x= .d (yG en ls)) (hix:S.ev ix= .d (.v (.int kk q))) (hv:kV ls q=some v)
  (hr:r=none) (hsel:zVA l=true) (hap:z2A l listed i ⟨some d,.indexAddr t x ix,ty,pos,af,none⟩=true) (hrd:(rdy l listed).contains i=true)
  (k:zIJ P r E l J fuel (listed.set i true) (S.put d (.ip (en.all ls) (q.toNat*en.size)))):zIJ P r E l J (fuel+1) listed S:=
 zJW hr hi rfl rfl hsel hap hrd (fun A w ⟨I,ρ,C,hs⟩=>by
  have h:=hs.ev x;rw[hx] at h;obtain⟨B,n,c,xs,hvx,_,hl,hpw,h1,hadr⟩:=Rep.sl_inv h;have hn':n=ls.length:=zHP hl (vW en ls) hT.pos;subst hn';have hq:=(uL hv).2.1;have hlt:=(uL hv).2.2.1;obtain⟨b,off,rfl,hc⟩:=hadr (by omega);have hiv:=hs.val hix;refine⟨.pointer (some ⟨b,off+q.toNat*en.size,none⟩),fun w'=>?_,fun w'=>rfl,I,ρ,C,hs.put hn ⟨b,off,xs,rfl,hpw,h1,hc⟩⟩;rw[hq] at hiv;simp only[execOp,hvx,hiv,Sem.run_bind,zHB w' hT.und (hT.size w') b off ls.length c kk q.toNat hlt];rfl) k
end
theorem zIL {id:Nat} {K:Exit→AState→Prop} (hm:P.follows .mixedOrders=true) (h:zIJ P r E l (K .normal) l.length (List.replicate l.length false) S):Avc P r E (.region id l.toArray true) K S:=by
 intro a w hs;have h2:=h a {w with drawn:=w.drawn+1} (zUM hs);refine wpIn_mono (wpIn_region_any (Q:=QJ E (K .normal)) hm (by simpa[←List.toArray_replicate] using h2)) ?_;intro e a' w' hq;cases e with
 | normal=>exact hq
 | _=>exact hq.elim
end
end Go.AV
namespace Go.AV
open Go.RowKit Go.M
def CapsOf:List AV→List Cap→Prop
 | [],cs=>cs= []
 | x::xs,cs=> ∃c ds,cs=c::ds∧CapOf x c∧CapsOf xs ds
section
variable {P:Program} {r:Option Nat} {E:Env} {S:AState} {d:Nat} {ty:TypeId} {pos:String} {af:Array Edge} {g:Option (Nat×Bool)}
theorem CapsOf.holds {w:World} {I:Im} {ρ:Nat→Value}:∀{vs:List Value} {xs:List AV} {cs:List Cap},CapsOf xs cs→Pw (Holds w I ρ) vs xs→Pw (HoldsC w I ρ) vs cs
 | [],[],cs,h,_=>by cases h;exact Pw.nil
 | [],x::xs,cs,_,hp=>by have:=hp.1;simp at this
 | v::vs,[],cs,_,hp=>by have:=hp.1;simp at this
 | v::vs,x::xs,cs,⟨c,ds,e,h1,h2⟩,hp=>by
  subst e;obtain⟨q1,q2⟩:=zHH hp;exact Pw.cons (h1.holds q1) (CapsOf.holds h2 q2)
theorem zRK {f:FuncId} {caps:List Operand} {cs:List Cap} (hn:d<E.n) (hc:CapsOf (caps.map S.ev) cs):
  AOp P r E S ⟨some d,.makeFunc (.func f) #[] caps.toArray,ty,pos,af,g⟩ d (.clo f cs):=
 ⟨rfl,hn,fun S' ha=>kC rfl hn (by simp) fun A w I ρ C hs=>by
  have he:caps.map S'.ev=caps.map S.ev:=List.map_congr_left fun x hx=>ha.ev (by simp[Op.operands];simpa using hx)
  rw[←he] at hc;exact⟨.func (.func f) #[] (caps.map A.eval).toArray,by simp[execOp,Instr.makeFunc],_,rfl,hc.holds (u7 hs caps)⟩⟩
theorem zJM {t:TypeId} {x y:Operand} {id off eb:Nat} {cells:List AV} {av:AV} (hT:OneTy P t) (hx:S.ev x= .ptr id off) (hb:S.blk id= .box eb cells) (hlt:off<cells.length) (hy:S.ev y=av) (h1:av.one=true) (hr:zT8 S av=true) (hE:E.wrB=true):
  j9 P r E ⟨none,.store t x y,ty,pos,af,g⟩ S (S.setBlk id (.box eb (cells.set off av))):=by
 subst hy;exact zGE hT hx hb hlt h1 hr hE
theorem zXE {a t id e b u id' e':Nat} {x y:DV} (h1:(S.get a).un= .ptr id 0) (h2:S.blk id= .box e [.d x]) (hT:OneTy P t) (k1:(S.get b).un= .ptr id' 0) (k2:S.blk id'= .box e' [.d y]) (hU:OneTy P u):RetS P S [.cell a t,.cell b u] [x,y]:=
 ⟨_,_,id,e,_,rfl,h1,h2,.inl ⟨hT,_,rfl,rfl⟩,_,_,id',e',_,rfl,k1,k2,.inl ⟨hU,_,rfl,rfl⟩,rfl⟩
end
end Go.AV
namespace Go.AV
open Go.RowKit Go.M
theorem BlkOk.lt {w:World} {I:Im} {ρ:Nat→Value} {M:Nat→Prop} {i b:Nat} {x:Blk} (h:BlkOk w I ρ M i x) (hne:x≠ .none) (hb:blockOf (ρ i)=some b):b<w.heap.size:=by
 cases x with
 | none=>exact absurd rfl hne
 | row e size sh cells=>
  obtain⟨hM,n,xs,hl,hown,_⟩:=h;rcases hown.2 with ⟨hn,_⟩ | ⟨g,cap,cur,hv,hB,hh,_⟩;rw[hn] at hb;simp[blockOf] at hb;rw[hv] at hb;simp[blockOf] at hb;subst hb;exact(Array.getElem?_eq_some_iff.1 hh).1
 | box e cells=>
  obtain⟨b',arr,hv,hB,hh,_⟩:=h;rw[hv] at hb;simp[blockOf] at hb;subst hb;exact(Array.getElem?_eq_some_iff.1 hh).1
 | it es q=>
  obtain⟨b',bm,ents,clock,seen,hv,hB,hh,_⟩:=h;rw[hv] at hb;simp[blockOf] at hb;subst hb;exact(Array.getElem?_eq_some_iff.1 hh).1
 | map es=>
  obtain⟨b',ents,clock,hv,hB,hh,_⟩:=h;rw[hv] at hb;simp[blockOf] at hb;subst hb;exact(Array.getElem?_eq_some_iff.1 hh).1
 | win e size k cells=>
  obtain⟨A,n,c,xs,hv,_,_,_,_,_,hA⟩:=h;rcases hA with ⟨hA,_⟩ | ⟨b',off,arr,hA,hB,hh,_⟩;rw[hv,hA] at hb;simp[blockOf] at hb;rw[hv,hA] at hb;simp[blockOf] at hb;subst hb;exact(Array.getElem?_eq_some_iff.1 hh).1
end Go.AV
namespace Go.AV
open Go.RowKit Go.M
section
variable {P:Program} {r:Option Nat} {E:Env} {S:AState} {d ty:Nat} {pos:String} {af:Array Edge} {g:Option (Nat×Bool)}
theorem zOZ {β:Type} {c ys:List β} {off n N:Nat} (h:ys.length=n) (h1:off+n≤N) (h2:N≤c.length):(c.take off++ys++c.drop (off+n)).take N=(c.take N).take off++ys++(c.take N).drop (off+n):=by
 have l1:(c.take off++ys).length=off+n:=by simp;omega
 rw[List.take_append,List.take_of_length_le (by omega),l1,List.take_take,Nat.min_eq_left (by omega),List.drop_take]
theorem zNM {t n:Nat} {x y:Operand} {id off e size:Nat} {cells ds:List DV} (hT:AggTy P t n) (hx:S.ev x= .ptr id off) (hb:S.blk id= .row e size false cells) (hlt:off+n≤cells.length)
  (hy:S.ev y= .d (.agg ds)) (hl2:ds.length=n) (hE:E.wrB=true):
  j9 P r E ⟨none,.store t x y,ty,pos,af,g⟩ S (S.setBlk id (.row e size false (cells.take off++ds++cells.drop (off+n)))):=
 zER rfl (by simp) fun A w I ρ C hs=>by
  have h:=hs.ev x;rw[hx] at h;obtain⟨b,hρ,hv⟩:=h;have hbk:=hs.blks id;rw[hb] at hbk;obtain⟨h0,n',xs,hl,hown,h1',hpw,hI⟩:=hbk;have hyv:=hs.ev y;rw[hy] at hyv;have hyv':Rep w I (A.eval y) (.agg ds):=hyv;generalize he:A.eval y=vy at hyv';cases hyv' with
  | agg ys cells' hly h1 hr=>
   have hrp:Reps w I ys ds:=⟨hly,hr⟩;rcases hown.2 with ⟨hn,_⟩ | ⟨gb,cap,cur,hn,hB,hh,hnc,hcm,hcs,htk⟩
   ·rw[hn] at hρ;cases hρ
   ·have hbb:gb=b:=by rw[hn] at hρ;simpa[blockOf] using hρ
    subst hbb;have hI':∀j,¬I gb j:=fun j hj=>by have:=(hI gb j (by rw[hn];rfl) hj).1;cases this
    have hxl:xs.length=n'*size:=hown.1;have hlt2:cells.length≤cur.size:=by rw[hcs,hl];exact Nat.mul_le_mul_right _ hnc
    have hyl:ys.length=n:=by rw[hly];exact hl2
    have hst:=zOK (P:=P) w hT (b:=gb) (off:=off) (vs:=ys) hh (by omega) hyl h1;have hwn:cells.length=n'*size:=hl;refine⟨_,?_,I,ρ,C,hs.modify (zCS w gb (cur.toList.take off++ys++cur.toList.drop (off+n)).toArray) (by rw[hb];simp) hρ (vG hI') ⟨h0,n',xs.take off++ys++xs.drop (off+n),by simp;omega,⟨by simp;omega,.inr ⟨gb,cap,_,hn,hB,setRow_heap w gb cur _ e _ hh,hnc,hcm,?_,?_⟩⟩,?_,?_,?_⟩ hE⟩
    ·simp only[execOp,hv,he,Sem.run_bind,hst]
     rfl
    ·simp;omega
    ·have htk':cur.toList.take (n'*size)=xs:=htk
     rw[←htk'];exact zOZ hyl (by omega) (by simp;omega)
    ·intro v hv'
     simp only[List.mem_append] at hv';rcases hv' with (hu | hu) | hu
     ·exact h1' v (List.mem_of_mem_take hu)
     ·exact h1 v hu
     ·exact h1' v (List.mem_of_mem_drop hu)
    ·have hp2:=hpw.imp fun _ _ h=>h.mono (vG (arr:=(cur.toList.take off++ys++cur.toList.drop (off+n)).toArray) hI') (fun _ _ h=>h)
     have hr2:=Reps.mono hrp (vG (arr:=(cur.toList.take off++ys++cur.toList.drop (off+n)).toArray) hI') (fun _ _ h=>h);exact((hp2.take off).append hr2).append (hp2.drop (off+n))
    ·intro g' j hg' hi
     rw[hn] at hg';simp[Value.ownBlock] at hg';subst hg';exact absurd hi (hI' j)
theorem z2B {α:Type} (en:En α) (l:List α) (v: α):∀(i:Nat),i<l.length→en.all (l.set i v)=(en.all l).take (i*en.size)++en.cells v++(en.all l).drop (i*en.size+en.size):=by
 induction l with
 | nil=>intro i hi;simp at hi
 | cons a l ih=>
  intro i hi;have ha:(en.cells a).length=en.size:=en.len a;cases i with
  | zero=>
   simp only[List.set_cons_zero,En.all,List.flatMap_cons,Nat.zero_mul,List.take_zero,List.nil_append,Nat.zero_add];rw[List.drop_append_of_le_length (by omega),List.drop_of_length_le (by omega)];simp
  | succ j=>
   have:=ih j (by simpa using hi);simp only[List.set_cons_succ,En.all,List.flatMap_cons] at this ⊢;rw[this,Nat.add_mul,Nat.one_mul];rw[List.take_append,List.drop_append,ha];rw[List.take_of_length_le (l:=en.cells a) (by omega),List.drop_of_length_le (l:=en.cells a) (by omega)];have e1:j*en.size+en.size-en.size=j*en.size:=by omega
   have e2:j*en.size+en.size+en.size-en.size=j*en.size+en.size:=by omega
   rw[e1,e2];simp[List.append_assoc]
theorem zB9 {α:Type} {en:En α} {l l':List α} {e tt:Nat} {x y:Operand} {id:Nat} {i:Int} {v: α} (hT:AggTy P tt en.size) (hx:S.ev x= .ptr id (i.toNat*en.size)) (hb:S.blk id= .row e en.size false (en.all l)) (hy:S.ev y= .d (en.dv v)) (hd:en.dv v= .agg (en.cells v))
  (hs:zBE l i v=some l') (hE:E.wrB=true):
  j9 P r E ⟨none,.store tt x y,ty,pos,af,g⟩ S (S.setBlk id (.row e en.size false (en.all l'))):=by
 obtain⟨rfl,h0,hlt⟩:=zMJ hs;rw[z2B en l v i.toNat hlt];refine zNM hT hx hb ?_ (by rw[hy,hd]) (en.len v) hE;rw[vW];have:(i.toNat+1)*en.size≤l.length*en.size:=Nat.mul_le_mul_right _ hlt;rw[Nat.add_mul] at this;omega
def Blk.is:Blk→Bool
 | .none=>false
 | _=>true
theorem Blk.is_ne {b:Blk} (h:b.is=true):b≠ .none:=by cases b<;>simp_all [Blk.is]
def nmB (keep0:List Nat) (σ:List (Nat×Nat)) (keep:List Nat) (T T':List (Nat×Blk)):Bool:=
 σ.all fun p=>!keep0.contains p.2 ||(keep.contains p.1&&((look Blk.none T p.1).is&&(look Blk.none T' p.1).is))
theorem zDB {gdt:Nat→Option (List Value)} {w0:World} {I0:Im} {hG0:GlI gdt w0 I0} {ρ0:Nat→Value} {T0:List (Nat×Blk)} {keep0:List Nat} {n0:Nat} {hn0:n0≤1000000} {f:FuncId} {xs:List Operand} {ats:Array TypeId} {args rets:List Cap} {T T':List (Nat×Blk)} {keep:List Nat} (σ:List (Nat×Nat)) (hc:GC P f args T keep rets T') (hn:d<n0) (hσ:(σ.map Prod.fst).Nodup∧(σ.map Prod.snd).Nodup)
  (hargs:ArgsAs σ (xs.map S.ev) args) (hal:args.all (Cap.idsLt σ)=true) (hrl:rets.all (Cap.idsLt σ)=true) (hT:BlksAs S σ T) (hTo:zB4 σ T=true) (hTo':zB4 σ T'=true)
  (hfr:zMK S σ T=true) (hnm:nmB keep0 σ keep T T'=true) (hG:gdt=uO P:=by rfl):
  j9 P r (Env.gen gdt w0 I0 hG0 ρ0 T0 keep0 n0 hn0) ⟨some d,.call {callee:= .value (.func f),args:=xs.toArray,argTypes:=ats},ty,pos,af,g⟩ S
   (((S.killL (zHS σ keep T')).setL (renL σ T'++zJ5 σ T T')).put d ((zKQ rets).ren σ)):=
 zX1 (E:=Env.gen gdt w0 I0 hG0 ρ0 T0 keep0 n0 hn0) σ hn (zOV hσ) hargs hal hrl hT hTo hTo' (zJL hfr) (fun k hk=>by
  have:=List.all_eq_true.1 hnm _ (zDY hk);by_cases hc:keep0.contains (look 0 σ k)=true
  ·simp only[hc,Bool.not_true,Bool.false_or,Bool.and_eq_true] at this
   exact .inr ⟨this.1,Blk.is_ne this.2.1,Blk.is_ne this.2.2⟩
  ·refine .inl ?_
   show (if keep0.contains (look 0 σ k)=true then _ else _)=_;rw[if_neg hc]) hc rfl hG
theorem zX9 {f:FuncId} {xf:Operand} {cs:List Cap} {xs:List Operand} {ats:Array TypeId} {args rets:List Cap} {T T':List (Nat×Blk)} {keep:List Nat} (σ:List (Nat×Nat)) (hc:GC P f args T keep rets T') (hn:d<E.n) (hσ:(σ.map Prod.fst).Nodup∧(σ.map Prod.snd).Nodup) (hxf:S.ev xf= .clo f cs)
  (hargs:ArgsAs σ (xs.map S.ev++cs.map Cap.av) args) (hal:args.all (Cap.idsLt σ)=true) (hrl:rets.all (Cap.idsLt σ)=true) (hT:BlksAs S σ T) (hTo:zB4 σ T=true) (hTo':zB4 σ T'=true)
  (hfr:zMK S σ T=true) (hnm:∀k,E.nm k=none) (hE:E.wrB=true) (hG:E.gdt=uO P:=by rfl):
  j9 P r E ⟨some d,.call {callee:= .value xf,args:=xs.toArray,argTypes:=ats},ty,pos,af,g⟩ S
   (((S.killL (zHS σ keep T')).setL (renL σ T'++zJ5 σ T T')).put d ((zKQ rets).ren σ)):=
 zUY σ hn (zOV hσ) hxf hargs hal hrl hT hTo hTo' (zJL hfr) (fun k _=> .inl (hnm _)) hc hE hG
theorem zVB {gdt:Nat→Option (List Value)} {w0:World} {I0:Im} {hG0:GlI gdt w0 I0} {ρ0:Nat→Value} {T0:List (Nat×Blk)} {keep0:List Nat} {n0:Nat} {hn0:n0≤1000000} {f:FuncId} {xf:Operand} {cs:List Cap} {xs:List Operand} {ats:Array TypeId} {args rets:List Cap} {T T':List (Nat×Blk)} {keep:List Nat} (σ:List (Nat×Nat)) (hc:GC P f args T keep rets T') (hn:d<n0) (hσ:(σ.map Prod.fst).Nodup∧(σ.map Prod.snd).Nodup) (hxf:S.ev xf= .clo f cs)
  (hargs:ArgsAs σ (xs.map S.ev++cs.map Cap.av) args) (hal:args.all (Cap.idsLt σ)=true) (hrl:rets.all (Cap.idsLt σ)=true) (hT:BlksAs S σ T) (hTo:zB4 σ T=true) (hTo':zB4 σ T'=true)
  (hfr:zMK S σ T=true) (hnm:nmB keep0 σ keep T T'=true) (hG:gdt=uO P:=by rfl):
  j9 P r (Env.gen gdt w0 I0 hG0 ρ0 T0 keep0 n0 hn0) ⟨some d,.call {callee:= .value xf,args:=xs.toArray,argTypes:=ats},ty,pos,af,g⟩ S
   (((S.killL (zHS σ keep T')).setL (renL σ T'++zJ5 σ T T')).put d ((zKQ rets).ren σ)):=
 zUY (E:=Env.gen gdt w0 I0 hG0 ρ0 T0 keep0 n0 hn0) σ hn (zOV hσ) hxf hargs hal hrl hT hTo hTo' (zJL hfr) (fun k hk=>by
  have:=List.all_eq_true.1 hnm _ (zDY hk);by_cases hc:keep0.contains (look 0 σ k)=true
  ·simp only[hc,Bool.not_true,Bool.false_or,Bool.and_eq_true] at this
   exact .inr ⟨this.1,Blk.is_ne this.2.1,Blk.is_ne this.2.2⟩
  ·refine .inl ?_
   show (if keep0.contains (look 0 σ k)=true then _ else _)=_;rw[if_neg hc]) hc rfl hG
end
end Go.AV
namespace Go.M
def yM {α:Type} [DecidableEq α] (items:List α) (k:Nat) (x: α):Option Unit:=if items[k]? =some x then some () else none
def zXF {α:Type} (items:List α) (k:Nat):Option Unit:=if k=items.length then some () else none
end Go.M
namespace Go.AV
open Go.M
theorem z2C {α:Type} [DecidableEq α] {β:Type} {items:List α} {k:Nat} {x: α} {u:Unit} (f: α→β) (h:yM items k x=some u):(items.map f)[k]? =some (f x):=by unfold yM at h;split at h;rename_i h';rw[List.getElem?_map,h'];rfl;cases h
theorem zO0 {α:Type} {β:Type} {items:List α} {k:Nat} {u:Unit} (f: α→β) (h:zXF items k=some u):k=(items.map f).length:=by unfold zXF at h;split at h;rename_i h';rw[List.length_map,h'];cases h
end Go.AV
namespace Go.AV
open Go.M
section
variable {P:Program} {r:Option Nat} {E:Env} {S:AState} {K:Exit→AState→Prop} {c:Code} {A B C D:Type}
def yBD (E:Env) (e1:Exit) (S1:A→AState) (e2:Exit) (S2:B→AState):A⊕B→Exit→AState→Prop
 | .inl y,e',S'=>e'=e1∧zGG E S' (S1 y)
 | .inr y,e',S'=>e'=e2∧zGG E S' (S2 y)
theorem yH (y:A⊕B) (e1:Exit) (S1:A→AState) (e2:Exit) (S2:B→AState) (h:Avc P r E c (yBD E e1 S1 e2 S2 y) S) (k1:∀z,y= .inl z→K e1 (S1 z)) (k2:∀z,y= .inr z→K e2 (S2 z)):Avc P r E c K S:=by rcases y with y | y;exact z7 (e:=e1) (S2:=S1 y) h (k1 y rfl);exact z7 (e:=e2) (S2:=S2 y) h (k2 y rfl)
end
end Go.AV
namespace Go.AV
open Go.RowKit Go.M
section
variable {P:Program} {r:Option Nat} {E:Env} {S:AState} {d ty:Nat} {pos:String} {af:Array Edge} {g:Option (Nat×Bool)}
theorem z5J {f:FuncId} {xs:List Operand} {ats:Array TypeId} {args:List Cap} {ret:AV} {T T':List (Nat×Blk)} {keep:List Nat} (σ:List (Nat×Nat)) (hc:GCA P f args T keep ret T') (hn:d<E.n) (hσ:(σ.map Prod.fst).Nodup∧(σ.map Prod.snd).Nodup)
  (hargs:ArgsAs σ (xs.map S.ev) args) (hal:args.all (Cap.idsLt σ)=true) (hrl:ret.idsLt σ =true) (hT:BlksAs S σ T) (hTo:zB4 σ T=true) (hTo':zB4 σ T'=true)
  (hfr:zMK S σ T=true) (hnm:∀k,E.nm k=none) (hE:E.wrB=true) (hG:E.gdt=uO P:=by rfl):
  j9 P r E ⟨some d,.call {callee:= .value (.func f),args:=xs.toArray,argTypes:=ats},ty,pos,af,g⟩ S
   (((S.killL (zHS σ keep T')).setL (renL σ T'++zJ5 σ T T')).put d (ret.ren σ)):=
 zRD σ hn (zOV hσ) (extra:=[]) (fun A w I ρ C _=>⟨[],by simp[Act.eval],Pw.nil⟩) (by rw[List.append_nil];exact hargs) hal hrl hT hTo hTo' (zJL hfr) (fun k _=> .inl (hnm _)) hc hE hG
theorem z5K {w:World} {I I':Im} {ys:List Value} {cells:List DV} (h:Reps w I' ys cells) (hv:∀x∈cells,∃u,x= .v u):Reps w I ys cells:=
 ⟨h.1,fun j y x hy hx=>by
  obtain⟨u,rfl⟩:=hv x (List.mem_of_getElem? hx);have:=h.2 j y _ hy hx;cases this;exact .v _⟩
theorem z8F {f e size n off id k0:Nat} {x y:Operand} {ats:Array TypeId} {L cells':List DV} {fv:DV} (hn:d<E.n) (hx:S.ev x= .rs id off n) (hy:S.ev y= .d fv) (hb:S.blk id= .row e size false L) (h0:0<n) (hfit:off+n*size≤L.length)
  (hv:∀x∈cells',∃u,x= .v u) (hc:GC P f [.row k0,.d fv] [(k0,.win e size 0 ((L.drop off).take (n*size)))] [k0] [] [(k0,.win e size 0 cells')]) (hE:E.wrB=true) (hG:E.gdt=uO P:=by rfl):
  j9 P r E ⟨some d,.call {callee:= .value (.func f),args:= #[x,y],argTypes:=ats},ty,pos,af,g⟩ S
   ((S.setBlk id (.row e size false (L.take off++cells'++L.drop (off+n*size)))).put d (.tupc [])):=by
 rintro A w K Q ⟨I,ρ,C,hs⟩ hk
 obtain⟨⟨fn,hf,hname,hbody⟩,hcall⟩:=hc;have hne:S.blk id≠ .none:=by rw[hb];simp
 have hbk:=hs.blks id;rw[hb] at hbk;obtain⟨⟨hp,hM⟩,n0,xs,hl,hown,h1,hr,hI⟩:=hbk;have hvx:=hs.ev x;rw[hx] at hvx;obtain⟨A',c,hvx,hnc',hA⟩:=hvx;obtain⟨gb0,hρb,rfl⟩:=hA h0;have hvy:=hs.ev y;rw[hy] at hvy;have hvy:Rep w I (A.eval y) fv:=hvy;have hpos:0<n*size:=Nat.mul_pos h0 hp;have hxl:xs.length=L.length:=hr.1;rcases hown.2 with ⟨hn',_⟩ | ⟨gb,cap,cur,hn',hB,hh,hnc,hcm,hcs,htk⟩
 ·rw[hn'] at hρb;cases hρb
 have hbb:gb0=gb:=by rw[hn'] at hρb;simpa[blockOf] using hρb.symm
 subst hbb;have hInot:∀j,¬I gb0 j:=fun j hj=>by have:=(hI gb0 j (by rw[hn'];rfl) hj).1;cases this
 have hgsz:gb0<w.heap.size:=(Array.getElem?_eq_some_iff.1 hh).1;have hLcur:L.length≤cur.size:=by rw[hcs,hl];exact Nat.mul_le_mul_right _ hnc
 have hxcur:∀(j:Nat) v,xs[j]? =some v→cur[j]? =some v:=fun j v hj=>by
  rw[←htk,List.getElem?_take] at hj;split at hj
  ·simpa using hj
  ·cases hj
 let I1:Im:=fun b j=>I b j∨(b=gb0∧(j<off∨off+n*size≤j))
 let ρc:Nat→Value:=fun _=>A.eval x
 have hsub1:∀b j,I b j→I1 b j:=fun b j h=> .inl h;have hself:Same I w w:=fun _ _ _=>KeepB.refl;have hfrag:Frag w I1 ρc [(k0,.win e size 0 ((L.drop off).take (n*size)))]:=by
  refine⟨fun k=>?_,fun k k' b hne' h1' h2' _=>?_⟩
  ·by_cases hk0:k=k0
   ·subst hk0
    rw[k8,if_pos rfl];refine⟨_,n,c,(xs.drop off).take (n*size),hvx,hnc',hp,by simp;omega,Reps.mono ((hr.drop off).take (n*size)) hself hsub1,fun u hu=>h1 u (List.mem_of_mem_drop (List.mem_of_mem_take hu)),.inr ⟨gb0,off,cur,rfl,trivial,hh,by omega,fun j u hj=>?_,fun j hj1 hj2 hj=>?_⟩⟩
    ·rw[List.getElem?_take] at hj
     split at hj
     ·rw[List.getElem?_drop] at hj;exact hxcur _ u hj
     ·cases hj
    ·rcases hj with hj | ⟨_,hj⟩
     ·exact absurd hj (hInot j)
     ·omega
   ·rw[k8,if_neg (fun e=>hk0 e.symm)]
    trivial
  ·exfalso
   have e1:k=k0:=by
    by_cases e:k=k0
    ·exact e
    ·exfalso;apply h1';rw[k8,if_neg (fun q=>e q.symm)];rfl
   have e2:k'=k0:=by
    by_cases e:k'=k0
    ·exact e
    ·exfalso;apply h2';rw[k8,if_neg (fun q=>e q.symm)];rfl
   exact hne' (e1.trans e2.symm)
 have hI1:∀b j,I1 b j→b<w.heap.size:=by
  rintro b j (h | ⟨rfl,_⟩)
  ·exact(hs.old b j h).1
  ·exact hgsz
 have hcl:=hcall w I1 ρc [A.eval x,A.eval y] hI1 ((hG▸hs.gl).sub hsub1) hfrag (Pw.cons rfl (Pw.cons (Rep.mono hvy hself hsub1) Pw.nil));refine⟨fun f _=>trivial,?_⟩;rw[Oper.semAt_eq _ _ _ (by simp)];have hrun:(execOp A.eval ⟨some d,.call {callee:= .value (.func f),args:= #[x,y],argTypes:=ats},ty,pos,af,g⟩).run P w= .ok (.enter f #[A.eval x,A.eval y]) w:=by
  have hn1:¬fn.name= "runtime.NumGoroutine" :=by simpa using hname
  have hn2:¬fn.body=none:=by intro e;simp[e] at hbody
  simp[execOp,resolve,Act.eval,Deferred.ofValue,invoke,callFunc,hf,hn1,hn2]
 rw[hrun];refine⟨by simp[fen,Fence.wide],?_⟩;show CallsIn Fence.wide 0 P f _ w _;refine callsIn_wide.2 (hcl.mono ?_)
 rintro e' w' ⟨v,I',ρ',rfl,hchg,hsame,hsub,hnew,hfrag',hret,hown',hkeep⟩
 have hlk:look Blk.none [(k0,Blk.win e size 0 cells')] k0= .win e size 0 cells':=by rw[k8,if_pos rfl]
 have hk0:=hkeep k0 (by simp) (by rw[hlk];simp)
 have hok0:=hfrag'.ok k0;rw[hlk] at hok0;obtain⟨A2,n2,c2,ys,hρ2,_,_,hl2,hr2,h12,hA2⟩:=hok0;rw[hk0] at hρ2;have hρ2:A.eval x= .slice A2 n2 c2:=hρ2;rw[hvx] at hρ2;cases hρ2;rcases hA2 with ⟨hx2,_⟩ | ⟨b2,off2,arr2,hx2,_,hh2,hfit2,hc2,_⟩
 ·cases hx2
 cases hx2;have hys:ys.length=n*size:=by rw[hr2.1];exact hl2
 have hout:∀j,(j<off∨off+n*size≤j)→arr2[j]? =cur[j]?:=fun j hj=>by
  have:=(hsame gb0 j (.inr ⟨rfl,hj⟩)).cell;rw[cell_of_row w' gb0 j arr2 e (0,0) hh2,cell_of_row w gb0 j cur e (0,0) hh] at this;exact this
 have hsz:arr2.size=cur.size:=by
  have h1':arr2[cur.size]? =none:=by rw[hout cur.size (.inr (by omega))];simp
  have h2':arr2.size≤cur.size:=by
   by_cases hlt:cur.size<arr2.size
   ·rw[Array.getElem?_eq_getElem hlt] at h1';cases h1'
   ·omega
  by_cases hlt:off+n*size<cur.size
  ·have:=hout (cur.size-1) (.inr (by omega))
   rw[Array.getElem?_eq_getElem (by omega:cur.size-1<cur.size)] at this;have:=(Array.getElem?_eq_some_iff.1 this).1;omega
  ·omega
 have harr:arr2.toList=cur.toList.take off++ys++cur.toList.drop (off+n*size):=by
  apply List.ext_getElem?;intro j;by_cases h1':j<off
  ·rw[List.append_assoc,List.getElem?_append_left (by simp;omega),List.getElem?_take,if_pos h1']
   have:=hout j (.inl h1');simpa using this
  ·by_cases h2':j<off+n*size
   ·have hjl:(cur.toList.take off).length=off:=by simp;omega
    rw[List.append_assoc,List.getElem?_append_right (by omega),List.getElem?_append_left (by omega),hjl];have hy':ys[j-off]? =some ys[j-off]:=List.getElem?_eq_getElem (by omega);have:=hc2 (j-off) _ hy';rw[hy',show off+(j-off)=j by omega] at*;simpa using this
   ·have hjl:(cur.toList.take off++ys).length=off+n*size:=by simp;omega
    rw[List.getElem?_append_right (by omega),hjl,List.getElem?_drop,show off+n*size+(j-(off+n*size))=j by omega];have:=hout j (.inr (by omega));simpa using this
 have hsame':Same I w w':=fun b j h=>hsame b j (.inl h);have hgr:w.grownBy w' (some gb0):=⟨hchg.os,hchg.tape,hchg.output,hchg.size,fun k hk hne'=>hchg.block k hk (by
  rintro⟨i,_,hi⟩
  have hi:blockOf (A.eval x)=some k:=hi;rw[hvx] at hi;exact hne' (by simpa[blockOf] using hi.symm))⟩
 have hxs':xs.take off++ys++xs.drop (off+n*size)=arr2.toList.take (n0*size):=by
  rw[harr,←htk];have hL:off+n*size≤n0*size:=by rw[←hl];exact hfit
  exact(zOZ hys hL (by simp;rw[hcs];exact Nat.mul_le_mul_right _ hnc)).symm
 have hrs:Reps w' I (xs.take off++ys++xs.drop (off+n*size)) (L.take off++cells'++L.drop (off+n*size)):=
  ((Reps.mono (hr.take off) hsame' fun _ _ h=>h).append (z5K hr2 hv)).append (Reps.mono (hr.drop _) hsame' fun _ _ h=>h)
 have hmod:=hs.modify (id:=id) (x:= .row e size false (L.take off++cells'++L.drop (off+n*size))) hgr hne (by rw[hn'];rfl) hsame' ⟨⟨hp,hM⟩,n0,xs.take off++ys++xs.drop (off+n*size),by simp;omega,⟨by simp;omega,.inr ⟨gb0,cap,arr2,hn',hB,hh2,hnc,hcm,by rw[hsz];exact hcs,hxs'.symm⟩⟩,by
   intro u hu;simp only[List.mem_append] at hu;rcases hu with (hu | hu) | hu
   ·exact h1 u (List.mem_of_mem_take hu)
   ·exact h12 u hu
   ·exact h1 u (List.mem_of_mem_drop hu),hrs,by
   intro g' j hg' hi;rw[hn'] at hg';simp[Value.ownBlock] at hg';subst hg';exact absurd hi (hInot j)⟩ hE
 refine hk _ _ ⟨I,ρ,C,hmod.put hn ?_⟩;obtain⟨zs,hz,hz2⟩:=hret;exact⟨zs,hz,List.eq_nil_of_length_eq_zero hz2.1▸Pw.nil⟩
end
end Go.AV
namespace Go.M
def zIX {α:Type} (f:List α→Option (List α)) (l:List α) (a b:Int):Option (List α):=
 if 0≤a∧a<b∧b.toNat≤l.length then (f ((l.drop a.toNat).take (b.toNat-a.toNat))).map fun m=>l.take a.toNat++m++l.drop b.toNat else none
end Go.M
namespace Go.AV
open Go.RowKit Go.M
section
variable {P:Program} {r:Option Nat} {E:Env} {S:AState} {d ty:Nat} {pos:String} {af:Array Edge} {g:Option (Nat×Bool)}
theorem yBE (l:List Int):∀x∈eI.all l,∃u,x= .v u:=by intro x hx;obtain⟨n,_,hn⟩:=List.mem_flatMap.1 hx;have hn:x∈[di n]:=hn;simp at hn;exact⟨_,hn⟩
theorem z8G {α:Type} {en:En α} {f e id k0:Nat} {x y:Operand} {ats:Array TypeId} {l l':List α} {a b:Int} {fv:DV} {mf:List α→Option (List α)} (hn:d<E.n) (hx:S.ev x= .rs id (a.toNat*en.size) (b.toNat-a.toNat)) (hy:S.ev y= .d fv) (hb:S.blk id= .row e en.size false (en.all l))
  (hs:zIX mf l a b=some l') (hv:∀(m:List α),∀x∈en.all m,∃u,x= .v u) (hc:∀m m',mf m=some m'→GC P f [.row k0,.d fv] [(k0,.win e en.size 0 (en.all m))] [k0] [] [(k0,.win e en.size 0 (en.all m'))]) (hE:E.wrB=true) (hG:E.gdt=uO P:=by rfl):
  j9 P r E ⟨some d,.call {callee:= .value (.func f),args:= #[x,y],argTypes:=ats},ty,pos,af,g⟩ S ((S.setBlk id (.row e en.size false (en.all l'))).put d (.tupc [])):=by
 unfold zIX at hs;split at hs
 ·rename_i hab
  obtain⟨m',hm,rfl⟩:=Option.map_eq_some_iff.1 hs;have h1:=hc _ _ hm;have e0:en.all ((l.drop a.toNat).take (b.toNat-a.toNat))=((en.all l).drop (a.toNat*en.size)).take ((b.toNat-a.toNat)*en.size):=by rw[zJH,zLF]
  rw[e0] at h1;have hle:a.toNat*en.size+(b.toNat-a.toNat)*en.size=b.toNat*en.size:=by rw[←Nat.add_mul];congr 1;omega
  have h2:=z8F (P:=P) (r:=r) (E:=E) (S:=S) (d:=d) (ty:=ty) (pos:=pos) (af:=af) (g:=g) (ats:=ats) hn hx hy hb (by omega) (by rw[hle,vW];exact Nat.mul_le_mul_right _ hab.2.2) (hv m') h1 hE hG
  have e1:en.all (l.take a.toNat++m'++l.drop b.toNat)=(en.all l).take (a.toNat*en.size)++en.all m'++(en.all l).drop (a.toNat*en.size+(b.toNat-a.toNat)*en.size):=by
   rw[hle,zJH,zLF];simp[En.all,List.flatMap_append]
  rw[e1];exact h2
 ·cases hs
theorem zVC {α:Type} {en:En α} {t e bytes:Nat} {z:Value} {x lo hi:Operand} {id:Nat} {sh:Bool} {l:List α} {k1 k2:IntKind} {a b:Int} (hn:d<E.n) (hT:SlTy P t e en.size bytes z) (hx:S.ev x= .row id) (hb:S.blk id= .row e en.size sh (en.all l)) (hlo:S.ev lo= .d (.v (.int k1 a))) (hhi:S.ev hi= .d (.v (.int k2 b)))
  (h0:0≤a) (h1:a<b) (h2:b.toNat≤l.length):AOp P r E S ⟨some d,.slice t x (some lo) (some hi) none,ty,pos,af,g⟩ d (.rs id (a.toNat*en.size) (b.toNat-a.toNat)):=
 zUP hn hT hx hb (vW en l) (lo:=some lo) (hi:=some hi) (l:=a.toNat) (h:=b.toNat) ⟨⟨k1,a,hlo,by omega⟩,⟨k2,b,hhi,by omega⟩,by omega,h2⟩
end
end Go.AV
namespace Go.M
def zAB {α β:Type} (f:List α→Option (List α)) (lo hi: β→Int) (l:List α) (items:List β):Option (List α):=items.foldl (fun o x=>o.bind fun l=>zIX f l (lo x) (hi x)) (some l)
theorem zKH {α β:Type} (f:List α→Option (List α)) (lo hi: β→Int):∀items:List β,items.foldl (fun (o:Option (List α)) x=>o.bind fun l=>zIX f l (lo x) (hi x)) none=none
 | []=>rfl
 | _::r=>zKH f lo hi r
noncomputable def outK {α β:Type} (f:List α→Option (List α)) (lo hi: β→Int) (l:List α) (items:List β) (k:Nat):List α:=(zAB f lo hi l (items.take k)).getD []
theorem z0A {α β:Type} {f:List α→Option (List α)} {lo hi: β→Int} {l r:List α} {items:List β} (h:zAB f lo hi l items=some r) {k:Nat} {v: β} (hv:items[k]? =some v):zIX f (outK f lo hi l items k) (lo v) (hi v)=some (outK f lo hi l items (k+1)):=by
 have hk:=(List.getElem?_eq_some_iff.1 hv).1;have e:zAB f lo hi l (items.take (k+1))=(zAB f lo hi l (items.take k)).bind fun l=>zIX f l (lo v) (hi v):=by
  unfold zAB;rw[List.take_add_one,hv,List.foldl_append];rfl
 have hs:∃x,zAB f lo hi l (items.take (k+1))=some x:=by
  cases hx:zAB f lo hi l (items.take (k+1)) with
  | some x=>exact⟨x,rfl⟩
  | none=>
   exfalso;have h2:=h;rw[←List.take_append_drop (k+1) items] at h2;unfold zAB at h2 hx;rw[List.foldl_append,hx,zKH] at h2;cases h2
 obtain⟨x,hx⟩:=hs;rw[hx] at e;unfold outK;rw[hx];cases hp:zAB f lo hi l (items.take k) with
 | none=>rw[hp] at e;cases e
 | some y=>rw[hp] at e;exact e.symm
theorem z2D {α β:Type} {f:List α→Option (List α)} {lo hi: β→Int} {l r:List α} {items:List β} (h:zAB f lo hi l items=some r):outK f lo hi l items items.length=r:=by unfold outK;rw[List.take_length,h];rfl
theorem z2E {α:Type} {f:List α→Option (List α)} {l l':List α} {a b:Int} (h:zIX f l a b=some l'):0≤a∧a<b∧b.toNat≤l.length:=by unfold zIX at h;split at h;assumption;cases h
end Go.M
namespace Go.AV
open Go.RowKit Go.M
section
variable {P:Program} {r:Option Nat} {E:Env} {S:AState} {d:Nat} {ty:TypeId} {pos:String} {af:Array Edge} {g:Option (Nat×Bool)}
theorem NilL.app:∀{as bs cs ds:List DV},NilL as bs→NilL cs ds→NilL (as++cs) (bs++ds)
 | [],[],_,_,_,h=>h
 | [],_::_,_,_,h,_=>h.elim
 | _::_,[],_,_,h,_=>h.elim
 | _::_,_::_,_,_,h,k=>⟨h.1,NilL.app h.2 k⟩
theorem NilL.len:∀{as bs:List DV},NilL as bs→as.length=bs.length
 | [],[],_=>rfl
 | [],_::_,h=>h.elim
 | _::_,[],h=>h.elim
 | _::_,_::_,h=>by simp[NilL.len h.2]
theorem zP6 {id e size:Nat} {as bs:List DV} (hb:S.blk id= .row e size false as) (hn:NilL as bs):zGG E S (S.setBlk id (.row e size false bs)):=by
 rintro a w ⟨I,ρ,C,h⟩
 have hk:=h.blks id;rw[hb] at hk;obtain⟨hp,n,xs,hl,hown,h1,hr,hI⟩:=hk;have hne:S.blk id≠ .none:=by rw[hb];simp
 have key:∀i,(S.setBlk id (.row e size false bs)).blk i≠ .none→S.blk i≠ .none:=by
  intro i hi;rw[jB] at hi;by_cases e':id=i;subst e';exact hne;simpa[e'] using hi
 refine⟨I,ρ,C,⟨h.tmps,fun i=>?_,fun i i' b hn hi hi'=>h.dist i i' b hn (key i hi) (key i' hi'),h.frame,h.sub,h.old,h.size,h.defers,h.cI,fun i b hi=>h.cB i b (key i hi),fun i v hv hi=>h.nm i v hv (key i hi)⟩⟩;rw[jB];by_cases e':id=i;subst e';simp only[if_true];exact⟨hp,n,xs,by rw[←hn.len];exact hl,hown,h1,zLH hn hr,by rw[←hn.len];exact hI⟩
 simp only[e',if_false];exact h.blks i
variable {α:Type} {en:En α} {l:List α} {t e bytes:Nat} {z:Value} {x:Operand}
theorem z5L {n:Int} {zero: α} (hn:d<E.n) (hT:SlTy P t e en.size bytes z) (hx:S.ev x= .d (.v (.int .i64 n))) (ha:mkM zero n=some l) (hby2:bytes≤32768) (hnm:E.nm d=none):
  j9 P r E ⟨some d,.makeSlice t x x,ty,pos,af,g⟩ S (((S.kill d).setBlk d (.row e en.size false (zHD z l.length))).put d (.row d)):=by
 unfold mkM at ha;split at ha
 ·rename_i hh
  cases ha;have h1:n=((n.toNat:Nat):Int):=by omega
  have h2:n.toNat*bytes≤140737488355328:=by
   have h1:n.toNat*bytes≤4294967296*bytes:=Nat.mul_le_mul_right _ hh.2;have h2:4294967296*bytes≤4294967296*32768:=Nat.mul_le_mul_left _ hby2;omega
  have:=zQZ (P:=P) (r:=r) (ty:=ty) (pos:=pos) (af:=af) (g:=g) hn hT hx h1 h2 (by have:=hh.2;unfold LIM at this;unfold maxLen;omega) hnm
  rw[List.length_replicate];exact this
 ·cases ha
theorem z0B {n:Int} {zero: α} (hz:NilL (z.cells.toList.map DV.v) (en.cells zero)) (ha:mkM zero n=some l):NilL (zHD z l.length) (en.all l):=by
 unfold mkM at ha;split at ha;cases ha;rw[List.length_replicate]
 induction n.toNat with
 | zero=>trivial
 | succ k ih=>exact hz.app ih
 cases ha
end
end Go.AV
namespace Go.AV
open Go.M
theorem wc {E:Env} {S S':AState} (ht:Cov S S'.tmps:=by repeat (first | exact trivial | refine⟨rfl,?_⟩)) (hb:zMD S S'.blks:=by repeat (first | exact trivial | refine⟨rfl,?_⟩)) (hgh:∀C w,E.fr S.ghost C w→E.fr S'.ghost C w:=by exact fun _ _ h=>h):zGG E S S':=zF ht hb hgh
section
variable {P:Program} {r:Option Nat} {E:Env} {S S':AState} {l:List Oper} {J:AState→Prop} {fuel i d j t:Nat} {listed:List Bool} {is:List Nat} {o:Oper} {x:AV} {b:Bool} {ops:Array Oper} {rest:List Oper}
theorem xc (ho:l[i]? =some o) (h:AOp P r E S o d x) (k:zIJ P r E l J fuel (listed.set i true) (S.put d x)) (hg:o.guard=none:=by rfl):AnyE P r E l J fuel listed S [i]:=xE ho hg h k zX8
theorem xd (ho:l[i]? =some o) (h:j9 P r E o S S') (k:zIJ P r E l J fuel (listed.set i true) S') (hg:o.guard=none:=by rfl):AnyE P r E l J fuel listed S [i]:=zRI ho hg h k zX8
theorem kK {c:Operand} {y z:Code} {K:Exit→AState→Prop} {α:Type} {A B:Option α} {q:Option α} (hc:S.ev c= .d (.v (.bool b))) (h:cond b A B=q) (k1:b=true→A=q→Avc P r E y K S) (k2:b=false→B=q→Avc P r E z K S):Avc P r E (.cond c y z) K S:=
 zJC hc ⟨fun e=>k1 e (cT e h),fun e=>k2 e (cF e h)⟩
end
theorem co {F H G:Prop} (f:F) (k:H) (h:F→H→G:=by exact fun f k=>zN f (by kernel_rfl) rfl (lq rfl) (lq rfl) k):G:=h f k
theorem oi {α:Type} {a b: α} (h:some a=some b):a=b:=Option.some.inj h
end Go.AV
namespace Go.AV
open Go.RowKit Go.M
def pnd (a:Act) (vs:Nat→Value):List (Nat×Nat)→Act
 | []=>a
 | u::U=>(pnd a vs U).put (some u.2) (vs u.2)
def unf (listed:List Bool) (U:List (Nat×Nat)):List Bool:=(List.range listed.length).map fun k=>listed.getD k true&& !U.any fun u=>u.1==k
section
variable {P:Program} {r:Option Nat} {E:Env} {l:List Oper} {J:AState→Prop} {S:AState}
def FlS (P:Program) (r:Option Nat) (E:Env) (l:List Oper) (S:AState) (u:Nat×Nat):Prop:= ∃o,l[u.1]? =some o∧o.guard=none∧u.2∉o.looksAt l.toArray∧AOp P r E S o u.2 (S.get u.2)
def yAE (P:Program) (r:Option Nat) (E:Env) (l:List Oper) (J:AState→Prop) (fl:List (Nat×Nat)) (fuel:Nat) (listed:List Bool) (S:AState):Prop:=
 ∀(U:List (Nat×Nat)),U.Nodup→(∀u∈U,u∈fl)→∀(vs:Nat→Value) (a:Act) (w:World),Sat E S (pnd a vs U) w→wpAnyIn (fen r) 0 P .any l.toArray (QJ E J) (fuel+U.length) (unf listed U).toArray a w
end
end Go.AV
namespace Go.AV
open Go.RowKit Go.M
section
variable {P:Program} {r:Option Nat} {E:Env} {l:List Oper} {J:AState→Prop} {S:AState} {fl:List (Nat×Nat)} {listed:List Bool} {fuel:Nat}
def FlA (P:Program) (r:Option Nat) (E:Env) (l:List Oper) (S:AState):List (Nat×Nat)→Prop
 | []=>True
 | u::fl=>FlS P r E l S u∧FlA P r E l S fl
theorem FlA.mem:∀{fl:List (Nat×Nat)},FlA P r E l S fl→∀u∈fl,FlS P r E l S u
 | [],_,u,h=>by cases h
 | v::fl,h,u,hu=>by
  rcases List.mem_cons.1 hu with e | hu;rw[e];exact h.1;exact h.2.mem u hu
def AnyG (P:Program) (r:Option Nat) (E:Env) (l:List Oper) (J:AState→Prop) (fl:List (Nat×Nat)) (fuel:Nat) (listed:List Bool) (S:AState):List Nat→Prop
 | []=>True
 | i::is=>(∃o S',l[i]? =some o∧o.guard=none∧j9 P r E o S S'∧yAE P r E l J fl fuel (listed.set i true) S')∧AnyG P r E l J fl fuel listed S is
theorem AnyG.mem:∀{is:List Nat} {i:Nat},AnyG P r E l J fl fuel listed S is→i∈is→∃o S',l[i]? =some o∧o.guard=none∧j9 P r E o S S'∧yAE P r E l J fl fuel (listed.set i true) S'
 | [],_,_,h=>by cases h
 | k::is,i,h,hi=>by
  rcases List.mem_cons.1 hi with e | hi;subst e;exact h.1;exact AnyG.mem h.2 hi
end
end Go.AV
namespace Go.M
end Go.M
namespace Go.AV
open Go.RowKit Go.M
end Go.AV
namespace Go.AV
open Go.RowKit Go.M
end Go.AV
namespace Go.M
end Go.M
namespace Go.M
theorem gT {α:Type} [Inhabited α] {m:Option α} {r: α} (h:gM true m=some r):m=some r:=h
end Go.M
namespace Go.AV
open Go.RowKit Go.M
end Go.AV
namespace Go.M
end Go.M
namespace Go.AV
open Go.RowKit Go.M
end Go.AV
namespace Go.M
end Go.M
namespace Go.AV
open Go.RowKit Go.M
end Go.AV
namespace Go.AV
end Go.AV
namespace Go.M
open Go.AV
end Go.M
namespace Go.AV
theorem z2F (l:List Int):yG eI l= .ints l:=by
 unfold yG En.all DV.ints;have:l.flatMap eI.cells=l.map di:=by
  induction l with
  | nil=>rfl
  | cons x l ih=>rw[List.flatMap_cons,ih];rfl
 rw[this];rfl
end Go.AV
namespace Go.AV
open Go.M
theorem lr {a b:Nat} (h:Nat.blt a b=true:=by exact rfl):a<b:=lq h
section
variable {α:Type} {x y: α} {G:Prop}
theorem er (h:some x=some y) (k:x=y→G:=by intro e;cases e;refine yC ?_;exact zRF rfl):G:=k (oi h)
theorem es (h:some x=some y) (k:x=y→G:=by intro e;cases e;exact zRF rfl):G:=k (oi h)
theorem ex (h:some x=some y) (k:x=y→G:=by intro e;cases e;intro q;cases q;exact zR wc):G:=k (oi h)
theorem ew (h:some x=some y) (k:x=y→G:=by intro e;cases e;exact wc):G:=k (oi h)
end
end Go.AV
namespace Go.M
end Go.M
namespace Go.AV
open Go.RowKit Go.M
section
variable {P:Program} {r:Option Nat} {E:Env} {S:AState} {d:Nat} {ty:TypeId} {pos:String} {af:Array Edge} {g:Option (Nat×Bool)} {κ ν:Type} {kv: κ→Value} {ev:En ν} {m:List (κ×ν)} {t kt vt:TypeId} {x:Operand}
section
variable {X Y:Type} {bs: κ×ν→X→Option (Stp X Y)} {bn:X→Option (Stp X Y)} {ex:Y→Exit} {st:Y→AState} {T:List Nat→X→AState} {q:List Nat} {x:X} {s:Stp X Y} {c:Code} {ops:Array Oper} {l:List Oper}
theorem Sq.mono {J J':AState→Prop} (hj:∀S,J S→J' S):∀(l:List Oper) {S:AState},Sq P r E ops l S J→Sq P r E ops l S J'
 | [],_,h=>hj _ h
 | _::l,_,⟨S',h,k⟩=>⟨S',h,Sq.mono hj l k⟩
end
end
end Go.AV
namespace Go.M
end Go.M
namespace Go.AV
open Go.RowKit Go.M Go.Sort
section
variable {P:Program} {α:Type} [Inhabited α]
theorem zVD {w:World} {g n off:Nat} {os:Array Obj} {cur:Array Value} {e:TypeId} {fr:Nat×Nat} (encV: α→Value) (d:Array α) (hb:w.heap[g]? =some (.cells cur e fr)):
  (grow (putRow encV (Sort.ahead w n) g off d) os).heap[g]? =some (.cells (putCells encV off d cur) e fr):=by
 have hg:g<w.heap.size:=(Array.getElem?_eq_some_iff.1 hb).1;rw[heap_grow_old _ _ (by simpa using hg)];simp[putRow,mapBlock,Sort.ahead,Array.getElem?_modify,hb,onCells]
theorem zJN {w:World} {g n off k:Nat} {os:Array Obj} (encV: α→Value) (d:Array α) (hk:k<w.heap.size) (hne:k≠g):
  (grow (putRow encV (Sort.ahead w n) g off d) os).heap[k]? =w.heap[k]?:=by
 rw[heap_grow_old _ _ (by simpa using hk)];have:g≠k:=fun e=>hne e.symm;simp[putRow,mapBlock,Sort.ahead,Array.getElem?_modify,this]
theorem z5M {f:FuncId} {e:Nat} {en:En α} {encV: α→Value} (hv:∀x,en.dv x= .v (encV x)) (hsz:en.size=1) (h1:∀x,(encV x).oneCell'=true) {l r:List α} (hl:r.length=l.length)
  (hfn:∃fn,P.funcs[f]? =some fn∧(fn.name== "runtime.NumGoroutine")=false∧fn.body.isNone=false)
  (hnil:l= []→∀(A:Option Addr) (c:Nat) (w:World),Calls P f #[.slice A 0 c] w fun en w'=>en= .returned (.tuple #[])∧w'=w)
  (hcall:∀(blk off cap:Nat) (w:World),Sort.Holds encV w blk off l.toArray→blk<w.heap.size→Calls P f #[.slice (some ⟨blk,off,none⟩) l.length cap] w fun en w'=>
   en= .returned (.tuple #[])∧∃n os,w'=grow (putRow encV (Sort.ahead w n) blk off r.toArray) os):
  GC P f [.row 0] [(0,.win e en.size 0 (en.all l))] [0] [] [(0,.win e en.size 0 (en.all r))]:=by
 have hall:∀m:List α,en.all m=m.map fun x=>DV.v (encV x):=fun m=>by
  have:en.cells=fun x=>[DV.v (encV x)]:=by funext x;simp[En.cells,hv,vH]
  simp only[En.all,this]
  induction m with
  | nil=>rfl
  | cons x m ih=>simp[ih]
 refine⟨hfn,fun w I ρ vs hI hG hfrag hvs=>?_⟩;have hlen:=hvs.1
 match vs,hlen with
 | [v0],_=>
  have hv0:v0= ρ 0:=hvs.2 0 v0 (.row 0) rfl rfl;subst hv0;have hk:=hfrag.ok 0;have hlk:look Blk.none [(0,Blk.win e en.size 0 (en.all l))] 0= .win e en.size 0 (en.all l):=rfl;rw[hlk] at hk;obtain⟨A,n,c,xs,hρ,hnc,hp,hcl,hr,hx1,hA⟩:=hk;have hn:n=l.length:=by rw[vW] at hcl;exact(Nat.eq_of_mul_eq_mul_right hp hcl).symm
  subst hn;have hxs:xs=l.map encV:=by
   have hrl:xs.length=l.length:=by have:=hr.1;rw[hall] at this;simpa using this
   apply List.ext_getElem?;intro j;by_cases hj:j<xs.length
   ·have hxj:xs[j]? =some xs[j]:=List.getElem?_eq_getElem hj
    have hlj:l[j]? =some (l[j]'(by omega)):=List.getElem?_eq_getElem (by omega);have:=hr.2 j xs[j] (.v (encV (l[j]'(by omega)))) hxj (by rw[hall];simp[hlj])
    rw[hxj,List.getElem?_map,hlj,zRH this];rfl
   ·rw[List.getElem?_eq_none (by omega),List.getElem?_eq_none (by simp;omega)]
  have own:∀b,xL [(0,Blk.win e en.size 0 (en.all l))] ρ b↔blockOf (ρ 0)=some b:=by
   intro b;constructor
   ·rintro⟨id,hne,hb⟩
    by_cases e0:0=id
    ·subst e0;exact hb
    ·exact absurd (by rw[k8];simp[e0,look]) hne
   ·intro hb;exact⟨0,by rw[hlk];simp,hb⟩
  have own':∀b (ρ':Nat→Value),xL [(0,Blk.win e en.size 0 (en.all r))] ρ' b→blockOf (ρ' 0)=some b:=by
   rintro b ρ' ⟨id,hne,hb⟩
   by_cases e0:0=id
   ·subst e0;exact hb
   ·exact absurd (by rw[k8];simp[e0,look]) hne
  rcases hA with ⟨rfl,hl0⟩ | ⟨b,off,arr,rfl,_,hh,hfit,hc,hIw⟩
  ·have hlnil:l= []:=List.eq_nil_of_length_eq_zero hl0
   have hrnil:r= []:=List.eq_nil_of_length_eq_zero (by omega);subst hlnil;subst hrnil;have hcl:=hnil rfl none c w;rw[hρ];refine hcl.mono ?_
   rintro en' w' ⟨rfl,rfl⟩
   exact⟨_,I,ρ,rfl,Chg.refl _ _,xB _ _,fun _ _ h=>h,fun b j hi=>⟨hI b j hi,.inl hi⟩,hfrag,⟨[],rfl,Pw.nil⟩,fun b hb=>by have:=own' b ρ hb;rw[hρ] at this;simp[blockOf] at this,fun _ _ _=>rfl⟩
  ·have hb:b<w.heap.size:=(Array.getElem?_eq_some_iff.1 hh).1
   rw[hsz,Nat.mul_one] at hfit hIw;have hH:Sort.Holds encV w b off l.toArray:=by
    intro j hj;have hj':j<l.length:=by simpa using hj
    refine⟨?_,by simp[World.frozen?,hh]⟩;rw[cell_of_row w b (off+j) arr e (0,0) hh];have:=hc j (encV (l[j])) (by rw[hxs,List.getElem?_map,List.getElem?_eq_getElem hj'];rfl)
    rw[this];congr 2;simp[hj']
   rw[hρ];refine(hcall b off c w hH hb).mono ?_
   rintro en' w' ⟨rfl,q,os,rfl⟩
   have hsame:Same I w (grow (putRow encV (Sort.ahead w q) b off r.toArray) os):=by
    intro b' j hi;by_cases e':b'=b
    ·subst e'
     have hout:j<off∨off+l.length≤j:=by
      rcases Nat.lt_or_ge j off with h | h
      ·exact .inl h
      ·rcases Nat.lt_or_ge j (off+l.length) with h2 | h2
       ·have:=hIw j h h2 hi;omega
       ·exact .inr h2
     refine KeepB.ofCell hh ?_;rw[cell_of_row _ b' j _ e (0,0) (zVD encV r.toArray hh),cell_of_row w b' j arr e (0,0) hh];simp only[putCells,Array.getElem?_mapIdx,List.size_toArray,hl];have:¬(off≤j∧j<off+l.length):=by omega
     simp[this]
    ·exact KeepB.of (zJN encV _ (hI b' j hi) e')
   have hbo:blockOf (ρ 0)=some b:=by rw[hρ];rfl
   refine⟨_,I,ρ,rfl,⟨rfl,rfl,rfl,by simp,fun k hk hne=>zJN encV _ hk (fun e'=>hne (by rw[own,hbo,e']))⟩,hsame,fun _ _ h=>h,fun b' j hi=>⟨by have:=hI b' j hi;simp;omega,.inl hi⟩,⟨fun id=>?_,fun id id' b' hne h1' h2'=>?_⟩,⟨[],rfl,Pw.nil⟩,fun b' hb'=>?_,fun _ _ _=>rfl⟩
   ·by_cases e0:0=id
    ·subst e0
     show BlkOk _ I ρ _ 0 (.win e en.size 0 (en.all r));refine⟨_,l.length,c,r.map encV,hρ,hnc,hp,by rw[vW,hl],?_,by simpa using fun x _=>h1 x,.inr ⟨b,off,putCells encV off r.toArray arr,rfl,trivial,zVD encV _ hh,?_,fun j x hj=>?_,fun j hj1 hj2 hi=>by rw[hsz,Nat.mul_one] at hj2;have:=hIw j hj1 (by omega) hi;omega⟩⟩
     ·rw[hall]
      refine⟨by simp,fun j x d hx hd=>?_⟩;rw[List.getElem?_map] at hx hd;cases hr':r[j]? with
      | none=>simp[hr'] at hx
      | some y=>simp[hr'] at hx hd;subst hx;subst hd;exact .v _
     ·rw[hsz];simp[putCells];omega
     ·rw[List.getElem?_map] at hj
      cases hr':r[j]? with
      | none=>simp[hr'] at hj
      | some y=>
       simp[hr'] at hj;subst hj;have hjl:j<r.length:=(List.getElem?_eq_some_iff.1 hr').1;simp only[putCells,Array.getElem?_mapIdx,List.size_toArray];have hlt:off+j<arr.size:=by omega
       rw[Array.getElem?_eq_getElem hlt];have hin:off≤off+j∧off+j<off+r.length:=by omega
       simp only[Option.map_some,hin,and_self,if_true];have e3:off+j-off=j:=by omega
       rw[e3];congr 2;have:r[j]? =some r[j]:=List.getElem?_eq_getElem hjl;rw[this] at hr';cases hr';simp[hjl]
    ·have:look Blk.none [(0,Blk.win e en.size 0 (en.all r))] id= .none:=by rw[k8];simp[e0,look]
     rw[this];trivial
   ·exfalso
    by_cases e0:0=id
    ·have:look Blk.none [(0,Blk.win e en.size 0 (en.all r))] id'= .none:=by rw[k8];simp[show ¬0=id' from fun e1=>hne (e0.symm.trans e1),look]
     exact h2' this
    ·have:look Blk.none [(0,Blk.win e en.size 0 (en.all r))] id= .none:=by rw[k8];simp[e0,look]
     exact h1' this
   ·have h2:=own' b' ρ hb'
    refine⟨?_,.inr ((own b').2 h2)⟩;rw[hbo] at h2;cases h2;simp;omega
end
end Go.AV
namespace Go.AV
open Go.RowKit Go.M
section
variable {P:Program} {r:Option Nat} {E:Env} {S:AState} {d:Nat} {ty:TypeId} {pos:String} {af:Array Edge} {g:Option (Nat×Bool)} {t tz:TypeId} {ps rs:Array TypeId} {vr:Bool} {x:Operand}
theorem zO1 (hu:P.underlying t=some (.func ps rs vr)) (w:World):(Op.equal t .nilFunc .nilFunc).run P w= .ok true w:=by show (Op.equalIn (9999+1) t .nilFunc .nilFunc).run P w=_;rw[Op.equalIn];simp[run_underlying hu]
theorem z0C (hn:d<E.n) (hu:P.underlying t=some (.func ps rs vr)) (hx:S.ev x= .d (.v .nilFunc)):
  AOp P r E S ⟨some d,.binOp .neq t x (.const .nilFunc) tz,ty,pos,af,g⟩ d (.d (.v (.bool false))):=
 ⟨rfl,hn,fun S' ha=>jQ rfl hn (by simp) fun A w I ρ C hs=>by
  have hv:=hs.val ((ha.ev (x:=x) (by simp[Op.operands])).trans hx);have hc:A.eval (.const .nilFunc)= .nilFunc:=rfl;have hb:binOp .neq t .nilFunc .nilFunc=(do pure (.bool (!(←Op.equal t .nilFunc .nilFunc)))):=rfl;have hg:eqGuard .neq t x (.const .nilFunc) .nilFunc .nilFunc=pure ():=rfl;simp only[execOp,hv,hc,hb,hg,Sem.run_bind,Sem.run_pure,Result.andThen_ok,zO1 hu];rfl⟩
end
end Go.AV
namespace Go
end Go
namespace Go.AV
end Go.AV
namespace Go.M
end Go.M
namespace Go.AV
open Go.RowKit Go.M Go.Sort
end Go.AV
namespace Go.AV
open Go.RowKit Go.M
end Go.AV
namespace Go.M
def zYA (l:List Str):Option (List Str):=if l.length≤LIM then some (l.mergeSort fun x y=>decide (x≤y)) else none
end Go.M
namespace Go.AV
open Go.RowKit Go.M
section
variable {P:Program} {r:Option Nat} {E:Env} {S:AState} {d:Nat} {ty:TypeId} {pos:String} {af:Array Edge} {g:Option (Nat×Bool)}
theorem z2G {f:FuncId} {caps:List Operand} {ds:List DV} (hn:d<E.n) (hd:unD (caps.map S.ev)=some ds):
  AOp P r E S ⟨some d,.makeFunc (.func f) caps.toArray #[],ty,pos,af,g⟩ d (.d (.bm f ds)):=
 ⟨rfl,hn,fun S' ha=>kC rfl hn (by simp) fun A w I ρ C hs=>by
  have he:caps.map S'.ev=caps.map S.ev:=List.map_congr_left fun x hx=>ha.ev (by simp[Op.operands];simpa using hx)
  rw[←he] at hd;obtain⟨h1,h2⟩:=zEB S' hd;have hreps:Reps w I (caps.map A.eval) ds:=by
   have:=u7 hs caps;generalize caps.map A.eval=vs at this ⊢;generalize caps.map S'.ev=avs at this hd;clear h1 h2 he
   induction avs generalizing vs ds with
   | nil=>simp[unD] at hd;subst hd;have:vs= []:=List.eq_nil_of_length_eq_zero this.1;subst this;exact Pw.nil
   | cons c cells ih=>
    cases vs with
    | nil=>have:=this.1;simp at this
    | cons x xs=>
     cases c with
     | d y=>
      simp only[unD] at hd;cases hu:unD cells with
      | none=>simp[hu] at hd
      | some ys=>
       simp[hu] at hd;subst hd;exact Pw.cons (this.2 0 x (.d y) rfl rfl) (ih xs ⟨by have:=this.1;simpa using this,fun j u z hu hz=>this.2 (j+1) u z (by simpa using hu) (by simpa using hz)⟩ hu)
     | _=>simp[unD] at hd
  refine⟨.func (.func f) (caps.map A.eval).toArray #[],?_,.bm f _ ds hreps.1 hreps.2⟩;simp[execOp,Instr.makeFunc]⟩
theorem z2H {f:FuncId} {x:Operand} {xs:List Operand} {ats:Array TypeId} {caps ds rs:List DV} (hn:d<E.n) (hx:S.ev x= .d (.bm f caps)) (hds:unD (xs.map S.ev)=some ds) (hc:zU P f (caps++ds) rs) (hG:E.gdt=uO P:=by rfl):
  AOp P r E S ⟨some d,.call {callee:= .value x,args:=xs.toArray,argTypes:=ats},ty,pos,af,g⟩ d (zOO rs):=
 ⟨rfl,hn,fun S' ha=>by
  have he:xs.map S'.ev=xs.map S.ev:=List.map_congr_left fun x hx=>ha.ev (by simp[Op.operands,Call.operands,hx]);rw[←he] at hds;obtain⟨hd1,hd2⟩:=zEB S' hds
  rintro A w K Q ⟨I,ρ,C,hs⟩ hk
  obtain⟨⟨fn,hf,hname,hbody⟩,hcall⟩:=hc;obtain⟨I1,h1,h2,h3⟩:=SatAt.dvL _ hs (u7 hs xs) hd1;rw[hd2] at h2;have hxv:=hs.ev x;rw[(ha.ev (x:=x) (by simp[Op.operands,Call.operands])).trans hx] at hxv;have hxv':Rep w I (A.eval x) (.bm f caps):=hxv;generalize hvx:A.eval x=vx at hxv';cases hxv' with
  | bm f cvs caps hcx hcr=>
   have hcr':Reps w I1 cvs caps:=⟨hcx,fun j u z hu hz=>(hcr j u z hu hz).mono (xB I w) h1⟩;have hcl:=hcall w I1 (cvs++xs.map A.eval) (fun b j hi=>(h2.old b j hi).1) (hG▸h2.gl) (Pw.append hcr' h3);refine⟨fun f _=>trivial,?_⟩;rw[Oper.semAt_eq _ _ _ (by simp)];have hrun:(execOp A.eval ⟨some d,.call {callee:= .value x,args:=xs.toArray,argTypes:=ats},ty,pos,af,g⟩).run P w= .ok (.enter f (cvs++xs.map A.eval).toArray) w:=by
    simp only[execOp,resolve,hvx,Deferred.ofValue];have hn1:¬fn.name= "runtime.NumGoroutine" :=by simpa using hname
    have hn2:¬fn.body=none:=by intro e;simp[e] at hbody
    simp[invoke,callFunc,hf,hn1,hn2,List.map_toArray]
   rw[hrun];refine⟨by simp[fen,Fence.wide],?_⟩;show CallsIn Fence.wide 0 P f _ w _;refine callsIn_wide.2 (hcl.mono ?_)
   rintro e w' ⟨v,I',rfl,hb,hsub,hnew,hret⟩
   refine hk _ _ ⟨I',ρ,C,SatAt.put ?_ hn (zHC hret)⟩;have h4:=h2.grow hb;exact h4.widen hsub hnew (fun i b hi hbk=>(h2.blt i b hi hbk).2) (E.size _ _ _ h2.frame) (fun b hc=>E.csize _ _ _ h2.frame b hc)⟩
end
end Go.AV
namespace Go.AV
open Go.RowKit Go.Proofs Go.M
def keyB (l:List Int):List UInt8:=l.flatMap fun i=>Lib.itoa i++ [32]
theorem z0D (l:List Int) (x:Int):keyB (l++ [x])=keyB l++(Lib.itoa x++ [32]):=by simp[keyB]
theorem zVE:∀(l:List Int),(∀i∈l,-9223372036854775808≤i∧i≤9223372036854775807)→(keyB l).length≤22*l.length
 | [],_=>by simp[keyB]
 | x::l,h=>by
  have h1:=zVE l fun i hi=>h i (List.mem_cons_of_mem _ hi);have h2:=Lib.itoa_length_le x (h x List.mem_cons_self).1 (h x List.mem_cons_self).2;have e:(keyB (x::l)).length=(Lib.itoa x).length+1+(keyB l).length:=by simp[keyB];omega
  rw[e,List.length_cons];omega
theorem z0E {l:List Int} {k:Nat} (h:k<l.length):l.take (k+1)=l.take k++ [l.getD k 0]:=by rw[List.take_add_one,List.getD_eq_getElem?_getD,List.getElem?_eq_getElem h];rfl
def z8H (l:List Int):Option Str:=if l.length≤1000000∧∀i∈l,-9223372036854775808≤i∧i≤9223372036854775807 then some (keyB l) else none
theorem z8I {P:Program} {g:Nat} (hv:P.globalNamed "internal/strconv.uint64pow10" =some g) (hg:uO P g=some (Lib.pow10Tab.map (Value.int .u64))) {w:World} {I:Im} (hG:GlI (uO P) w I):Lib.TabIs P w "internal/strconv.uint64pow10" .u64 Lib.pow10Tab:=by
 have hc:=hG g _ hg;unfold Lib.TabIs World.var?;rw[hv,Option.bind_some];have h0:=(hc 0).1;have e0:(Lib.pow10Tab.map (Value.int .u64))[0]? =some (.int .u64 1):=by kernel_rfl
 rw[e0] at h0;unfold World.cell? at h0;split at h0;rename_i cs e fr hh;rw[hh];refine congrArg some (Array.ext' ?_);refine List.ext_getElem? fun j=>?_;have hj:=(hc j).1;unfold World.cell? at hj;rw[hh] at hj;simpa using hj;cases h0
theorem z2I {w:World} {I:Im} {v:Value} {a0:List Int} (hI:∀b j,I b j→b<w.heap.size) (hv:Rep w I v (yG eI a0)):∃A n c,v= .slice A n c∧n=a0.length∧(0<n→∃b off,A=some ⟨b,off,none⟩∧b<w.heap.size∧∀j,j<n→w.cell? ⟨b,off+j,none⟩=some (.int .i64 (a0.getD j 0))):=by
 rw[z2F] at hv;unfold DV.ints at hv;generalize hd:DV.sl 1 (a0.map di)=d at hv;cases hv with
 | nil A c size=>
  simp only[DV.sl.injEq,List.map_eq_nil_iff] at hd;exact⟨A,0,c,rfl,by rw[hd.2];rfl,fun h=>absurd h (by decide)⟩
 | sl b off n c size xs cells hn hcap hl hx hc h1 hr=>
  simp only[DV.sl.injEq] at hd;obtain⟨rfl,rfl⟩:=hd;have hnl:n=a0.length:=by simpa using hl.symm
  have hx':∀j,j<n→xs[j]? =some (.int .i64 (a0.getD j 0)):=fun j hj=>by
   have hj':j<xs.length:=by rw[hx];simpa[hnl] using hj
   have hd:(a0.map di)[j]? =some (di (a0.getD j 0)):=by
    rw[List.getElem?_map,List.getD_eq_getElem?_getD,List.getElem?_eq_getElem (by omega)];rfl
   have q:=hr j _ _ (List.getElem?_eq_getElem hj') hd;rw[List.getElem?_eq_getElem hj'];generalize xs[j]=u at q;unfold di at q;cases q;rfl
  refine⟨_,n,c,rfl,hnl,fun h0=>⟨b,off,rfl,?_,fun j hj=>(hc j _ (hx' j hj)).1⟩⟩;exact hI b _ (hc 0 _ (hx' 0 h0)).2
 | _=>cases hd
end Go.AV
namespace Go.AV
open Go.RowKit Go.M
def MapI {κ:Type} (kv: κ→Value) (w:World) (b:Nat) (mp:List (κ×Int)):Prop:=
 ∃ents clock,w.heap[b]? =some (.map ents clock)∧Pw (fun (x:MapEntry) (p: κ×Int)=>x.key=kv p.1∧x.val= .int .i64 p.2) ents.toList mp
theorem MapI.keep {κ:Type} {kv: κ→Value} {w w':World} {b:Nat} {mp:List (κ×Int)} (h:MapI kv w b mp) (hb:w'.heap[b]? =w.heap[b]?):MapI kv w' b mp:=
 let ⟨ents,clock,h1,h2⟩:=h
 ⟨ents,clock,hb.trans h1,h2⟩
theorem MapI.lt {κ:Type} {kv: κ→Value} {w:World} {b:Nat} {mp:List (κ×Int)} (h:MapI kv w b mp):b<w.heap.size:=
 let ⟨_,_,h1,_⟩:=h
 (Array.getElem?_eq_some_iff.1 h1).1
theorem MapI.made {κ:Type} (kv: κ→Value) (w:World):MapI kv (w.alloc (.map #[] 0)) w.heap.size []:=⟨#[],0,heap_alloc_new w _,Pw.nil⟩
theorem zST {α β γ:Type} {R: α→γ→Prop} {f: β→γ} {xs:List α} {ys:List β} (h:Pw (fun x y=>R x (f y)) xs ys):Pw R xs (ys.map f):=by
 refine⟨by rw[h.1,List.length_map],fun j x y hx hy=>?_⟩;rw[List.getElem?_map] at hy;cases hq:ys[j]? with
 | none=>rw[hq] at hy;cases hy
 | some z=>
  rw[hq] at hy;cases hy;exact h.2 j x z hx hq
section
variable {P:Program} {κ:Type} [DecidableEq κ] {kv: κ→Value} {t kt vt:TypeId} {w:World} {b:Nat} {mp:List (κ×Int)}
theorem zVF (hT:MapTy P t kt vt (.int .i64 0)) (hK:KeyTy P kt kv) (h:MapI kv w b mp) (k: κ):
  (Instr.lookup t (.map (some b)) (kv k) true).run P w= .ok (.tuple #[.int .i64 (xI mp k 0),.bool (wK mp k)]) w:=by
 obtain⟨ents,clock,hh,hp⟩:=h;obtain⟨v,h1,h2⟩:=zGJ (w:=w) (I:=fun _ _=>False) (ev:=eI) (zero:=0) (k:=k) hT hK hh (zST (f:=fun p: κ×Int=>(kv p.1,eI.dv p.2)) (hp.imp fun x p hx=>⟨hx.1,by rw[hx.2];exact .v _⟩)) (.v _) true
 have e:v= .int .i64 (xI mp k 0):=by
  revert h2
  show Rep _ _ v (di _)→_;unfold di;intro h2;cases h2;rfl
 rw[h1,e];rfl
theorem zO2 (hT:MapTy P t kt vt (.int .i64 0)) (hK:KeyTy P kt kv) (h:MapI kv w b mp) {k: κ} (hk:mget mp k=none) (v:Int):
  ∃w',(Instr.mapUpdate t (.map (some b)) (kv k) (.int .i64 v)).run P w= .ok () w'∧w.grownBy w' (some b)∧MapI kv w' b (wD mp k v):=by
 obtain⟨ents,clock,hh,hp⟩:=h;have hp':Pw (fun (x:MapEntry) (y:Value×DV)=>x.key=y.1∧Rep w (fun _ _=>False) x.val y.2) ents.toList (vB kv eI mp):=zST (f:=fun p: κ×Int=>(kv p.1,eI.dv p.2)) (hp.imp fun x p hx=>⟨hx.1,by rw[hx.2];exact .v _⟩)
 have hlt:=(Array.getElem?_eq_some_iff.1 hh).1;have hf:=hK.find k _ ents.toList w (zN1 hp');have hget:(getObj b).run P w= .ok (.map ents clock) w:=by simp[getObj,Sem.run,hh]
 rcases zGI (a:=k) (i:=0) hp' with ⟨e1,e2⟩ | ⟨v0,j,x0,e1,_⟩
 ·rw[e2] at hf
  refine⟨{w with heap:=w.heap.setIfInBounds b (.map (ents.push {key:=kv k,val:= .int .i64 v,born:=clock}) (clock+1))},?_,⟨rfl,rfl,rfl,by simp,fun q _ hq=>Array.getElem?_setIfInBounds_ne (fun e=>hq (by rw[e]))⟩,?_⟩
  ·simp only[Instr.mapUpdate,Sem.run_bind,run_underlying hT.und,Result.andThen_ok,hget,hK.check,hf,zGK hh]
  ·refine⟨_,_,Array.getElem?_setIfInBounds_self_of_lt hlt,?_⟩
   rw[zLG e1,Array.toList_push];exact Pw.append hp (Pw.cons ⟨rfl,rfl⟩ Pw.nil)
 ·rw[hk] at e1
  cases e1
end
theorem zSU {w:World} {B B' e e' s s' n m:Nat} {v u:Value} {xs ys:List Value} (h:w.ownsRow B e s v n xs) (k:w.ownsRow B' e' s' u m ys) (he:e≠e'):v.ownBlock=none∨v.ownBlock≠u.ownBlock:=by rcases h.2 with ⟨rfl,_⟩ | ⟨g,cap,cur,rfl,_,hh,_⟩;exact .inl rfl;refine .inr fun hb=>?_;rcases k.2 with ⟨rfl,_⟩ | ⟨g',cap',cur',rfl,_,hh',_⟩;cases hb;cases hb;rw[hh] at hh';cases hh';exact he rfl
theorem zLK {κ:Type} {kv: κ→Value} {w:World} {B e s n b:Nat} {v:Value} {xs:List Value} {mp:List (κ×Int)} (h:w.ownsRow B e s v n xs) (k:MapI kv w b mp):v.ownBlock≠some b:=by
 intro hb;obtain⟨ents,clock,hm,_⟩:=k;rcases h.2 with ⟨rfl,_⟩ | ⟨g,cap,cur,rfl,_,hh,_⟩
 cases hb;cases hb;rw[hh] at hm;cases hm
structure GIx (w:World) (B ts ti:Nat) (tA:Value) (vs:List Value) (gs:List (List Int)):Prop where
 row:w.ownsRow B ts 1 tA vs.length vs
 rows:Pw (fun v (g:List Int)=>w.ownsRow B ti 1 v g.length (g.map (Value.int .i64))) vs gs
 dist:∀(i j:Nat) (v u:Value) (b:Nat),i≠j→vs[i]? =some v→vs[j]? =some u→v.ownBlock=some b→u.ownBlock≠some b
section
variable {w w':World} {B ts ti:Nat} {tA:Value} {vs:List Value} {gs:List (List Int)}
theorem GIx.nil (w:World) (B ts ti:Nat):GIx w B ts ti (.slice none 0 0) [] []:=⟨World.ownsRow_nil _ _ _ _,Pw.nil,fun i j v u b _ h=>by simp at h⟩
theorem GIx.keep (h:GIx w B ts ti tA vs gs) {row:Option Nat} (hg:w.grownBy w' row) (hA:tA.ownBlock=none∨tA.ownBlock≠row) (hv:∀v∈vs,v.ownBlock=none∨v.ownBlock≠row):GIx w' B ts ti tA vs gs:=
 ⟨h.row.kept hg hA,⟨h.rows.1,fun j x y hx hy=>(h.rows.2 j x y hx hy).kept hg (hv x (List.mem_of_getElem? hx))⟩,h.dist⟩
theorem zO3 (o:Option Nat):o=none∨o≠none:=by cases o<;>simp
theorem GIx.none' (h:GIx w B ts ti tA vs gs) (hg:w.grownBy w' none):GIx w' B ts ti tA vs gs:=h.keep hg (zO3 _) fun _ _=>zO3 _
theorem zNB (h:Below w.heap.size w w'):w.grownBy w' none:=⟨h.os,h.tape,h.output,h.size,fun k hk _=>h.block k hk⟩
theorem GIx.inner (h:GIx w B ts ti tA vs gs) {v:Value} (hv:v∈vs):∃g,w.ownsRow B ti 1 v g.length (List.map (Value.int .i64) g):=by obtain⟨j,hj,rfl⟩:=List.mem_iff_getElem.1 hv;have hj':j<gs.length:=h.rows.1▸hj;exact⟨gs[j],h.rows.2 j _ _ (List.getElem?_eq_getElem hj) (List.getElem?_eq_getElem hj')⟩
theorem GIx.map {κ:Type} {kv: κ→Value} {b:Nat} {mp:List (κ×Int)} (h:GIx w B ts ti tA vs gs) (hm:MapI kv w b mp) (hg:w.grownBy w' (some b)):GIx w' B ts ti tA vs gs:=
 h.keep hg (.inr (zLK h.row hm)) fun v hv=> .inr (let ⟨_,q⟩:=h.inner hv;zLK q hm)
theorem GIx.push (h:GIx w B ts ti tA vs gs) (hne:ts≠ti) {tA':Value} (hg:w.grownBy w' tA.ownBlock) (hr:w'.ownsRow B ts 1 tA' (vs.length+1) (vs++ [.slice none 0 0])):GIx w' B ts ti tA' (vs++ [.slice none 0 0]) (gs++ [[]]):=by
 refine⟨by simpa using hr,Pw.append ⟨h.rows.1,fun j x y hx hy=>(h.rows.2 j x y hx hy).kept hg ?_⟩ (Pw.cons (World.ownsRow_nil _ _ _ _) Pw.nil),?_⟩
 ·rcases zSU (h.rows.2 j x y hx hy) h.row (Ne.symm hne) with q | q
  ·exact .inl q
  ·exact .inr q
 ·intro i j v u b hij hv hu hb
  rw[List.getElem?_append] at hv hu;split at hv
  ·split at hu
   ·exact h.dist i j v u b hij hv hu hb
   ·have:u= .slice none 0 0:=by
     have:=List.mem_of_getElem? hu;simpa using this
    subst this;intro e;cases e
  ·have:v= .slice none 0 0:=by
    have:=List.mem_of_getElem? hv;simpa using this
   subst this;cases hb
theorem GIx.put (h:GIx w B ts ti tA vs gs) (hne:ts≠ti) {w1 w2:World} {k:Nat} {v v':Value} {g:List Int} {x:Int} (hv:vs[k]? =some v) (hgk:gs[k]? =some g)
  (hg:w.grownBy w1 v.ownBlock) (hr:w1.ownsRow B ti 1 v' (g.length+1) (g.map (Value.int .i64)++ [.int .i64 x])) (hl:v'.ownBlock=v.ownBlock∨v'.ownBlock=some w.heap.size)
  (hg2:w1.grownBy w2 tA.ownBlock) (hr2:w2.ownsRow B ts 1 tA vs.length (vs.set k v')):GIx w2 B ts ti tA (vs.set k v') (gs.set k (g++ [x])):=by
 have hA1:w1.ownsRow B ts 1 tA vs.length vs:=h.row.kept hg (zSU h.row (h.rows.2 k v g hv hgk) hne);have k2:∀{u:Value} {m:Nat} {ys:List Value},w1.ownsRow B ti 1 u m ys→w2.ownsRow B ti 1 u m ys:=fun q=>q.kept hg2 (zSU q hA1 (Ne.symm hne));refine⟨by simpa using hr2,⟨by simp[h.rows.1],fun j u y hu hy=>?_⟩,?_⟩
 ·rw[List.getElem?_set] at hu hy
  by_cases e:k=j
  ·subst e
   have l1:=(List.getElem?_eq_some_iff.1 hv).1;have l2:=(List.getElem?_eq_some_iff.1 hgk).1;simp[l1] at hu;simp[l2] at hy;subst hu;subst hy;have:=k2 hr;simpa using this
  ·simp only[e,if_false] at hu hy
   refine k2 ((h.rows.2 j u y hu hy).kept hg ?_);cases hb:u.ownBlock with
   | none=>exact .inl rfl
   | some b=>exact .inr fun e2=>h.dist j k u v b (Ne.symm e) hu hv hb e2.symm
 ·have lt:∀(i:Nat) (u:Value) (b:Nat),vs[i]? =some u→u.ownBlock=some b→b<w.heap.size:=fun i u b hu hb=>by
   obtain⟨_,q⟩:=h.inner (List.mem_of_getElem? hu);exact(q.lt b hb).2
  intro i j p u b hij hp hu hb;rw[List.getElem?_set] at hp hu;have l1:=(List.getElem?_eq_some_iff.1 hv).1;by_cases e:k=i
  ·subst e
   simp[l1] at hp;subst hp;simp only[hij,if_false] at hu;rcases hl with hl | hl
   ·exact h.dist k j v u b hij hv hu (hl▸hb)
   ·intro e3
    have:=lt j u b hu e3;rw[hl] at hb;cases hb;omega
  ·simp only[e,if_false] at hp
   by_cases e2:k=j
   ·subst e2
    simp[l1] at hu;subst hu;rcases hl with hl | hl
    ·rw[hl]
     exact h.dist i k p v b hij hp hv hb
    ·rw[hl]
     intro e3;cases e3;have:=lt i p _ hp hb;omega
   ·simp only[e2,if_false] at hu
    exact h.dist i j p u b hij hp hu hb
end
theorem GIx.shape {w:World} {B ts ti:Nat} {tA:Value} {vs:List Value} {gs:List (List Int)} (h:GIx w B ts ti tA vs gs) {q:Nat} (hq:q<vs.length):
  ∃gA cap,tA= .slice (some ⟨gA,0,none⟩) vs.length cap∧w.cell? ⟨gA,q,none⟩=some vs[q]:=by
 rcases h.row.2 with ⟨_,h0⟩ | ⟨g,cap,cur,e,_⟩
 ·omega
 ·subst e
  refine⟨g,cap,rfl,?_⟩;have:=h.row.cellAt q (by omega)
  rwa [List.getElem?_eq_getElem hq] at this
theorem zYB {w:World} {I:Im} {B e n:Nat} {v:Value} {xs:List Value} {cells:List DV} (h:w.ownsRow B e 1 v n xs) (hI:∀b j,B≤b→b<w.heap.size→I b j) (hx:Reps w I xs cells) (h1:∀x∈xs,x.oneCell'=true):Rep w I v (.sl 1 cells):=by
 have hl:=hx.1;have hl0:=h.1;rcases h.2 with ⟨rfl,rfl⟩ | ⟨g,cap,cur,rfl,hb,hh,hn,hc,hs,ht⟩
 cases cells with
 | nil=>exact .nil _ _ _
 | cons c cs=>rw[hl0] at hl;simp at hl
 by_cases h0:n=0;subst h0;cases cells with
 | nil=>exact .nil _ _ _
 | cons c cs=>rw[hl0] at hl;simp at hl
 refine .sl g 0 n cap 1 xs cells (by omega) hn (by omega) hl (fun j x hj=>⟨?_,hI _ _ hb (Array.getElem?_eq_some_iff.1 hh).1⟩) h1 hx.2;have:=h.cellAt j (by have:=(List.getElem?_eq_some_iff.1 hj).1;omega)
 rw[hj] at this;simpa using this
theorem zSV {w:World} {B e e' s n g:Nat} {v:Value} {xs:List Value} {arr:Array Value} (h:w.ownsRow B e s v n xs) (k:w.heap[g]? =some (.cells arr e' (0,0))) (he:e≠e'):v.ownBlock≠some g:=by
 intro hb;rcases h.2 with ⟨rfl,_⟩ | ⟨g',cap,cur,rfl,_,hh,_⟩
 cases hb;cases hb;rw[hh] at k;cases k;exact he rfl
theorem z5N {w:World} {B e s n:Nat} {v:Value} {xs:List Value} (h:w.ownsRow B e s v n xs):v.oneCell'=true:=by rcases h.2 with ⟨rfl,_⟩ | ⟨g',cap,cur,rfl,_⟩<;>rfl
theorem zSW {w:World} {B e s n:Nat} {v:Value} {xs:List Value} (h:w.ownsRow B e s v n xs):∃A c,v= .slice A n c:=by rcases h.2 with ⟨rfl,rfl⟩ | ⟨g',cap,cur,rfl,_⟩<;>exact⟨_,_,rfl⟩
theorem zRL {w:World} {B e s n:Nat} {v:Value} {xs:List Value} (h:w.ownsRow B e s v n xs):∃A n c,v= .slice A n c:=by rcases h.2 with ⟨rfl,_⟩ | ⟨g',cap,cur,rfl,_⟩<;>exact⟨_,_,_,rfl⟩
theorem zRM {κ:Type} {kv: κ→Value} {B ts ti tb bm bx q m gA capA:Nat} {W w2 w5:World} {v v':Value} {vs:List Value} {gs:List (List Int)} {g0:List Int} {x:Int} {mp:List (κ×Int)} {arr:Array Value} (o:Obj)
  (h1:ts≠ti) (h2:ts≠tb) (h3:ti≠tb) (hG:GIx w2 B ts ti (.slice (some ⟨gA,0,none⟩) m capA) vs gs) (hM:MapI kv w2 bm mp) (hX:w2.heap[bx]? =some (.cells arr tb (0,0))) (hB:Below B W w2) (hBs:B≤w2.heap.size)
  (hv:vs[q]? =some v) (hg:gs[q]? =some g0) (hgr:(w2.alloc o).grownBy w5 v.ownBlock) (hown:w5.ownsRow B ti 1 v' (g0.length+1) (g0.map (Value.int .i64)++ [.int .i64 x]))
  (hloc:v'.ownBlock=v.ownBlock∨v'.ownBlock=some (w2.alloc o).heap.size) (hm:m=vs.length) (hq:q<m):
  ∃w6,w6=w5.setCell ⟨gA,q,none⟩ v'∧w5.frozen? ⟨gA,q,none⟩=false∧w5.cell? ⟨gA,q,none⟩=some v∧GIx w6 B ts ti (.slice (some ⟨gA,0,none⟩) m capA) (vs.set q v') (gs.set q (g0++ [x]))∧MapI kv w6 bm mp∧w6.heap[bx]? =some (.cells arr tb (0,0))∧Below B W w6:=by
 have ga:w2.grownBy (w2.alloc o) none:=World.grownBy_alloc _ _ _;have hGa:GIx (w2.alloc o) B ts ti (.slice (some ⟨gA,0,none⟩) m capA) vs gs:=hG.none' ga;have hMa:MapI kv (w2.alloc o) bm mp:=hM.keep (Below.heap_alloc _ _ _ hM.lt);have hXa:(w2.alloc o).heap[bx]? =some (.cells arr tb (0,0)):=(Below.heap_alloc _ _ _ (Array.getElem?_eq_some_iff.1 hX).1).trans hX;have hr:=hGa.rows.2 q v g0 hv hg;have hA5:w5.ownsRow B ts 1 (.slice (some ⟨gA,0,none⟩) m capA) vs.length vs:=hGa.row.kept hgr (zSU hGa.row hr h1);have hM5:MapI kv w5 bm mp:=hMa.keep (hgr.block _ hMa.lt (fun e=>zLK hr hMa e.symm));have hX5:w5.heap[bx]? =some (.cells arr tb (0,0)):=(hgr.block _ (Array.getElem?_eq_some_iff.1 hXa).1 (fun e=>zSV hr hXa h3 e.symm)).trans hXa;subst hm;obtain⟨s3,s2⟩:=hA5.stored q v';refine⟨_,rfl,hA5.frozenAt q,by rw[hA5.cellAt q (by omega)];exact hv,hGa.put h1 hv hg hgr hown hloc s2 s3,hM5.keep (s2.block _ hM5.lt (fun e=>zLK hA5 hM5 e.symm)),(s2.block _ (Array.getElem?_eq_some_iff.1 hX5).1 (fun e=>zSV hA5 hX5 h2 e.symm)).trans hX5,?_⟩
 exact((hB.alloc hBs _).grown hgr (by have:=ga.size;omega) (fun k hk=>(hr.lt k hk).1)).grown s2 (by have:=ga.size;have:=hgr.size;omega) (fun k hk=>by cases hk;exact(hA5.lt gA rfl).1)
theorem z0F {w:World} {I:Im} {v:Value} {cells:List DV} (hI:∀b j,I b j→b<w.heap.size) (hv:Rep w I v (.sl 1 cells)):
  ∃A c b off,∃xt:Nat→Value,v= .slice A cells.length c∧(0<cells.length→A=some ⟨b,off,none⟩∧b<w.heap.size)∧∀(j:Nat) d,cells[j]? =some d→w.cell? ⟨b,off+j,none⟩=some (xt j)∧Rep w I (xt j) d:=by
 generalize hd:DV.sl 1 cells=d at hv;cases hv with
 | nil A c size=>
  simp only[DV.sl.injEq] at hd;obtain⟨rfl,rfl⟩:=hd;exact⟨A,c,0,0,fun _=>undef,rfl,fun h=>absurd h (by decide),fun j d h=>by simp at h⟩
 | sl b off n c size xs cells' hn hcap hl hx hc h1 hr=>
  simp only[DV.sl.injEq] at hd;obtain⟨rfl,rfl⟩:=hd;have hnl:n=cells.length:=by omega
  subst hnl;have hx':∀(j:Nat) d,cells[j]? =some d→xs[j]? =some (xs.getD j undef):=fun j d hj=>by
   have:=(List.getElem?_eq_some_iff.1 hj).1;rw[List.getD_eq_getElem?_getD,List.getElem?_eq_getElem (by omega)];rfl
  refine⟨_,c,b,off,fun j=>xs.getD j undef,rfl,fun h0=>⟨rfl,?_⟩,fun j d hj=>⟨(hc j _ (hx' j d hj)).1,hr j _ d (hx' j d hj) hj⟩⟩;exact hI b _ (hc 0 _ (hx' 0 _ (List.getElem?_eq_getElem h0))).2
 | _=>cases hd
theorem z2J {w:World} {I:Im} {v:Value} {d0 d1 d2:DV} (hv:Rep w I v (.agg [d0,d1,d2])):∃c0 c1 c2,v= .agg #[c0,c1,c2]:=by
 generalize hd:DV.agg [d0,d1,d2]=d at hv;cases hv with
 | agg xs cells hx h1 hr=>
  cases hd
  match xs,hx with
  | [c0,c1,c2],_=>exact⟨c0,c1,c2,rfl⟩
 | _=>cases hd
theorem zVG {α β:Type} {f: α→Option β} (d: α) (e: β):∀{l:List α} {r:List β},l.mapM f=some r→r.length=l.length∧∀j,j<l.length→f (l.getD j d)=some (r.getD j e)
 | [],r,h=>by
  simp at h;subst h;exact⟨rfl,fun j hj=>by simp at hj⟩
 | x::l,r,h=>by
  simp only[List.mapM_cons,Option.bind_eq_bind,Option.bind_eq_some_iff,Option.pure_def,Option.some.injEq] at h;obtain⟨b,hb,r',hr',rfl⟩:=h;obtain⟨h1,h2⟩:=zVG d e hr';refine⟨by simp[h1],fun j hj=>?_⟩;cases j with
  | zero=>simpa using hb
  | succ j=>simpa using h2 j (by simpa using hj)
def zF1 (s:List (Str×Int)×List (List Int)) (key:Str) (i:Nat):List (Str×Int)×List (List Int):=
 match mget s.1 key with
 | some g=>(s.1,s.2.set g.toNat (s.2.getD g.toNat []++ [(i:Int)]))
 | none=>(wD s.1 key (s.2.length:Int),s.2++ [[(i:Int)]])
def zH2 (ks:List Str):Nat→List (Str×Int)×List (List Int)
 | 0=>([],[])
 | k+1=>zF1 (zH2 ks k) (ks.getD k []) k
def zP7 (l:List Int):Bool:=decide (1<l.length)
def zXG (ks:List Str):List (List Int):=(zH2 ks ks.length).2.filter zP7
structure GOk (s:List (Str×Int)×List (List Int)) (k:Nat):Prop where
 val:∀p∈s.1,0≤p.2∧p.2.toNat<s.2.length
 len:s.2.length≤k
 each:∀g∈s.2,g.length≤k
theorem zO4 {m:List (Str×Int)} {x:Str} {v:Int} (h:mget m x=some v):∃y,(y,v)∈m:=by
 induction m with
 | nil=>cases h
 | cons p m ih=>
  unfold mget at h;split at h;cases h;exact⟨p.1,List.mem_cons_self⟩;obtain⟨y,hy⟩:=ih h;exact⟨y,List.mem_cons_of_mem _ hy⟩
theorem gOk (ks:List Str):∀k,GOk (zH2 ks k) k
 | 0=>⟨by simp[zH2],Nat.le_refl _,by simp[zH2]⟩
 | k+1=>by
  have h:=gOk ks k;show GOk (zF1 _ _ _) _;unfold zF1;cases hg:mget (zH2 ks k).1 (ks.getD k []) with
  | some g=>
   obtain⟨y,hy⟩:=zO4 hg;have hv:=h.val _ hy;refine⟨fun p hp=>by simpa using h.val p hp,by simpa using Nat.le_succ_of_le h.len,fun l hl=>?_⟩;rcases List.mem_or_eq_of_mem_set hl with q | rfl;exact Nat.le_succ_of_le (h.each l q);have:=h.each ((zH2 ks k).2.getD g.toNat []) (by rw[List.getD_eq_getElem?_getD,List.getElem?_eq_getElem hv.2];exact List.getElem_mem hv.2)
   rw[List.length_append,List.length_singleton];omega
  | none=>
   refine⟨fun p hp=>?_,by simp;exact h.len,fun l hl=>?_⟩
   dsimp only at hp;rw[zLG hg,List.mem_append] at hp;dsimp only;rw[List.length_append];rcases hp with hp | hp
   have:=h.val p hp;exact⟨this.1,by simp;omega⟩
   simp at hp;subst hp;exact⟨Int.natCast_nonneg _,by simp⟩;rw[List.mem_append] at hl;rcases hl with hl | hl
   exact Nat.le_succ_of_le (h.each l hl);simp at hl;subst hl;simp
end Go.AV
namespace Go.AV
open Go.RowKit Go.M
def zHI (P:Program) (t:TypeId) {α:Type} (en:En α) (ok: α→Prop):Prop:=
 ∀(H:Type) (enc:TypeId×Value→H) (w:World) (base:Nat) (spare:Nat→Bool) (held:Bool) (fuel:Nat) (cs:List Value) (x:DataW H×List MemPlace),DataW.trod enc P w base spare held fuel t cs=some x→
  ∃a,ok a∧Reps w (zOT w) cs (en.cells a)∧∀c∈cs,c.oneCell'=true
section
variable {P:Program} {t:TypeId}
theorem zDC (ht:P.underlying t=some (.int .i64)):zHI P t eI (fun n=> -9223372036854775808≤n∧n≤9223372036854775807):=by intro H enc w base spare held fuel cs x h;obtain⟨n,rfl,_,hw⟩:=DataW.trod_int ht h;refine⟨n,?_,Pw.cons (.v _) Pw.nil,by simp[Value.oneCell']⟩;simp only[Lit.wf,Bool.and_eq_true,decide_eq_true_eq] at hw;exact hw
theorem zRN (ht:P.underlying t=some .string):zHI P t eS (fun s=>s.length≤9223372036854775807):=by
 intro H enc w base spare held fuel cs x h;obtain⟨s,rfl,_,hs⟩:=DataW.trod_string ht h;refine⟨s.data.toList,hs,Pw.cons ?_ Pw.nil,by simp[Value.oneCell']⟩;have:ds s.data.toList= .v (.string s):=by simp[ds]
 show Rep _ _ _ (ds s.data.toList);rw[this];exact .v _
theorem zJO {w:World} {I:Im} {α:Type} (en:En α):∀(css:List (List Value)) (l:List α),Pw (fun cs a=>Reps w I cs (en.cells a)) css l→Reps w I css.flatten (en.all l)
 | [],l,h=>by cases l with
  | nil=>exact Pw.nil
  | cons a l=>have:=h.1;simp at this
 | cs::css,l,h=>by cases l with
  | nil=>have:=h.1;simp at this
  | cons a l=>
   obtain⟨h1,h2⟩:=zHH h;exact Pw.append h1 (zJO en css l h2)
theorem zVH {α β:Type} {R:Nat→α→β→Prop} (n:Nat) (h:∀i,i<n→∃a b,R i a b):∃(as:List α) (bs:List β),as.length=n∧bs.length=n∧∀i a b,as[i]? =some a→bs[i]? =some b→R i a b:=by
 induction n with
 | zero=>exact⟨[],[],rfl,rfl,fun i a b h=>by simp at h⟩
 | succ n ih=>
  obtain⟨as,bs,h1,h2,h3⟩:=ih fun i hi=>h i (by omega);obtain⟨a,b,hab⟩:=h n (by omega);refine⟨as++ [a],bs++ [b],by simp[h1],by simp[h2],fun i x y hx hy=>?_⟩;by_cases hi:i<n
  ·rw[List.getElem?_append_left (by omega)] at hx hy;exact h3 i x y hx hy
  ·have:i=n:=by
    have:=(List.getElem?_eq_some_iff.1 hx).1;simp[h1] at this;omega
   subst this;rw[List.getElem?_append_right (by omega),h1] at hx;rw[List.getElem?_append_right (by omega),h2] at hy;simp at hx hy;subst hx;subst hy;exact hab
theorem zVI {α:Type} {css:List (List α)} {n:Nat} (h:∀cs∈css,cs.length=n) {j:Nat} {x: α} (hj:css.flatten[j]? =some x):∃cs,css[j/n]? =some cs∧cs[j%n]? =some x∧0<n:=by
 induction css generalizing j with
 | nil=>simp at hj
 | cons cs css ih=>
  have hl:=h cs (by simp);rw[List.flatten_cons] at hj;by_cases hlt:j<cs.length;rw[List.getElem?_append_left hlt] at hj;have hn:0<n:=by omega
  refine⟨cs,?_,?_,hn⟩;rw[Nat.div_eq_of_lt (by omega)];rfl;rw[Nat.mod_eq_of_lt (by omega)];exact hj;rw[List.getElem?_append_right (by omega)] at hj;obtain⟨c2,h1,h2,hn⟩:=ih (fun c hc=>h c (by simp[hc])) hj;rw[hl] at h1 h2;have e:j=(j-n)+n:=by omega
  refine⟨c2,?_,?_,hn⟩;rw[e,Nat.add_div_right _ hn];simpa using h1;rw[e,Nat.add_mod_right];exact h2
theorem zAW {e:TypeId} {α:Type} {en:En α} {ok: α→Prop} (ht:P.underlying t=some (.slice e)) (hc:P.cellsOf e=en.size) (hp:0<en.size) (he:zHI P e en ok):
  zHI P t (eL en) (fun l=>l.length≤9223372036854775807∧∀x∈l,ok x):=by
 intro H enc w base spare held fuel cs x h;rcases DataW.trod_slice ht h with ⟨rfl,_⟩ | ⟨a,len,cap,elems,rest,n,_,rfl,_,hb,hl,hm,hlen,hel,_,_⟩
 ·exact⟨[],⟨by simp,by simp⟩,Pw.cons (.nil _ _ _) Pw.nil,by simp[Value.oneCell']⟩
 ·obtain⟨css,l,h1,h2,h3⟩:=zVH (R:=fun i (cs':List Value) (y: α)=>ok y∧Reps w (zOT w) cs' (en.cells y)∧(∀c∈cs',c.oneCell'=true)∧cs'.length=en.size∧∀j,j<en.size→w.cell? ((a.add (i*en.size)).add j)=cs'[j]?) len (fun i hi=>by
   have h1:=hel i hi;have h2:elems[i]? =some (elems[i]'(by omega)):=List.getElem?_eq_getElem (by omega);rw[h2,Option.bind_eq_some_iff] at h1;obtain⟨cs',hcs,hy⟩:=h1;obtain⟨y,q1,q2,q3⟩:=he _ _ _ _ _ _ _ _ _ hy;rw[hc] at hcs;obtain⟨_,r1,r2⟩:=World.cells?_some hcs;exact⟨cs',y,q1,q2,q3,r1,r2⟩)
  have hlens:∀cs∈css,cs.length=en.size:=fun cs hcs=>by
   obtain⟨i,hi⟩:=List.getElem?_of_mem hcs;have hil:=(List.getElem?_eq_some_iff.1 hi).1;have:l[i]? =some (l[i]'(by omega)):=List.getElem?_eq_getElem (by omega);exact(h3 i cs _ hi this).2.2.2.1
  refine⟨l,⟨by unfold maxLen at hm;omega,fun y hy=>?_⟩,Pw.cons ?_ Pw.nil,by simp[Value.oneCell']⟩
  ·obtain⟨i,hi⟩:=List.getElem?_of_mem hy
   have hil:=(List.getElem?_eq_some_iff.1 hi).1;have:css[i]? =some (css[i]'(by omega)):=List.getElem?_eq_getElem (by omega);exact(h3 i _ y this hi).1
  ·show Rep w (zOT w) _ (yG en l)
   by_cases h0:len=0
   ·subst h0
    have:l= []:=List.eq_nil_of_length_eq_zero h2;subst this;exact .nil _ _ _
   ·obtain⟨b,off,spot⟩:=a
    have hcell0:∀(j:Nat) v,css.flatten[j]? =some v→∃i k,j=i*en.size+k∧k<en.size∧w.cell? (((⟨b,off,spot⟩:Addr).add (i*en.size)).add k)=some v:=by
     intro j v hj;obtain⟨cs,q1,q2,_⟩:=zVI hlens hj;have hil:=(List.getElem?_eq_some_iff.1 q1).1;have hli:l[j/en.size]? =some (l[j/en.size]'(by omega)):=List.getElem?_eq_getElem (by omega);have:=(h3 _ cs _ q1 hli).2.2.2.2 (j%en.size) (Nat.mod_lt _ hp);exact⟨j/en.size,j%en.size,(Nat.div_add_mod' j en.size).symm,Nat.mod_lt _ hp,by rw[this];exact q2⟩
    have hspot:spot=none:=by
     have hne:css.flatten≠[]:=by
      intro e;have:=congrArg List.length e;cases css with
      | nil=>simp at h1;omega
      | cons c css=>
       have:=hlens c (by simp);simp at e;have:=e.1;rw[this] at*
       simp_all
     obtain⟨v,hv⟩:∃v,css.flatten[0]? =some v:=by
      cases hf:css.flatten with
      | nil=>exact absurd hf hne
      | cons v _=>exact⟨v,rfl⟩
     obtain⟨i,k,hik,hk,hcell⟩:=hcell0 0 v hv;have hi0:i*en.size=0:=by omega
     have hk0:k=0:=by omega
     rw[hi0,hk0] at hcell;simp only[Addr.add,if_true,World.cell?] at hcell;cases spot with
     | none=>rfl
     | some s=>cases hb:w.heap[b]? with
      | none=>simp[hb] at hcell
      | some o=>cases o<;>simp[hb] at hcell
    subst hspot;have hreps:=zJO (w:=w) (I:=zOT w) en css l ⟨by omega,fun j cs y hcs hy=>(h3 j cs y hcs hy).2.1⟩;refine .sl b off len cap en.size css.flatten (en.all l) (by omega) hl (by rw[vW,h2]) hreps.1 (fun j v hj=>?_) (fun v hv=>?_) hreps.2
    ·obtain⟨i,k,hik,hk,hcell⟩:=hcell0 j v hj
     rw[zE1,zE1] at hcell;have e2:off+i*en.size+k=off+j:=by omega
     rw[e2] at hcell;refine⟨hcell,?_⟩;show b<w.heap.size;unfold World.cell? at hcell;cases hb:w.heap[b]? with
     | none=>simp[hb] at hcell
     | some o=>exact(Array.getElem?_eq_some_iff.1 hb).1
    ·obtain⟨cs,hcs,hv'⟩:=List.mem_flatten.1 hv
     obtain⟨i,hi⟩:=List.getElem?_of_mem hcs;have hil:=(List.getElem?_eq_some_iff.1 hi).1;have:l[i]? =some (l[i]'(by omega)):=List.getElem?_eq_getElem (by omega);exact(h3 i cs _ hi this).2.2.1 v hv'
theorem xS {fs:Array Field} {H:Type} {enc:TypeId×Value→H} {w:World} {base:Nat} {spare:Nat→Bool} {held:Bool} {fuel:Nat} {cs:List Value} {x:DataW H×List MemPlace} (ht:P.underlying t=some (.struct fs))
  (h:DataW.trod enc P w base spare held fuel t cs=some x) {k:Nat} {α:Type} {en:En α} {ok: α→Prop} {ft:TypeId} {off:Nat} (hf:(fs[k]?).map (fun f=>(f.offset,f.type))=some (off,ft)) (hc:P.cellsOf ft=en.size) (he:zHI P ft en ok):
  ∃a,ok a∧Reps w (zOT w) ((cs.drop off).take en.size) (en.cells a)∧∀c∈(cs.drop off).take en.size,c.oneCell'=true:=by
 obtain⟨xs,n,_,_,hl,hxl,hel⟩:=DataW.trod_struct ht h;cases hk:fs[k]? with
 | none=>simp[hk] at hf
 | some f=>
  simp[hk] at hf;obtain⟨rfl,rfl⟩:=hf;have h1:=hel k f hk;have hlt:k<xs.length:=by rw[hxl];exact(Array.getElem?_eq_some_iff.1 hk).1
  rw[List.getElem?_eq_getElem hlt,hc] at h1;exact he _ _ _ _ _ _ _ _ _ h1
theorem zCW {fs:Array Field} {H:Type} {enc:TypeId×Value→H} {w:World} {base:Nat} {spare:Nat→Bool} {held:Bool} {fuel:Nat} {cs:List Value} {x:DataW H×List MemPlace} (ht:P.underlying t=some (.struct fs))
  (h:DataW.trod enc P w base spare held fuel t cs=some x):cs.length=P.cellsOf t:=by
 obtain⟨xs,n,_,_,hl,_⟩:=DataW.trod_struct ht h;exact hl
theorem zD0 {w:World} {I:Im} {cs:List Value} {off:Nat} (h:cs.length=off):Reps w I (cs.drop off) []∧∀c∈cs.drop off,c.oneCell'=true:=by rw[List.drop_eq_nil_of_le (by omega)];exact⟨Pw.nil,by simp⟩
theorem xD {w:World} {I:Im} {cs:List Value} {off n:Nat} {d1 d2:List DV} (h1:Reps w I ((cs.drop off).take n) d1) (o1:∀c∈(cs.drop off).take n,c.oneCell'=true) (h2:Reps w I (cs.drop (off+n)) d2∧∀c∈cs.drop (off+n),c.oneCell'=true):Reps w I (cs.drop off) (d1++d2)∧∀c∈cs.drop off,c.oneCell'=true:=by
 have e:cs.drop off=(cs.drop off).take n++cs.drop (off+n):=by rw[←List.drop_drop,List.take_append_drop]
 rw[e];exact⟨Pw.append h1 h2.1,fun c hc=>by rcases List.mem_append.1 hc with h | h;exact o1 c h;exact h2.2 c h⟩
theorem zYC {H:Type} {enc:TypeId×Value→H} {w:World} {base:Nat} {spare:Nat→Bool} {held:Bool} {v:Value} {x:DataW H} {ps:List MemPlace} {α:Type} {en:En α} {ok: α→Prop} (he:zHI P t en ok) (h:DataW.Trod enc P w base spare held t v x ps)
  (hv:(v.cells= #[v]∧en.size=1∧(∀a,vH (en.dv a)= [en.dv a]))∨(∃cs,v= .agg cs∧∀a,∃es,en.dv a= .agg es)):∃a,ok a∧Rep w (zOT w) v (en.dv a):=by
 obtain⟨fuel,hf⟩:=h;obtain⟨a,h1,h2,h3⟩:=he _ _ _ _ _ _ _ _ _ hf;refine⟨a,h1,?_⟩;rcases hv with ⟨e1,e2,e3⟩ | ⟨cs,rfl,e⟩
 ·rw[e1] at h2
  simp only[En.cells,e3] at h2;exact h2.2 0 v (en.dv a) rfl rfl
 ·obtain⟨es,he'⟩:=e a
  simp only[En.cells,he',vH,Value.cells] at h2 h3;rw[he'];have:=Rep.agg (w:=w) (I:=zOT w) cs.toList es h2.1 h3 h2.2
  rwa [Array.toArray_toList] at this
end
end Go.AV


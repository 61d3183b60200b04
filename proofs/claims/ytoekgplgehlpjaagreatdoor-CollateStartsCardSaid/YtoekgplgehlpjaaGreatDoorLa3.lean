/- The layer of abstract values: what a temporary holds, said once; every rule of it is proved from the model. Conditions: none. -/
import Derived.Test.YtoekgplgehlpjaaGreatDoorLa2
import Derived.ChangeArms
import Derived.OpenShut
import Derived.WideShapes
set_option linter.unusedSimpArgs false
set_option linter.unusedVariables false
set_option linter.unnecessarySimpa false
namespace Go.AV
open Go.RowKit Go.M
section
variable {P:Program} {r:Option Nat} {E:Env} {S:AState} {d:Nat} {ty:TypeId} {pos:String} {af:Array Edge} {g:Option (Nat×Bool)}
theorem z0T {t e:TypeId} {n es id:Nat} {zs:List Value} {x:Operand} {kk:IntKind} (k:Nat) (hn:d < E.n) (hT:ArTy P t n es e zs) (hx:S.ev x= .ptr id 0) (hk:k < n):
  AOp P r E S ⟨some d,.slice t x (some (.const (.int kk k))) none none,ty,pos,af,g⟩ d (.rs id (k*es) (n - k)):=
 ⟨rfl,hn,fun S' ha=>z2 rfl hn (by simp) fun A w I ρ C hs=>by
  have h:=hs.ev x;rw [(ha.ev (x:=x) (by simp [Op.operands])).trans hx] at h;obtain ⟨b,h1,h2⟩:=h;refine ⟨_,?_,some ⟨b,k*es,none⟩,n - k,rfl,Nat.le_refl _,fun _=>⟨b,h1,rfl⟩⟩;have hne:n≠k:=by omega
  have hb:(Instr.sliceBounds false n n (some (.int kk k)) none none).run P w= .ok (k,n,n) w:=by
   simp [Instr.sliceBounds,xF (P:=P) w kk k n _ (by omega)]
  have hc:A.eval (.const (.int kk k))= .int kk k:=rfl;simp only [execOp,Instr.sliceAt,Sem.run_bind,run_underlying hT.und,Result.andThen_ok,h2,Option.map_some,Option.map_none,hc,Instr.sureAddr,Sem.run_pure,hb,hT.size,hne,if_false,uI,Nat.zero_add]⟩
def yE0 (cells:List AV) (off:Nat) (news:List AV):List AV:=cells.take off++news++cells.drop (off+news.length)
theorem z3Q {t e bytes:Nat} {z:Value} {x y:Operand} {id eb off n1 m:Nat} {cells:List AV} {news:List DV} (hn:d < E.n) (hT:SlTy P t e 1 bytes z) (hx:S.ev x= .rs id off n1) (hb:S.blk id= .box eb cells) (hfit:off+n1≤cells.length) (hp:0 < n1)
    (hy:S.ev y= .d (.sl 1 news)) (hml:news.length=m) (hE:E.wrB=true):
    jD P r E ⟨some d,.call {callee:= .builtin .copy,args:= #[x,y],argTypes:= #[t,t]},ty,pos,af,g⟩ S ((S.setBlk id (.box eb (yE0 cells off ((news.take (min m n1)).map AV.d)))).put d (.d (.v (.int .i64 (min m n1:Nat))))):=
  uW (by simp) fun A w I ρ C hs=>by
    have h1:=hs.ev x;rw [hx] at h1;obtain ⟨D,c1,hv,_,hadr⟩:=h1;obtain ⟨b,hρ,rfl⟩:=hadr hp;have h2:=hs.ev y;rw [hy] at h2;obtain ⟨B,m',c2,ys,hvy,_,hml',hpy,h1y,hcy⟩:=Rep.sl_inv h2;have hmm:m'=m:=by rw [←hml,hml'];omega
    subst hmm;have hbk:=hs.blks id;rw [hb] at hbk;obtain ⟨b',arr,hρ',hB,hh,h1',hpw,hI⟩:=hbk;have hbb:b'=b:=by rw [hρ'] at hρ;simpa [blockOf] using hρ
    subst hbb;have hal:arr.size=cells.length:=by rw [←Array.length_toList,hpw.1]
    have hyl:ys.length=m':=by rw [hpy.1,hml]
    have hsame:=fun (arr':Array Value)=>wV (w:=w) (I:=I) (b:=b') (arr:=arr') hI
    let zs:=ys.take (min m' n1)
    have hzl:zs.length=min m' n1:=by simp only [zs,List.length_take,hyl];omega
    have hz1:∀u∈zs,u.oneCell'=true:=fun u hu=>h1y u (List.mem_of_mem_take hu);have hst:=run_storeCells_at P b' off eb zs 0 arr w hh (by omega) hz1;simp only [Nat.add_zero] at hst;have hsat:=hs.modify (zBX w b' (arr.toList.take off++zs++arr.toList.drop (off+zs.length)).toArray) (by rw [hb];simp) hρ (hsame _) (x:= .box eb (yE0 cells off ((news.take (min m' n1)).map AV.d)))
      ⟨b',_,hρ',hB,setRow_heap w b' arr _ eb _ hh,by
        intro v hv';simp only [List.mem_append] at hv';rcases hv' with (hv' | hv') | hv'
        · exact h1' v (List.mem_of_mem_take hv')
        · exact hz1 v hv'
        · exact h1' v (List.mem_of_mem_drop hv'),by
        have hpw':=hpw.imp fun _ _ h=>Holds.mono h (hsame (arr.toList.take off++zs++arr.toList.drop (off+zs.length)).toArray) (fun _ _ h=>h);have hpz:Pw (Holds (w.setRow b' (arr.toList.take off++zs++arr.toList.drop (off+zs.length)).toArray) I ρ) zs ((news.take (min m' n1)).map AV.d):=
          yI0 (Reps.mono (hpy.take _) (hsame _) (fun _ _ h=>h))
        unfold yE0;rw [←hpz.1];exact Pw.append (Pw.append (hpw'.take off) hpz) (hpw'.drop _),hI⟩ hE
    have hload:(Builtin.firstCells 1 (min m' n1) (.slice B m' c2)).run P w= .ok zs.toArray w:=by
      by_cases h0:m'=0
      · subst h0
        have hz:zs= []:=List.eq_nil_of_length_eq_zero (by rw [hzl];omega)
        rw [hz,Nat.zero_min];cases B <;> simp [Builtin.firstCells,loadCells,loadCellsFrom]
      · obtain ⟨b2,o2,rfl,hcc⟩:=hcy (by omega)
        refine run_firstCells_some w 1 (min m' n1) ⟨b2,o2,none⟩ m' c2 zs (by rw [hzl];omega) fun j v hj=>?_
        rw [uI];simp only [zs,List.getElem?_take] at hj;split at hj
        · exact (hcc j v hj).1
        · cases hj
    have hcopy:=zKS (P:=P) (ty:=ty) hT.und w _ (hT.size w) (some ⟨b',off,none⟩) B n1 c1 m' c2 zs hload hst;refine ⟨_,_,?_,I,ρ,C,hsat.put hn (.v _)⟩;simp only [execOp,resolve,invoke,builtin,Sem.run_bind,Sem.run_pure,Result.andThen_ok,List.map_toArray,List.map_cons,List.map_nil,hv,hvy,hcopy]
def cpA (l:List Int) (i:Nat) (x:Int):Int:=(l[i]?).getD x
theorem yM5 (l:List Int) (y x0 x1 x2 x3 x4 x5 x6 x7:Int):yE0 ([y,x0,x1,x2,x3,x4,x5,x6,x7].map fun v=>AV.d (di v)) 1 (((eI.all l).take (min l.length 8)).map AV.d)=
  [y,cpA l 0 x0,cpA l 1 x1,cpA l 2 x2,cpA l 3 x3,cpA l 4 x4,cpA l 5 x5,cpA l 6 x6,cpA l 7 x7].map fun v=>AV.d (di v):=by
 match l with
 | []=>rfl
 | [_]=>rfl
 | [_,_]=>rfl
 | [_,_,_]=>rfl
 | [_,_,_,_]=>rfl
 | [_,_,_,_,_]=>rfl
 | [_,_,_,_,_,_]=>rfl
 | [_,_,_,_,_,_,_]=>rfl
 | a::b::c::dd::e::f::gg::h::rest=>
  have:min (a::b::c::dd::e::f::gg::h::rest).length 8=8:=by simp only [List.length_cons];omega
  rw [this];rfl
section win
variable {t e size bytes k n:Nat} {z:Value} {x:Operand} {id:Nat} {cells:List DV}
theorem z0U {ix:Operand} {kk:IntKind} {i:Int} {j:Nat} (hn:d < E.n) (hT:SlTy P t e size bytes z) (hx:S.ev x= .row id) (hb:S.blk id= .win e size k cells) (hi:S.ev ix= .d (.v (.int kk i))) (hj:i=(j:Int)) (hl:cells.length=n*size) (hlt:j < n):
  AOp P r E S ⟨some d,.indexAddr t x ix,ty,pos,af,g⟩ d (.wp id (j*size)):=
 ⟨rfl,hn,fun S' ha=>z2 rfl hn (by simp) fun A w I ρ C hs=>by
  subst hj;have h1:=hs.ev x;rw [(ha.ev (x:=x) (by simp [Op.operands])).trans hx] at h1;have hv:A.eval x= ρ id:=h1;have hk:=hs.blks id;rw [(ha.blk id).trans hb] at hk;obtain ⟨_,A',c,xs,hρ,hcap,_,_,hadr⟩:=zJB hk hl;obtain ⟨b,off,arr,rfl,_⟩:=hadr (by omega);have hiv:=hs.val ((ha.ev (x:=ix) (by simp [Op.operands])).trans hi);refine ⟨_,?_,b,off,n,c,hρ,rfl⟩;simp only [execOp,hv,hρ,hiv,Sem.run_bind,zI5 w hT.und (hT.size w) b off n c kk j hlt];rfl⟩
theorem z75 {tt:TypeId} {off:Nat} {y:DV} (hn:d < E.n) (hT:OneTy P tt) (hx:S.ev x= .wp id off) (hb:S.blk id= .win e size k cells) (hc:cells[off]? =some y):
    AOp P r E S ⟨some d,.load tt x,ty,pos,af,g⟩ d (.d y):=
  ⟨rfl,hn,fun S' ha=>z2 rfl hn (by simp) fun A w I ρ C hs=>by
    have h1:=hs.ev x;rw [(ha.ev (x:=x) (by simp [Op.operands])).trans hx] at h1;obtain ⟨b,o,n0,c0,hρ,hv⟩:=h1;have hk:=hs.blks id;rw [(ha.blk id).trans hb] at hk;obtain ⟨A',n',c,xs,hρ',hnc,hp,hl',hr,h1',hA⟩:=hk;rw [hρ] at hρ';cases hρ';have hlt:off < xs.length:=by rw [hr.1];exact (List.getElem?_eq_some_iff.1 hc).1
    have hxx:=List.getElem?_eq_getElem hlt;rcases hA with ⟨hA,_⟩ | ⟨b',off',arr,hA,hM,hh,hf,hcc,hI⟩
    · cases hA
    · cases hA
      refine ⟨xs[off],?_,hr.2 off _ y hxx hc⟩;have hcell:w.cell? ⟨b,o+off,none⟩=some xs[off]:=by rw [cell_of_row w b (o+off) arr e (0,0) hh];exact hcc off _ hxx
      simp only [execOp,hv,Sem.run_bind,zGU w hT b _ _ hcell];rfl⟩
theorem SatAt.spliceW {A:Act} {w:World} {I:Im} {ρ:Nat→Value} {C:Nat→Prop} (hs:SatAt E S A w I ρ C) {off b o:Nat} {news:List DV} {ys:List Value} {n0 c0:Nat} (hb:S.blk id= .win e size k cells) (hρ: ρ id= .slice (some ⟨b,o,none⟩) n0 c0)
    (hk:k*size≤off) (hfit:off+news.length≤cells.length) (hpos:0 < news.length) (hpy:Reps w I ys news) (h1y:∀u∈ys,u.oneCell'=true) (hE:E.wrB=true):
    ∃w',(storeCells ⟨b,o+off,none⟩ ys).run P w= .ok () w'∧SatAt E (S.setBlk id (.win e size k (spl cells off news))) A w' I ρ C:=by
  have hbk:=hs.blks id;rw [hb] at hbk;obtain ⟨A',n',c,xs,hρ',hnc,hp,hl',hr,h1',hA⟩:=hbk;have hρ2:=hρ';rw [hρ] at hρ';cases hρ';have hyl:ys.length=news.length:=hpy.1;rcases hA with ⟨hA,h0⟩ | ⟨b',off',arr,hA,hM,hh,hf,hcc,hI⟩
  · cases hA
  · cases hA
    have hst:=run_storeCells_at P b (o+off) e ys 0 arr w hh (by omega) h1y;simp only [Nat.add_zero] at hst;have hsame:Same I w (w.setRow b (arr.toList.take (o+off)++ys++arr.toList.drop (o+off+ys.length)).toArray):=by
      intro b2 j hi;by_cases e':b2=b
      · subst e'
        refine KeepB.ofCell hh (zQY hh _ ?_);have hout:j < o+off∨o+off+ys.length≤j:=by
          rcases Nat.lt_or_ge j o with h | h
          · left;omega
          · rcases Nat.lt_or_ge j (o+n0*size) with h2 | h2
            · have:=hI j h h2 hi;left;omega
            · right;omega
        have hjs:o+off+ys.length≤arr.size:=by omega
        simp only [List.getElem?_toArray,List.append_assoc];rcases hout with h | h
        · rw [List.getElem?_append_left (by simp;omega),List.getElem?_take,if_pos h];simp
        · rw [List.getElem?_append_right (by simp;omega),List.getElem?_append_right (by simp;omega),List.getElem?_drop]
          simp only [List.length_take,Array.length_toList];rw [show o+off+ys.length+(j - min (o+off) arr.size - ys.length)=j by omega];simp
      · exact KeepB.of (setRow_other w b b2 _ e')
    have hspl:(spl cells off news).length=cells.length:=by simp [spl];omega
    refine ⟨_,hst,hs.modify (zBX w b _) (by rw [hb];simp) (by rw [hρ];rfl) hsame ⟨_,n0,c0,xs.take off++ys++xs.drop (off+ys.length),hρ2,hnc,hp,by rw [hspl,hl'],?_,?_,.inr ⟨b,o,_,rfl,hM,setRow_heap w b arr _ e _ hh,?_,?_,hI⟩⟩ hE⟩
    · have hr':=hr.mono hsame (fun _ _ h=>h)
      have hpy':=hpy.mono hsame (fun _ _ h=>h);unfold spl;rw [←hyl];exact Pw.append (Pw.append (hr'.take off) hpy') (hr'.drop (off+ys.length))
    · intro v hv'
      simp only [List.mem_append] at hv';rcases hv' with (hv' | hv') | hv'
      · exact h1' v (List.mem_of_mem_take hv')
      · exact h1y v hv'
      · exact h1' v (List.mem_of_mem_drop hv')
    · simp;omega
    · intro j u hj
      have hxl:xs.length=cells.length:=hr.1;have hjl:j < (xs.take off++ys++xs.drop (off+ys.length)).length:=(List.getElem?_eq_some_iff.1 hj).1;simp only [List.length_append,List.length_take,List.length_drop] at hjl;simp only [List.getElem?_toArray,List.append_assoc] at hj ⊢;rcases Nat.lt_or_ge j off with h | h
      · rw [List.getElem?_append_left (by simp;omega),List.getElem?_take,if_pos h] at hj
        rw [List.getElem?_append_left (by simp;omega),List.getElem?_take,if_pos (by omega)]
        have:=hcc j u hj;simpa using this
      · rcases Nat.lt_or_ge j (off+ys.length) with h2 | h2
        · rw [List.getElem?_append_right (by simp;omega),List.getElem?_append_left (by simp;omega)] at hj
          rw [List.getElem?_append_right (by simp;omega),List.getElem?_append_left (by simp;omega)]
          simp only [List.length_take,Array.length_toList] at hj ⊢;rw [show o+j - min (o+off) arr.size=j - min off xs.length by omega];exact hj
        · rw [List.getElem?_append_right (by simp;omega),List.getElem?_append_right (by simp;omega),List.getElem?_drop] at hj
          rw [List.getElem?_append_right (by simp;omega),List.getElem?_append_right (by simp;omega),List.getElem?_drop]
          simp only [List.length_take,Array.length_toList] at hj ⊢;rw [show off+ys.length+(j - min off xs.length - ys.length)=j by omega] at hj;have:=hcc j u hj;rw [show o+off+ys.length+(o+j - min (o+off) arr.size - ys.length)=o+j by omega];simpa using this
theorem z3R {tt:TypeId} {y:Operand} {off:Nat} {u:DV} (hT:OneTy P tt) (hx:S.ev x= .wp id off) (hb:S.blk id= .win e size k cells) (hk:k*size≤off) (hlt:off < cells.length) (hy:S.ev y= .d u) (h1:(AV.d u).one=true) (hE:E.wrB=true):
    jD P r E ⟨none,.store tt x y,ty,pos,af,g⟩ S (S.setBlk id (.win e size k (cells.set off u))):=
  zFU rfl (by simp) fun A w I ρ C hs=>by
    have h:=hs.ev x;rw [hx] at h;obtain ⟨b,o,n0,c0,hρ,hv⟩:=h;have hyv:=hs.ev y;rw [hy] at hyv;have hone:=zSZ hs.blks hyv h1 (by intro _ e;cases e)
    obtain ⟨w',hst,hsat⟩:=hs.spliceW (P:=P) (off:=off) (news:=[u]) (ys:=[A.eval y]) hb hρ hk (by simp only [List.length_cons,List.length_nil];omega) (by simp) (Pw.cons hyv Pw.nil) (by simpa using hone) hE
    refine ⟨w',?_,I,ρ,C,?_⟩
    · simp only [execOp,hv,Instr.storeAt,Instr.sureAddr,storeVar,Sem.run_bind,Sem.run_pure,Result.andThen_ok,hT.agg,hT.size,zJ6 hone]
      simp [hst]
    · have e1:spl cells off [u]=cells.set off u:=by
        unfold spl;rw [List.set_eq_take_append_cons_drop,if_pos hlt];simp
      rw [e1] at hsat;exact hsat
theorem z76 {y:Operand} {n1 m off o2:Nat} {t1 t2:Bool} (hn:d < E.n) (hT:SlTy P t e size bytes z) (hx:S.ev x= .ws id (off*size) n1 t1) (hb:S.blk id= .win e size k cells) (hl:cells.length=n*size)
    (hy:S.ev y= .ws id (o2*size) m t2) (hk:k≤off) (hf1:off+n1≤n) (hf2:o2+m≤n) (hE:E.wrB=true):
    jD P r E ⟨some d,.call {callee:= .builtin .copy,args:= #[x,y],argTypes:= #[t,t]},ty,pos,af,g⟩ S
      ((S.setBlk id (.win e size k (spl cells (off*size) (((cells.drop (o2*size)).take (m*size)).take (min m n1*size))))).put d (.d (.v (.int .i64 (min m n1:Nat))))):=
  uW (by simp) fun A w I ρ C hs=>by
    have h1:=hs.ev x;rw [hx] at h1;obtain ⟨D,c1,hv,_,_,hadr⟩:=h1;have h2:=hs.ev y;rw [hy] at h2;obtain ⟨B,c2,hvy,_,_,hadr2⟩:=h2;have hmin:Nat.min m n1=min m n1:=rfl;by_cases h0:min m n1=0
    · have hcg:SatAt E (S.setBlk id (.win e size k (spl cells (off*size) (((cells.drop (o2*size)).take (m*size)).take (min m n1*size))))) A w I ρ C:=by
        refine hs.congr' (fun _=>rfl) (fun i=>?_);rw [yA];by_cases e':id=i
        · subst e'
          rw [hb,h0];simp [spl]
        · simp [e']
      refine ⟨.int .i64 (min m n1:Nat),w,?_,I,ρ,C,hcg.put hn (.v _)⟩;have:=zKS (P:=P) (ty:=ty) hT.und w w (hT.size w) D B n1 c1 m c2 [] (by rw [hmin,h0];cases B <;> simp [Builtin.firstCells,loadCells,loadCellsFrom]) (by cases D <;> simp [storeCells])
      simp only [execOp,resolve,invoke,builtin,Sem.run_bind,Sem.run_pure,Result.andThen_ok,List.map_toArray,List.map_cons,List.map_nil,hv,hvy,this]
    · obtain ⟨b,o,n0,c0,hρ,rfl⟩:=hadr (by omega)
      obtain ⟨b2,o3,n3,c3,hρ3,rfl⟩:=hadr2 (by omega);rw [hρ] at hρ3;cases hρ3;have hbk:=hs.blks id;rw [hb] at hbk;obtain ⟨hp,A',c,xs,hρ',hcap,hr,h1',hA⟩:=zJB hbk hl;rw [hρ] at hρ';cases hρ';obtain ⟨b',off',arr,hA',hM,hh,hf,hcc,hI⟩:=hA (by omega);cases hA';have hxl:xs.length=n*size:=by rw [hr.1,hl]
      have hm1:o2*size+m*size≤n*size:=by rw [←Nat.add_mul];exact Nat.mul_le_mul_right _ hf2
      have hm2:off*size+n1*size≤n*size:=by rw [←Nat.add_mul];exact Nat.mul_le_mul_right _ hf1
      have hk1:min m n1*size≤m*size:=Nat.mul_le_mul_right _ (by omega);have hk2:min m n1*size≤n1*size:=Nat.mul_le_mul_right _ (by omega);have hk3:0 < min m n1*size:=Nat.mul_pos (by omega) hp
      let zs:=((xs.drop (o2*size)).take (m*size)).take (min m n1*size)
      have hpz:Reps w I zs (((cells.drop (o2*size)).take (m*size)).take (min m n1*size)):=((hr.drop _).take _).take _;have hzl:zs.length=min m n1*size:=by simp only [zs,List.length_take,List.length_drop,hxl];omega
      have hnl:(((cells.drop (o2*size)).take (m*size)).take (min m n1*size)).length=min m n1*size:=by rw [←hpz.1,hzl]
      obtain ⟨w',hst,hsat⟩:=hs.spliceW (P:=P) (off:=off*size) (ys:=zs) hb hρ (Nat.mul_le_mul_right _ hk) (by rw [hnl,hl];omega) (by rw [hnl];exact hk3) hpz (fun u hu=>h1' u (List.mem_of_mem_drop (List.mem_of_mem_take (List.mem_of_mem_take hu)))) hE
      have hload:(Builtin.firstCells size (min m n1) (.slice (some ⟨b,o+o2*size,none⟩) m c2)).run P w= .ok zs.toArray w:=by
        refine run_firstCells_some w size (min m n1) ⟨b,o+o2*size,none⟩ m c2 zs hzl fun j v hj=>?_;rw [uI,cell_of_row w b (o+o2*size+j) arr e (0,0) hh];simp only [zs,List.getElem?_take,List.getElem?_drop] at hj;split at hj
        · split at hj
          · rw [Nat.add_assoc];exact hcc _ v hj
          · cases hj
        · cases hj
      have:=zKS (P:=P) (ty:=ty) hT.und w w' (hT.size w) (some ⟨b,o+off*size,none⟩) (some ⟨b,o+o2*size,none⟩) n1 c1 m c2 zs hload hst;refine ⟨_,w',?_,I,ρ,C,hsat.put hn (.v _)⟩;simp only [execOp,resolve,invoke,builtin,Sem.run_bind,Sem.run_pure,Result.andThen_ok,List.map_toArray,List.map_cons,List.map_nil,hv,hvy,this]
end win
end
end Go.AV
namespace Go.AV
open Go.RowKit Go.M
section
variable {P:Program} {r:Option Nat} {E:Env} {S:AState} {d:Nat} {ty:TypeId} {pos:String} {af:Array Edge} {g:Option (Nat×Bool)}
section win
variable {t e size bytes k n:Nat} {z:Value} {x:Operand} {id:Nat} {cells:List DV}
theorem zXU {xh xm:Operand} {k2 k3:IntKind} {ih:Int} {h:Nat} (hn:d < E.n) (hT:SlTy P t e size bytes z) (hx:S.ev x= .row id) (hbk:S.blk id= .win e size k cells) (hl:cells.length=n*size)
    (h2:S.ev xh= .d (.v (.int k2 ih))) (h3:S.ev xm= .d (.v (.int k3 ih))) (e2:ih=(h:Int)) (hhn:h≤n):
    AOp P r E S ⟨some d,.slice t x none (some xh) (some xm),ty,pos,af,g⟩ d (.ws id 0 h true):=
  ⟨rfl,hn,fun S' ha=>z2 rfl hn (by simp) fun A w I ρ C hs=>by
    subst e2;have h1:=hs.ev x;rw [(ha.ev (x:=x) (by simp [Op.operands])).trans hx] at h1;have hv:A.eval x= ρ id:=h1;have hk:=hs.blks id;rw [(ha.blk id).trans hbk] at hk;obtain ⟨_,A',c,xs,hρ,hcap,_,_,hadr⟩:=zJB hk hl;have v2:=hs.val ((ha.ev (x:=xh) (by simp [Op.operands])).trans h2);have v3:=hs.val ((ha.ev (x:=xm) (by simp [Op.operands])).trans h3);refine ⟨_,?_,(if h=0 then A' else A'.map (·.add (0*size))),h - 0,rfl,by omega,(by simp),fun h0=>?_⟩
    · simp only [execOp,hv,hρ,Sem.run_bind,Option.map_none,Option.map_some,v2,v3,z3N w hT.und (hT.size w) A' n c 0 h h none k2 k3 (.inl ⟨rfl,rfl⟩) (by omega) (by omega) (by omega)]
      rfl
    · obtain ⟨b,off,arr,rfl,_⟩:=hadr (by omega)
      refine ⟨b,off,n,c,hρ,?_⟩;rw [if_neg (by omega)];simp [uI]⟩
theorem z0V {s:Operand} {off m:Nat} {news:List DV} {h:Nat} (hn:d < E.n) (hT:SlTy P t e size bytes z) (hs':S.ev s= .ws id (off*size) h true) (hb:S.blk id= .win e size k cells) (hl:cells.length=n*size) (hfit:off+h≤n)
    (hx:S.ev x= .d (.sl size news)) (hl2:news.length=m*size) (hm:0 < m) (h63:h+m≤maxLen) (hbytes:(h+m)*bytes≤140737488355328) (hnm:E.nm d=none):
    jD P r E ⟨some d,.call {callee:= .builtin .append,args:= #[s,x],argTypes:= #[t,t]},ty,pos,af,g⟩ S (((S.kill d).setBlk d (.row e size false (((cells.drop (off*size)).take (h*size))++news))).put d (.row d)):=
  uW (by simp) fun A w I ρ C hs=>by
    obtain ⟨i,hi,hz,rfl,rfl⟩:=hT.info;have h1:=hs.ev s;rw [hs'] at h1;obtain ⟨B,c,hv,_,htt,hadr⟩:=h1;have hcn:=htt rfl;subst hcn;have h2:=hs.ev x;rw [hx] at h2;obtain ⟨B2,m',c2,ys,hvy,_,hml',hpy,h1y,hcy⟩:=Rep.sl_inv h2;obtain rfl:=zHL hml' hl2 hT.pos;obtain ⟨b2,o2,rfl,hcc2⟩:=hcy (by omega);have hbk:=hs.blks id;rw [hb] at hbk;obtain ⟨hp,A',c3,xs,hρ,hcap,hr,h1',hA⟩:=zJB hbk hl;have hm1:off*i.size+c*i.size≤n*i.size:=by rw [←Nat.add_mul];exact Nat.mul_le_mul_right _ hfit
    have hxl:xs.length=n*i.size:=by rw [hr.1,hl]
    let olds:=(xs.drop (off*i.size)).take (c*i.size)
    have hol:olds.length=c*i.size:=by simp only [olds,List.length_take,List.length_drop,hxl];omega
    have hpo:Reps w I olds ((cells.drop (off*i.size)).take (c*i.size)):=(hr.drop _).take _;have h63':((c+m':Nat):Int)≤9223372036854775807:=by simp only [maxLen] at h63;omega
    have hrun:∃old,(Builtin.append_ #[t,t] ty #[.slice B c c,.slice (some ⟨b2,o2,none⟩) m' c2]).run P w= .ok (.slice (some ⟨w.heap.size,0,none⟩) (c+m') (grownCap w (c+m') old e))
        (w.drew.alloc (.cells ((olds++ys).toArray++Builtin.zeroCells z.cells (grownCap w (c+m') old e - (c+m'))) e)):=by
      have hsrc:∀(j:Nat) u,ys[j]? =some u→w.cell? ((⟨b2,o2,none⟩:Addr).add j)=some u:=fun j u hu=>by rw [uI];exact (hcc2 j u hu).1
      have hyl:ys.length=m'*i.size:=by rw [hpy.1,hl2]
      by_cases h0:c=0
      · subst h0
        have ho:olds= []:=List.eq_nil_of_length_eq_zero (by rw [hol];omega)
        rw [ho];cases B with
        | none=>
          have:=run_append_nil (P:=P) w t ty e i z hT.und hi hz ⟨b2,o2,none⟩ m' c2 ys hyl hsrc (by omega) (by omega) (by simp only [Nat.zero_add] at hbytes;omega)
          exact ⟨0,by simpa using this⟩
        | some a=>
          have:=run_append_grow (P:=P) w t ty e i z hT.und hi hz a 0 0 [] (by simp) (fun j u hu=>by simp at hu) ⟨b2,o2,none⟩ m' c2 ys hyl hsrc (by omega) (by omega) (growslice_fits (by omega) hbytes);exact ⟨0,by simpa using this⟩
      · obtain ⟨b,o,n0,c0,hρ',rfl⟩:=hadr (by omega)
        rw [hρ] at hρ';cases hρ';obtain ⟨b',off',arr,hA',hM,hh,hf,hcc,hI⟩:=hA (by omega);cases hA';have:=run_append_grow (P:=P) w t ty e i z hT.und hi hz ⟨b,o+off*i.size,none⟩ c c olds hol (fun j u hu=>by
          rw [uI,cell_of_row w b _ arr e (0,0) hh];simp only [olds,List.getElem?_take,List.getElem?_drop] at hu;split at hu
          · rw [Nat.add_assoc];exact hcc _ u hu
          · cases hu) ⟨b2,o2,none⟩ m' c2 ys hyl hsrc (by omega) (by omega) (growslice_fits (by omega) hbytes)
        exact ⟨c,by simpa using this⟩
    obtain ⟨old,hrun⟩:=hrun;have hge:=grownCap_ge w (c+m') old e;have hcm:grownCap w (c+m') old e≤maxLen:=grownCap_le_maxLen w (c+m') old e h63;have hI0:∀b j,I b j→b < w.heap.size:=fun b j h=>(hs.old b j h).1;have hdr:Below w.heap.size w w.drew:=⟨rfl,rfl,rfl,Nat.le_refl _,fun _ _=>rfl⟩;have hs2:=hs.grow hdr;have hyl:ys.length=m'*i.size:=by rw [hpy.1,hl2]
    have hnew:=hs2.newRow (id:=d) (e:=e) (size:=i.size) (n:=c+m') (c:=grownCap w (c+m') old e) (xs:=olds++ys) (rest:=(Builtin.zeroCells z.cells (grownCap w (c+m') old e - (c+m'))).toList) (cells:=((cells.drop (off*i.size)).take (c*i.size))++news)
      hT.pos (by rw [List.length_append,←hpo.1,hol,hl2,Nat.add_mul]) hge hcm (by rw [Array.length_toList,size_zeroCells,hT.zs]) (by
        have hsame:Same I w w.drew:=fun _ _ _=>KeepB.of rfl;exact Pw.append (Reps.mono hpo hsame fun _ _ h=>h) (hpy.mono hsame fun _ _ h=>h)) (by
        intro u hu;rcases List.mem_append.1 hu with h | h
        · exact h1' u (List.mem_of_mem_drop (List.mem_of_mem_take h))
        · exact h1y u h) hnm
    refine ⟨_,_,?_,I,_,C,hnew.put hn (show Holds _ _ _ (.slice (some ⟨w.heap.size,0,none⟩) (c+m') (grownCap w (c+m') old e)) (AV.row d) from by simp [Holds,upd])⟩;simp only [execOp,resolve,invoke,builtin,Sem.run_bind,Sem.run_pure,Result.andThen_ok,List.map_toArray,List.map_cons,List.map_nil,hv,hvy,hrun];congr 2;congr 1;simp
end win
inductive View (S:AState):AV→DV→Prop
 | d (x:DV):View S (.d x) x
 | win {id e size k:Nat} {cells:List DV} (h:S.blk id= .win e size k cells):View S (.row id) (.sl size cells)
 | ws {id e size k off n N:Nat} {tt:Bool} {cells:List DV} (h:S.blk id= .win e size k cells) (hl:cells.length=N*size) (hf:off+n≤N):View S (.ws id (off*size) n tt) (.sl size ((cells.drop (off*size)).take (n*size)))
def ViewL (S:AState):List AV→List DV→Prop
 | [],ds=>ds= []
 | x::xs,ds=> ∃y ys,ds=y::ys∧View S x y∧ViewL S xs ys
theorem View.rep {a:Act} {w:World} {I:Im} {ρ:Nat→Value} {C:Nat→Prop} (hs:SatAt E S a w I ρ C) {v:Value} {x:AV} {y:DV} (h:View S x y) (hv:Holds w I ρ v x):Rep w (fun b _=>b < w.heap.size) v y:=by
 have hsub:∀b j,I b j→(fun b (_:Nat)=>b < w.heap.size) b j:=fun b j hi=>(hs.old b j hi).1;cases h with
 | d=>exact Rep.mono hv (kU I w) hsub
 | win hb=>
  rename_i id e size k cells;have hk:=hs.blks id;rw [hb] at hk;obtain ⟨A,n,c,xs,hρ,hnc,hp,hl,hr,h1,hA⟩:=hk;have hv':v= .slice A n c:=Eq.trans hv hρ;subst hv';by_cases h0:n=0;subst h0;have:cells= []:=List.eq_nil_of_length_eq_zero (by omega);subst this;exact .nil _ _ _;rcases hA with ⟨_,h⟩ | ⟨b,off,arr,rfl,hM,hh,hf,hc,hI⟩
  omega;have hlt:b < w.heap.size:=(Array.getElem?_eq_some_iff.1 hh).1;have hr':=hr.mono (kU I w) hsub;refine .sl b off n c size xs cells (by omega) hnc hl hr.1 (fun j x hj=>⟨?_,hlt⟩) h1 hr'.2;rw [cell_of_row w b (off+j) arr e (0,0) hh];exact hc j x hj
 | ws hb hl hf=>
  rename_i id e size k off n N tt cells;have hk:=hs.blks id;rw [hb] at hk;obtain ⟨hp,A',c3,xs,hρ,hcap,hr,h1',hA⟩:=zJB hk hl;obtain ⟨B,c,hv',hnc,_,hadr⟩:=hv;subst hv';have hm1:off*size+n*size≤N*size:=by rw [←Nat.add_mul];exact Nat.mul_le_mul_right _ hf
  by_cases h0:n=0;subst h0;simp only [Nat.zero_mul,List.take_zero];exact .nil _ _ _;obtain ⟨b,o,n0,c0,hρ',rfl⟩:=hadr (by omega);rw [hρ] at hρ';cases hρ';obtain ⟨b',off',arr,hA',hM,hh,hf',hcc,hI⟩:=hA (by omega);cases hA';have hlt:b < w.heap.size:=(Array.getElem?_eq_some_iff.1 hh).1;have hr':=Reps.mono ((hr.drop (off*size)).take (n*size)) (kU I w) hsub;refine .sl b (o+off*size) n c size ((xs.drop (off*size)).take (n*size)) _ (by omega) hnc (by rw [List.length_take,List.length_drop,hl];omega) hr'.1 (fun j x hj=>⟨?_,hlt⟩) (fun u hu=>h1' u (List.mem_of_mem_drop (List.mem_of_mem_take hu))) hr'.2
  rw [cell_of_row w b _ arr e (0,0) hh];simp only [List.getElem?_take,List.getElem?_drop] at hj;split at hj;rw [Nat.add_assoc];exact hcc _ x hj;cases hj
theorem ViewL.reps {a:Act} {w:World} {I:Im} {ρ:Nat→Value} {C:Nat→Prop} (hs:SatAt E S a w I ρ C):∀{vs:List Value} {xs:List AV} {ys:List DV},ViewL S xs ys→Pw (Holds w I ρ) vs xs→Reps w (fun b _=>b < w.heap.size) vs ys
 | [],[],ys,h,_=>by cases h;exact Pw.nil
 | [],x::xs,ys,_,hp=>by have:=hp.1;simp at this
 | v::vs,[],ys,_,hp=>by have:=hp.1;simp at this
 | v::vs,x::xs,ys,⟨y,zs,e,h1,h2⟩,hp=>by
  subst e;obtain ⟨q1,q2⟩:=zHW hp;exact Pw.cons (h1.rep hs q1) (ViewL.reps hs h2 q2)
theorem yE1 {f:FuncId} {xs:List Operand} {ats:Array TypeId} {ds rs:List DV} (hn:d < E.n) (hv:ViewL S (xs.map S.ev) ds) (hc:zF P f ds rs) (hG:E.gdt=u0 P:=by rfl):
  jD P r E ⟨some d,.call {callee:= .value (.func f),args:=xs.toArray,argTypes:=ats},ty,pos,af,g⟩ S (S.put d (yHU rs)):=by
 rintro A w K Q ⟨I,ρ,C,hs⟩ hk
 obtain ⟨⟨fn,hf,hname,hbody⟩,hcall⟩:=hc;have h3:=hv.reps hs (zBH hs xs);have hcl:=hcall w (fun b _=>b < w.heap.size) (xs.map A.eval) (fun b j hi=>hi) ((hG▸hs.gl).sub fun b j hi=>(hs.old b j hi).1) h3;refine ⟨fun f _=>trivial,?_⟩;rw [Oper.semAt_eq _ _ _ (by simp)];have hrun:(execOp A.eval ⟨some d,.call {callee:= .value (.func f),args:=xs.toArray,argTypes:=ats},ty,pos,af,g⟩).run P w= .ok (.enter f (xs.map A.eval).toArray) w:=by
  simp only [execOp,resolve,Act.eval,Deferred.ofValue];have hn1:¬fn.name= "runtime.NumGoroutine" :=by simpa using hname
  have hn2:¬fn.body=none:=by intro e;simp [e] at hbody
  simp [invoke,callFunc,hf,hn1,hn2,List.map_toArray]
 rw [hrun];refine ⟨by simp [fen,Fence.wide],?_⟩;show CallsIn Fence.wide 0 P f _ w _;refine callsIn_wide.2 (hcl.mono ?_)
 rintro e w' ⟨v,I',rfl,hb,hsub,hnew,hret⟩
 exact hk _ _ ⟨I,ρ,C,SatAt.put (hs.grow hb) hn (z0S hret)⟩
theorem zNS {t e:TypeId} (hu:P.underlying t=some (.slice e)) (B:Option Addr) (n c:Nat) (w:World):(Op.equal t (.slice B n c) (.slice none 0 0)).run P w= .ok B.isNone w:=by show (Op.equalIn (9999+1) t (.slice B n c) (.slice none 0 0)).run P w=_;rw [Op.equalIn];cases B <;> simp [run_underlying hu]
theorem yE2 {t e:TypeId} {x:Operand} {size:Nat} {cells:List DV} {tz:TypeId} (hn:d < E.n) (hu:P.underlying t=some (.slice e)) (hx:S.ev x= .d (.sl size cells)) (hne:cells≠[]):
    AOp P r E S ⟨some d,.binOp .eql t x (.const (.slice none 0 0)) tz,ty,pos,af,g⟩ d (.d (.v (.bool false))):=
  ⟨rfl,hn,fun S' ha=>jE rfl hn (by simp) fun A w I ρ C hs=>by
    have h1:=hs.ev x;rw [(ha.ev (x:=x) (by simp [Op.operands])).trans hx] at h1;obtain ⟨B,n,c,xs,hv,_,hl,_,_,hadr⟩:=Rep.sl_inv h1;have hpos:0 < n:=by
      rcases Nat.eq_zero_or_pos n with h | h
      · subst h;exact absurd (List.eq_nil_of_length_eq_zero (by omega)) hne
      · exact h
    obtain ⟨b,off,rfl,_⟩:=hadr hpos;have hc:A.eval (.const (.slice none 0 0))= .slice none 0 0:=rfl;have hb:binOp .eql t (.slice (some ⟨b,off,none⟩) n c) (.slice none 0 0)=(do pure (.bool (←Op.equal t (.slice (some ⟨b,off,none⟩) n c) (.slice none 0 0)))):=rfl;have hg:eqGuard .eql t x (.const (.slice none 0 0)) (.slice (some ⟨b,off,none⟩) n c) (.slice none 0 0)=pure ():=rfl;simp only [execOp,hv,hc,hb,hg,Sem.run_bind,Sem.run_pure,Result.andThen_ok,zNS hu];rfl⟩
theorem z77 {t e:TypeId} {x:Operand} {B:Option Addr} {n c:Nat} {tz:TypeId} (hn:d < E.n) (hu:P.underlying t=some (.slice e)) (hx:S.ev x= .d (.v (.slice B n c))):
  AOp P r E S ⟨some d,.binOp .eql t x (.const (.slice none 0 0)) tz,ty,pos,af,g⟩ d (.d (.v (.bool B.isNone))):=
 ⟨rfl,hn,fun S' ha=>jE rfl hn (by simp) fun A w I ρ C hs=>by
  have hv:=hs.val ((ha.ev (x:=x) (by simp [Op.operands])).trans hx);have hc:A.eval (.const (.slice none 0 0))= .slice none 0 0:=rfl;have hb:binOp .eql t (.slice B n c) (.slice none 0 0)=(do pure (.bool (←Op.equal t (.slice B n c) (.slice none 0 0)))):=rfl;have hg:eqGuard .eql t x (.const (.slice none 0 0)) (.slice B n c) (.slice none 0 0)=pure ():=rfl;simp only [execOp,hv,hc,hb,hg,Sem.run_bind,Sem.run_pure,Result.andThen_ok,zNS hu]⟩
theorem zXV {t:Nat} {B:Option Addr} {c:Nat} (size:Nat) (hn:t < E.n) (ht:S.get t= .d (.v (.slice B 0 c))):zFB E S (S.put t (.d (.sl size []))):=by
 rintro a w ⟨I,ρ,C,h⟩
 refine ⟨I,ρ,C,⟨fun u=>?_,h.blks,h.dist,by rw [zBW _ _ hn];exact h.frame,h.sub,h.old,h.size,h.defers,h.cI,h.cB,h.nm⟩⟩
 rw [zAR];by_cases e:t=u;subst e;simp only [if_true];have:=h.tmps t;rw [ht] at this;generalize a.tmps.getD t undef=v at this ⊢;have h':Rep w I v (.v (.slice B 0 c)):=this;cases h';exact .nil _ _ _;simp only [e,if_false];exact h.tmps u
end
theorem yA4 {P:Program} {f:FuncId} {size:Nat} {T T':List (Nat×Blk)} {keep:List Nat} {rets:List Cap} (hp:0 < size) (h:∀B c,GC P f [.d (.v (.slice B 0 c))] T keep rets T'):GC P f [.d (.sl size [])] T keep rets T':=by
 refine ⟨(h none 0).1,fun w I ρ vs hI hG hf hv=>?_⟩
 match vs,hv.1 with
 | [v],_=>
  have hr:Rep w I v (.sl size []):=hv.2 0 v (.d (.sl size [])) rfl rfl;cases hr with
  | nil A c=>exact (h A c).2 w I ρ _ hI hG hf (Pw.cons (show HoldsC w I ρ _ (.d (.v _)) from .v _) Pw.nil)
  | sl b off n c size xs cells hn hcap hl=>exact absurd hl (by have:=Nat.mul_pos hn hp;simp only [List.length_nil];omega)
end Go.AV
namespace Go.AV
open Go.RowKit Go.M
section
variable {P:Program} {r:Option Nat} {E:Env} {S:AState} {d:Nat} {ty:TypeId} {pos:String} {af:Array Edge} {g:Option (Nat×Bool)}
section win
variable {t e size bytes k n:Nat} {z:Value} {x:Operand} {id:Nat} {cells:List DV}
theorem z78 {tm h:Nat} {tt:Bool} (k':Nat) (hn:tm < E.n) (ht:S.get tm= .ws id 0 h tt) (hb:S.blk id= .win e size k cells) (hl:cells.length=n*size) (hh:h≤n) (hk1:k≤k') (hk2:h≤k'):
    zFB E S ((S.setBlk id (.win e size k' cells)).put tm (.d (.sl size (cells.take (h*size))))):=by
  rintro a w ⟨I,ρ,C,hs⟩
  have hkk:=hs.blks id;rw [hb] at hkk;obtain ⟨hp,A,c,xs,hρ,hnc,hr,h1,hA⟩:=zJB hkk hl;have hne:S.blk id≠ .none:=by rw [hb];simp
  let I':Im:=fun b j=>I b j∨(∃off,A=some ⟨b,off,none⟩∧off≤j∧j < off+h*size)
  have hsub:∀b j,I b j→I' b j:=fun b j hi=> .inl hi;have key:∀i,((S.setBlk id (.win e size k' cells)).put tm (.d (.sl size (cells.take (h*size))))).blk i≠ .none→S.blk i≠ .none:=by
    intro i hi;rw [z5H,yA] at hi;by_cases e':id=i
    · subst e';exact hne
    · simp only [e',if_false] at hi;exact hi
  have hbo:∀b off,A=some ⟨b,off,none⟩→blockOf (ρ id)=some b:=fun b off e=>by rw [hρ,e];rfl
  have hhn:h*size≤n*size:=Nat.mul_le_mul_right _ hh;have hxl:xs.length=n*size:=by rw [hr.1,hl]
  refine ⟨I',ρ,C,⟨fun u=>?_,fun i=>?_,fun i i' b hn' hi hi'=>hs.dist i i' b hn' (key i hi) (key i' hi'),by rw [zBW _ _ hn];exact hs.frame,fun b j hi=>hsub b j (hs.sub b j hi),fun b j hi=>?_,hs.size,hs.defers,fun b j hi=>?_,fun i b hi=>hs.cB i b (key i hi),fun i v hv hi=>hs.nm i v hv (key i hi)⟩⟩
  · rw [zAR]
    by_cases e':tm=u
    · subst e'
      simp only [if_true];have hv:=hs.tmps tm;rw [ht] at hv;obtain ⟨B,c',hv',hcc',_,hadr⟩:=hv;rw [hv'];by_cases h0:h=0
      · subst h0
        simp only [Nat.zero_mul,List.take_zero];exact .nil _ _ _
      · obtain ⟨b,o,n0,c0,hρ',rfl⟩:=hadr (by omega)
        rw [hρ] at hρ';cases hρ';obtain ⟨b',off',arr,hA',hM,hh',hf',hcc,hI⟩:=hA (by omega);cases hA';have hr':=Reps.mono (hr.take (h*size)) (kU I w) hsub;refine .sl b (o+0) h c' size (xs.take (h*size)) _ (by omega) hcc' (by rw [List.length_take,hl];omega) hr'.1 (fun j x hj=>?_) (fun u hu=>h1 u (List.mem_of_mem_take hu)) hr'.2
        have hjl:=(List.getElem?_eq_some_iff.1 hj).1;rw [List.length_take] at hjl;rw [List.getElem?_take,if_pos (by omega)] at hj;rw [Nat.add_zero];exact ⟨by rw [cell_of_row w b (o+j) arr e (0,0) hh'];exact hcc j x hj,.inr ⟨o,rfl,by omega,by omega⟩⟩
    · simp only [e',if_false]
      exact (hs.tmps u).mono (kU I w) hsub
  · show BlkOk w I' ρ E.mine i ((S.setBlk id (.win e size k' cells)).blk i)
    rw [yA];by_cases e':id=i
    · subst e'
      simp only [if_true];refine ⟨A,n,c,xs,hρ,hnc,hp,hl,hr.mono (kU I w) hsub,h1,?_⟩;by_cases h0:n=0
      · obtain ⟨A2,n2,c2,xs2,hρ2,_,_,hl2,_,_,hA2⟩:=hkk
        rw [hρ] at hρ2;cases hρ2;rcases hA2 with hA2 | ⟨b,off,arr,hA2,hM,hh',hf',hcc,hI⟩
        · exact .inl hA2
        · refine .inr ⟨b,off,arr,hA2,hM,hh',hf',fun j x hj=>?_,fun j q1 q2 _=>?_⟩
          · have:=(List.getElem?_eq_some_iff.1 hj).1;rw [hxl,h0] at this;omega
          · rw [h0] at q2;omega
      · obtain ⟨b,off,arr,hA',hM,hh',hf',hcc,hI⟩:=hA (by omega)
        refine .inr ⟨b,off,arr,hA',hM,hh',hf',hcc,fun j q1 q2 hi=>?_⟩;have m1:k*size≤k'*size:=Nat.mul_le_mul_right _ hk1;have m2:h*size≤k'*size:=Nat.mul_le_mul_right _ hk2;rcases hi with hi | ⟨off2,hA2,q3,q4⟩
        · have:=hI j q1 q2 hi;omega
        · rw [hA'] at hA2;cases hA2;omega
    · simp only [e',if_false]
      refine (hs.blks i).widenI hsub fun b j hx hbi hi=>?_;rcases hi with hi | ⟨off,hA',_⟩
      · exact hi
      · exact absurd hbi (hs.dist id i b e' hne hx (hbo b off hA'))
  · rcases hi with hi | ⟨off,hA',_⟩
    · exact hs.old b j hi
    · have:=hs.blt id b hne (hbo b off hA');exact ⟨this.2,.inr this.1⟩
  · rcases hi with hi | ⟨off,hA',_⟩
    · exact hs.cI b j hi
    · exact hs.cB id b hne (hbo b off hA')
theorem z3S (k':Nat) (hb:S.blk id= .win e size k cells) (hk:k≤k'):zFB E S (S.setBlk id (.win e size k' cells)):=by
 rintro a w ⟨I,ρ,C,h⟩
 have hk0:=h.blks id;rw [hb] at hk0;have hne:S.blk id≠ .none:=by rw [hb];simp
 have key:∀i,(S.setBlk id (.win e size k' cells)).blk i≠ .none→S.blk i≠ .none:=by
  intro i hi;rw [yA] at hi;by_cases e':id=i;subst e';exact hne;simpa [e'] using hi
 refine ⟨I,ρ,C,⟨h.tmps,fun i=>?_,fun i i' b hn hi hi'=>h.dist i i' b hn (key i hi) (key i' hi'),h.frame,h.sub,h.old,h.size,h.defers,h.cI,fun i b hi=>h.cB i b (key i hi),fun i v hv hi=>h.nm i v hv (key i hi)⟩⟩;rw [yA];by_cases e':id=i;subst e';simp only [if_true];obtain ⟨A,n,c,xs,hρ,hnc,hp,hl,hr,h1,hA⟩:=hk0;refine ⟨A,n,c,xs,hρ,hnc,hp,hl,hr,h1,?_⟩;rcases hA with hA | ⟨b,off,arr,hA,hM,hh,hf,hc,hI⟩
 exact .inl hA;exact .inr ⟨b,off,arr,hA,hM,hh,hf,hc,fun j q1 q2 hi=>Nat.lt_of_lt_of_le (hI j q1 q2 hi) (Nat.add_le_add_left (Nat.mul_le_mul_right _ hk) _)⟩;simp only [e',if_false];exact h.blks i
theorem yA5 {xl:Operand} {kk:IntKind} {il:Int} {l:Nat} (hn:d < E.n) (hT:SlTy P t e size bytes z) (hx:S.ev x= .row id) (hb:S.blk id= .win e size k cells) (hl:cells.length=n*size) (hlo:S.ev xl= .d (.v (.int kk il))) (el:il=(l:Int)) (hkl:k≤l) (hln:l≤n) (hnm:E.nm id=none):
    jD P r E ⟨some d,.slice t x (some xl) none none,ty,pos,af,g⟩ S (((S.kill id).setBlk id (.win e size 0 (cells.drop (l*size)))).put d (.row id)):=
  uW (by simp) fun A w I ρ C hs=>by
    subst el;have h1:=hs.ev x;rw [hx] at h1;have hv:A.eval x= ρ id:=h1;have hvl:=hs.val hlo;have hk:=hs.blks id;rw [hb] at hk;obtain ⟨A',n',c,xs,hρ,hnc,hp,hl',hr,h1',hA⟩:=hk;obtain rfl:=zHL hl' hl hp;have hmul:n'*size=(n' - l)*size+l*size:=by rw [←Nat.add_mul];congr 1;omega
    have hrun:(Instr.sliceAt t (.slice A' n' c) (some (.int kk l)) none none).run P w= .ok (.slice (if c=l then A' else A'.map (·.add (l*size))) (n' - l) (c - l)) w:=
      zMX w hT.und (hT.size w) A' n' c l n' _ _ (.inr ⟨kk,rfl⟩) (.inl ⟨rfl,rfl⟩) hln (Nat.le_refl _) hnc
    have hbk:∀b,blockOf (.slice (if c=l then A' else A'.map (·.add (l*size))) (n' - l) (c - l))=some b→blockOf (ρ id)=some b:=by
      intro b hb';rw [hρ];cases A' with
      | none=>split at hb' <;> simp [blockOf] at hb'
      | some ad=>
        split at hb'
        · exact hb'
        · have e3:(ad.add (l*size)).block=ad.block:=by unfold Addr.add;split <;> rfl
          simpa [blockOf,e3] using hb'
    have hup:=hs.update (World.grownBy.refl w none) (id:=id) (u:= .slice (if c=l then A' else A'.map (·.add (l*size))) (n' - l) (c - l)) (x:= .win e size 0 (cells.drop (l*size))) (by simp) (kU I w)
      (fun b hb'=> .inr ⟨by rw [hb];simp,hbk b hb'⟩) (by
        refine ⟨(if c=l then A' else A'.map (·.add (l*size))),n' - l,c - l,xs.drop (l*size),by simp [upd],by omega,hp,by rw [List.length_drop,hl'];omega,hr.drop _,fun u hu=>h1' u (List.mem_of_mem_drop hu),?_⟩
        rcases hA with ⟨rfl,h0⟩ | ⟨b,off,arr,rfl,hM,hh,hf,hc,hI⟩
        · left;constructor
          · split <;> rfl
          · omega
        · right
          by_cases hcl:c=l
          · have hn0:n' - l=0:=by omega
            refine ⟨b,off,arr,by rw [if_pos hcl],hM,hh,by rw [hn0];omega,fun j u hj=>?_,fun j q1 q2 _=>by rw [hn0] at q2;omega⟩
            have:=(List.getElem?_eq_some_iff.1 hj).1;rw [List.length_drop,hr.1,hl',hmul,hn0] at this;omega
          · refine ⟨b,off+l*size,arr,by rw [if_neg hcl];simp [uI],hM,hh,by omega,fun j u hj=>?_,fun j q1 q2 hi=>?_⟩
            · rw [List.getElem?_drop] at hj
              rw [Nat.add_assoc];exact hc _ u hj
            · have:=hI j (by omega) (by omega) hi
              have m1:k*size≤l*size:=Nat.mul_le_mul_right _ hkl;omega) (.inl rfl) hnm
    refine ⟨_,w,?_,I,_,C,hup.put hn (show Holds _ _ _ _ (AV.row id) from by simp [Holds,upd];rfl)⟩
    simp only [execOp,hv,hρ,Sem.run_bind,Option.map_some,Option.map_none,hvl,hrun];rfl
end win
section lists
variable {α:Type} {en:En α} {l l':List α} {t e bytes k:Nat} {z:Value} {x:Operand} {id:Nat}
theorem yJB (hn:d < E.n) (hT:SlTy P t e en.size bytes z) (hx:S.ev x= .row id) (hb:S.blk id= .win e en.size k (en.all l)):
  AOp P r E S ⟨some d,.call {callee:= .builtin .len,args:= #[x],argTypes:= #[t]},ty,pos,af,g⟩ d (.d (.v (.int .i64 l.length))):=z73 hn hT hx hb (jK en l)
theorem zGW {ix:Operand} {kk:IntKind} {i:Int} {v: α} (hn:d < E.n) (hT:SlTy P t e en.size bytes z) (hx:S.ev x= .row id) (hb:S.blk id= .win e en.size k (en.all l)) (hi:S.ev ix= .d (.v (.int kk i))) (hv:z7 l i=some v):
  AOp P r E S ⟨some d,.indexAddr t x ix,ty,pos,af,g⟩ d (.wp id (i.toNat*en.size)):=
 z0U hn hT hx hb hi (xW hv).2.1 (jK en l) (xW hv).2.2.1
theorem zK0 {tt:TypeId} {i:Int} {v: α} {y:DV} (hn:d < E.n) (hT:OneTy P tt) (hx:S.ev x= .wp id (i.toNat*en.size)) (hb:S.blk id= .win e en.size k (en.all l)) (hv:z7 l i=some v) (hy:(en.cells v)[0]? =some y):
  AOp P r E S ⟨some d,.load tt x,ty,pos,af,g⟩ d (.d y):=
 z75 hn hT hx hb (by have:=zMY en (xW hv).2.2.2 0 (by rw [←en.len v];exact (List.getElem?_eq_some_iff.1 hy).1);rw [Nat.add_zero] at this;rw [this];exact hy)
theorem zWK {hi:Operand} {k2:IntKind} {b:Int} (hn:d < E.n) (hT:SlTy P t e en.size bytes z) (hx:S.ev x= .row id) (hb:S.blk id= .win e en.size k (en.all l)) (hhi:S.ev hi= .d (.v (.int k2 b))) (h:slc l 0 b=some l'):
  AOp P r E S ⟨some d,.slice t x none (some hi) none,ty,pos,af,g⟩ d (.ws id 0 b.toNat false):=by
 obtain ⟨rfl,h1,h2,h3⟩:=zC2 h;have:=zQ6 (P:=P) (r:=r) (ty:=ty) (pos:=pos) (af:=af) (g:=g) hn hT hx hb (jK en l) (lo:=none) (hi:=some hi) (l:=0) (h:=b.toNat) ⟨rfl,⟨k2,b,hhi,by omega⟩,by omega,h3⟩;simpa only [Nat.zero_mul,Nat.sub_zero] using this
theorem z0W {lo hi:Operand} {k1 k2:IntKind} {a b:Int} (hn:d < E.n) (hT:SlTy P t e en.size bytes z) (hx:S.ev x= .row id) (hb:S.blk id= .win e en.size k (en.all l)) (hlo:S.ev lo= .d (.v (.int k1 a))) (hhi:S.ev hi= .d (.v (.int k2 b))) (h:slc l a b=some l'):
  AOp P r E S ⟨some d,.slice t x (some lo) (some hi) none,ty,pos,af,g⟩ d (.ws id (a.toNat*en.size) (b.toNat - a.toNat) false):=by
 obtain ⟨rfl,h1,h2,h3⟩:=zC2 h;exact zQ6 hn hT hx hb (jK en l) (lo:=some lo) (hi:=some hi) (l:=a.toNat) (h:=b.toNat) ⟨⟨k1,a,hlo,by omega⟩,⟨k2,b,hhi,by omega⟩,by omega,h3⟩
theorem z79 {hi mx:Operand} {k2 k3:IntKind} {b:Int} (hn:d < E.n) (hT:SlTy P t e en.size bytes z) (hx:S.ev x= .row id) (hb:S.blk id= .win e en.size k (en.all l)) (hhi:S.ev hi= .d (.v (.int k2 b))) (hmx:S.ev mx= .d (.v (.int k3 b))) (h:slc l 0 b=some l'):
  AOp P r E S ⟨some d,.slice t x none (some hi) (some mx),ty,pos,af,g⟩ d (.ws id 0 b.toNat true):=by
 obtain ⟨rfl,h1,h2,h3⟩:=zC2 h;exact zXU hn hT hx hb (jK en l) hhi hmx (by omega) h3
theorem View.front {b:Int} {tt:Bool} (hb:S.blk id= .win e en.size k (en.all l)) (h:slc l 0 b=some l'):View S (.ws id 0 b.toNat tt) (zP en l'):=by
 obtain ⟨rfl,h1,h2,h3⟩:=zC2 h;have:=View.ws (off:=0) (n:=b.toNat) (tt:=tt) hb (jK en l) (by omega);simp only [Nat.zero_mul,List.drop_zero] at this;have e1:en.all ((l.take b.toNat).drop (0:Int).toNat)=(en.all l).take (b.toNat*en.size):=by simp [zDP]
 unfold zP;rw [e1];exact this
theorem z0X {tt:TypeId} {y:Operand} {i:Int} {v: α} {u:DV} {w0: α} (hT:OneTy P tt) (hx:S.ev x= .wp id (i.toNat*en.size)) (hb:S.blk id= .win e en.size 0 (en.all l)) (hs1:en.size=1) (hi:z7 l i=some w0) (hv:u7 l i v=some l') (hy:S.ev y= .d u) (hu:en.cells v= [u]) (h1:(AV.d u).one=true) (hE:E.wrB=true):
  jD P r E ⟨none,.store tt x y,ty,pos,af,g⟩ S (S.setBlk id (.win e en.size 0 (en.all l'))):=by
 obtain ⟨rfl,h2,h3⟩:=zM2 hv;have hl:=jK en l;rw [hs1,Nat.mul_one] at hl;have hx':S.ev x= .wp id i.toNat:=by rw [hx,hs1,Nat.mul_one]
 have:=z3R (P:=P) (r:=r) (ty:=ty) (pos:=pos) (af:=af) (g:=g) hT hx' hb (by omega) (by omega) hy h1 hE;have e1:en.all (l.set i.toNat v)=(en.all l).set i.toNat u:=by
  unfold En.all;clear hi hx hx' hl hb hv this h2 h3
  induction l generalizing i with
  | nil=>rfl
  | cons a l ih=>
   have ha:(en.cells a).length=1:=by rw [en.len,hs1]
   match hca:en.cells a,ha with
   | [q],_=>
    cases hi:i.toNat with
    | zero=>simp [hca,hu]
    | succ j=>
     have:=ih (i:=(j:Int));simp only [Int.toNat_natCast] at this;simp only [List.set_cons_succ,List.flatMap_cons,hca,this,List.singleton_append,List.set_cons_succ]
 rw [e1];exact this
def cpM (l:List α) (a1 b1 a2 b2:Int):List α:=l.take a1.toNat++((l.drop a2.toNat).take (b2.toNat - a2.toNat)).take (min (b2.toNat - a2.toNat) (b1.toNat - a1.toNat))++l.drop (a1.toNat+(((l.drop a2.toNat).take (b2.toNat - a2.toNat)).take (min (b2.toNat - a2.toNat) (b1.toNat - a1.toNat))).length)
theorem yE3 {y:Operand} {a1 b1 a2 b2:Int} {l1 l2:List α} {t1 t2:Bool} (hn:d < E.n) (hT:SlTy P t e en.size bytes z) (hx:S.ev x= .ws id (a1.toNat*en.size) (b1.toNat - a1.toNat) t1) (hb:S.blk id= .win e en.size 0 (en.all l)) (hy:S.ev y= .ws id (a2.toNat*en.size) (b2.toNat - a2.toNat) t2)
    (h1:slc l a1 b1=some l1) (h2:slc l a2 b2=some l2) (hE:E.wrB=true):
    jD P r E ⟨some d,.call {callee:= .builtin .copy,args:= #[x,y],argTypes:= #[t,t]},ty,pos,af,g⟩ S ((S.setBlk id (.win e en.size 0 (en.all (cpM l a1 b1 a2 b2)))).put d .top):=by
  obtain ⟨rfl,p1,p2,p3⟩:=zC2 h1;obtain ⟨rfl,q1,q2,q3⟩:=zC2 h2;have:=z76 (P:=P) (r:=r) (ty:=ty) (pos:=pos) (af:=af) (g:=g) hn hT hx hb (jK en l) hy (Nat.zero_le _) (by omega) (by omega) hE;have e1:spl (en.all l) (a1.toNat*en.size) ((((en.all l).drop (a2.toNat*en.size)).take ((b2.toNat - a2.toNat)*en.size)).take (min (b2.toNat - a2.toNat) (b1.toNat - a1.toNat)*en.size))=en.all (cpM l a1 b1 a2 b2):=by
    rw [zGV,zDP,zDP];unfold spl cpM;rw [jK,zDP,←Nat.add_mul,zGV,←zKU,←zKU]
  rw [e1] at this;intro a w K Q hs hk;refine this a w K Q hs fun a' w' ⟨I,ρ,C,h⟩=>hk a' w' ⟨I,ρ,C,⟨fun u=>?_,h.blks,h.dist,by have:=h.frame;rw [zBW _ _ hn] at this ⊢;exact this,h.sub,h.old,h.size,h.defers,h.cI,h.cB,h.nm⟩⟩
  have q:=h.tmps u;rw [zAR] at q ⊢;by_cases e':d=u
  · simp only [e',if_true];trivial
  · simp only [e',if_false] at q ⊢;exact q
theorem z8A {s:Operand} {b:Int} {l1 m:List α} (hn:d < E.n) (hT:SlTy P t e en.size bytes z) (hs:S.ev s= .ws id 0 b.toNat true) (hb:S.blk id= .win e en.size k (en.all l)) (h1:slc l 0 b=some l1) (hx:S.ev x= .d (zP en m)) (hm:m.length≠0) (ha:app l1 m=some l') (hby2:bytes≤32768) (hnm:E.nm d=none):
  jD P r E ⟨some d,.call {callee:= .builtin .append,args:= #[s,x],argTypes:= #[t,t]},ty,pos,af,g⟩ S (((S.kill d).setBlk d (.row e en.size false (en.all l'))).put d (.row d)):=by
 obtain ⟨rfl,p1,p2,p3⟩:=zC2 h1;obtain ⟨rfl,hle⟩:=zOY ha;have hll:((l.take b.toNat).drop (0:Int).toNat).length=b.toNat:=by simp;omega
 rw [hll] at hle;have:=z0V (P:=P) (r:=r) (ty:=ty) (pos:=pos) (af:=af) (g:=g) (off:=0) (h:=b.toNat) hn hT (by rw [Nat.zero_mul];exact hs) hb (jK en l) (by omega) hx (jK en m) (by omega) (by unfold LIM at hle;unfold maxLen;omega) (by
  have h1:(b.toNat+m.length)*bytes≤4294967296*bytes:=Nat.mul_le_mul_right _ hle;have h2:4294967296*bytes≤4294967296*32768:=Nat.mul_le_mul_left _ hby2;omega) hnm
 have e1:en.all ((l.take b.toNat).drop (0:Int).toNat++m)=((en.all l).drop (0*en.size)).take (b.toNat*en.size)++en.all m:=by
  rw [zKU];simp [zDP]
 rw [e1];exact this
theorem z3T {tm:Nat} {b:Int} {tt:Bool} (hn:tm < E.n) (ht:S.get tm= .ws id 0 b.toNat tt) (hb:S.blk id= .win e en.size 0 (en.all l)) (h:slc l 0 b=some l'):
  zFB E S ((S.setBlk id (.win e en.size b.toNat (en.all l))).put tm (.d (zP en l'))):=by
 obtain ⟨rfl,h1,h2,h3⟩:=zC2 h;have:=z78 (E:=E) (S:=S) b.toNat hn ht hb (jK en l) h3 (Nat.zero_le _) (Nat.le_refl _);have e1:en.all ((l.take b.toNat).drop (0:Int).toNat)=(en.all l).take (b.toNat*en.size):=by simp [zDP]
 unfold zP;rw [e1];exact this
theorem yA6 {xl:Operand} {kk:IntKind} {a:Int} (hn:d < E.n) (hT:SlTy P t e en.size bytes z) (hx:S.ev x= .row id) (hb:S.blk id= .win e en.size k (en.all l)) (hlo:S.ev xl= .d (.v (.int kk a))) (h:slc l a l.length=some l') (hk:k≤a.toNat) (hnm:E.nm id=none):
  jD P r E ⟨some d,.slice t x (some xl) none none,ty,pos,af,g⟩ S (((S.kill id).setBlk id (.win e en.size 0 (en.all l'))).put d (.row id)):=by
 obtain ⟨rfl,h1,h2,h3⟩:=zC2 h;have:=yA5 (P:=P) (r:=r) (ty:=ty) (pos:=pos) (af:=af) (g:=g) (l:=a.toNat) hn hT hx hb (jK en l) hlo (by omega) hk (by omega) hnm;have e1:en.all ((l.take (l.length:Int).toNat).drop a.toNat)=(en.all l).drop (a.toNat*en.size):=by simp [zGV]
 rw [e1];exact this
end lists
end
end Go.AV
namespace Go.AV
open Go.RowKit Go.M
theorem yJC {α:Type} {en:En α} {x: α} {l:List α} (h:0 < en.size):en.all (x::l)≠[]:=by intro hc;have:=congrArg List.length hc;rw [jK,List.length_cons,List.length_nil,Nat.add_mul] at this;omega
theorem zME {P:Program} {α:Type} {w:World} {F: α→PUnit→Sem (ForInStep PUnit)}:∀(fs:List α),(∀f∈fs,(F f ()).run P w= .ok (.yield ()) w)→(forIn fs () F).run P w= .ok () w
 | [],_=>by simp
 | f::fs,h=>by
  have ih:=zME fs fun g hg=>h g (by simp [hg]);rw [List.forIn_cons];simp only [Sem.run_bind,h f (by simp),Result.andThen_ok,ih]
def zR8:TypeDesc→Bool
 | .int _ | .string | .bool=>true
 | _=>false
theorem zQ7 {P:Program} {t:TypeId} {ds:TypeDesc} (hu:P.underlying t=some ds) (hp:zR8 ds=true) (v:Value) (n:Nat) (b:Bool) (w:World):(Instr.checkKey b (n+1) t v).run P w= .ok () w:=by
 simp only [Instr.checkKey,Sem.run_bind,run_underlying hu,Result.andThen_ok];cases ds <;> first | (simp [zR8] at hp;done) | (cases v <;> rfl)
theorem z8B {P:Program} {kt e:TypeId} {n:Nat} {zs vals:List Value} {ds:TypeDesc} (hT:ArTy P kt n 1 e zs) (ho:OneTy P e) (hu:P.underlying e=some ds) (hp:zR8 ds=true) (hl:vals.length=n) (b:Bool) (w:World):(Instr.checkKey b 10000 kt (.agg vals.toArray)).run P w= .ok () w:=by
 show (Instr.checkKey b (9999+1) kt (.agg vals.toArray)).run P w=_;rw [Instr.checkKey];simp only [Sem.run_bind,run_underlying hT.und,Result.andThen_ok];rw [Std.Legacy.Range.forIn_eq_forIn_range'];have hsz:(Std.Legacy.Range.size [0:n])=n:=by simp [Std.Legacy.Range.size]
 simp only [hsz];rw [←List.range_eq_range'];refine (congrArg (fun q=>Result.andThen q _) (zME _ fun i hi=>?_)).trans (by simp);have hi':i < n:=List.mem_range.1 hi;have hpart:(part e vals.toArray i).run P w= .ok (vals[i]'(by omega)) w:=zIF ho.agg (by simp [hl,hi']) w;simp only [Sem.run_bind,hT.size w,Result.andThen_ok,Nat.mul_one,hpart];have:=zQ7 hu hp (vals[i]'(by omega)) 9998 b w;simp only [show (9998+1)=9999 from rfl] at this;simp [this]
theorem z3U {P:Program} {kt:TypeId} {fields:Array Field} {vals:List Value} (hu:P.underlying kt=some (.struct fields))
    (hf:∀f∈fields.toList,OneTy P f.type∧(∃ds,P.underlying f.type=some ds∧zR8 ds=true)∧f.offset < vals.length) (b:Bool) (w:World):(Instr.checkKey b 10000 kt (.agg vals.toArray)).run P w= .ok () w:=by
  show (Instr.checkKey b (9999+1) kt (.agg vals.toArray)).run P w=_;rw [Instr.checkKey];simp only [Sem.run_bind,run_underlying hu,Result.andThen_ok];rw [←Array.forIn_toList];refine (congrArg (fun q=>Result.andThen q _) (zME _ fun f hi=>?_)).trans (by simp);obtain ⟨h1,⟨ds,h2,h3⟩,h4⟩:=hf f hi;have:=zQ7 h2 h3 (vals[f.offset]'h4) 9998 b w;simp only [show (9998+1)=9999 from rfl] at this;have hpart:(part f.type vals.toArray f.offset).run P w= .ok (vals[f.offset]'h4) w:=zIF h1.agg (by simp [h4]) w;by_cases hn:f.name= "_"
  · simp [hn]
  · simp only [ne_eq,hn,not_false_eq_true,if_true,Sem.run_bind,hpart,Result.andThen_ok,this]
    rfl
section
variable {P:Program} {r:Option Nat} {E:Env} {S:AState} {d:Nat} {ty:TypeId} {pos:String} {af:Array Edge} {g:Option (Nat×Bool)}
theorem zU0 {bid eb off:Nat} {cells:List AV} (size:Nat) (hb:S.blk bid= .box eb cells) (hc:cells[off]? =some (.d (.v (.slice none 0 0)))):zFB E S (S.setBlk bid (.box eb (cells.set off (.d (.sl size []))))):=by
 rintro a w ⟨I,ρ,C,h⟩
 refine ⟨I,ρ,C,h.rebox (eb:=eb) (cells:=cells) hb fun xs hx=>hx.set_right hc fun x hx2=>?_⟩;have h':Rep w I x (.v (.slice none 0 0)):=hx2;cases h';exact Rep.nil _ _ _
theorem yE4 {t e bytes:Nat} {z:Value} {x y:Operand} {id eb:Nat} {q x0 x1 x2 x3 x4 x5 x6 x7:Int} {l:List Int} (hn:d < E.n) (hT:SlTy P t e eI.size bytes z) (hx:S.ev x= .rs id 1 8)
  (hb:S.blk id= .box eb [.d (di q),.d (di x0),.d (di x1),.d (di x2),.d (di x3),.d (di x4),.d (di x5),.d (di x6),.d (di x7)]) (hy:S.ev y= .d (zP eI l)) (hE:E.wrB=true):
  jD P r E ⟨some d,.call {callee:= .builtin .copy,args:= #[x,y],argTypes:= #[t,t]},ty,pos,af,g⟩ S
   ((S.setBlk id (.box eb [.d (di q),.d (di (cpA l 0 x0)),.d (di (cpA l 1 x1)),.d (di (cpA l 2 x2)),.d (di (cpA l 3 x3)),.d (di (cpA l 4 x4)),.d (di (cpA l 5 x5)),.d (di (cpA l 6 x6)),.d (di (cpA l 7 x7))])).put d (.d (.v (.int .i64 (min l.length 8:Nat))))):=by
 have hml:(eI.all l).length=l.length:=by rw [jK];exact Nat.mul_one _
 have:=z3Q (P:=P) (r:=r) (ty:=ty) (pos:=pos) (af:=af) (g:=g) hn hT hx hb (by simp) (by omega) hy hml hE;have e1:=yM5 l q x0 x1 x2 x3 x4 x5 x6 x7;simp only [List.map_cons,List.map_nil] at e1;rw [e1] at this;exact this
end
end Go.AV
namespace Go.AV
open Go.RowKit Go.M
def QJ (E:Env) (J:AState→Prop):Exit→Act→World→Prop
 | .normal,a,w=> ∃S,J S∧Sat E S a w
 | _,_,_=>False
def zHM (P:Program) (r:Option Nat) (E:Env) (l:List Oper) (J:AState→Prop) (fuel:Nat) (listed:List Bool) (S:AState):Prop:=
 ∀a w,Sat E S a w→wpAnyIn (fen r) 0 P .any l.toArray (QJ E J) fuel listed.toArray a w
def AnyE (P:Program) (r:Option Nat) (E:Env) (l:List Oper) (J:AState→Prop) (fuel:Nat) (listed:List Bool) (S:AState):List Nat→Prop
 | []=>True
 | i::is=>(∃o S',l[i]? =some o∧zZZ P r E l.toArray o S S'∧zHM P r E l J fuel (listed.set i true) S')∧AnyE P r E l J fuel listed S is
section
variable {P:Program} {r:Option Nat} {E:Env} {l:List Oper} {J:AState→Prop} {fuel:Nat} {listed:List Bool} {S:AState}
theorem AnyE.mem:∀{is:List Nat} {i:Nat},AnyE P r E l J fuel listed S is→i∈is→∃o S',l[i]? =some o∧zZZ P r E l.toArray o S S'∧zHM P r E l J fuel (listed.set i true) S'
 | [],_,_,h=>by cases h
 | k::is,i,h,hi=>by
  rcases List.mem_cons.1 hi with e | hi;subst e;exact h.1;exact AnyE.mem h.2 hi
def rdy (l:List Oper) (ls:List Bool):List Nat:=(List.range l.length).filter fun i=>!ls.getD i true&&(match l[i]? with | none=>true | some o=>(aft o).all fun j=>ls.getD j false)
theorem z5U {i:Nat} (h:i∈Region.ready .any l.toArray listed.toArray):i∈rdy l listed:=by
 obtain ⟨h1,h2,h3⟩:=zKQ h;simp only [rdy,List.mem_filter,List.mem_range,Bool.and_eq_true,Bool.not_eq_true'];have e:∀k b,listed.toArray.getD k b=listed.getD k b:=fun k b=>by simp [Array.getD_eq_getD_getElem?,List.getD_eq_getElem?_getD]
 refine ⟨h1,by rw [←e];exact h2,?_⟩
 have ho:=List.getElem?_eq_getElem h1;rw [ho];simp only [List.all_eq_true];intro j hj;rw [←e];exact h3 _ ho j hj
theorem z5V {i:Nat} (h:(rdy l listed).contains i=true):i∈Region.ready .any l.toArray listed.toArray:=by
 have h:=List.contains_iff_mem.1 h;simp only [rdy,List.mem_filter,List.mem_range,Bool.and_eq_true,Bool.not_eq_true'] at h;have e:∀k b,listed.toArray.getD k b=listed.getD k b:=fun k b=>by simp [Array.getD_eq_getD_getElem?,List.getD_eq_getElem?_getD]
 obtain ⟨h1,h2,h3⟩:=h;have ho:=List.getElem?_eq_getElem h1;rw [ho] at h3;simp only [List.all_eq_true] at h3;exact zZ7 ho (by rw [e];exact h2) fun j hj=>by rw [e];exact h3 j hj
theorem z5W (ls:List Bool) (i:Nat):ls.toArray.setIfInBounds i true=(ls.set i true).toArray:=by simp
theorem yE5 (hr:rdy l listed= []) (h:J S):zHM P r E l J fuel listed S:=by
 intro a w hs;have hr':Region.ready .any l.toArray listed.toArray= []:=List.eq_nil_iff_forall_not_mem.2 fun i hi=>by have:=z5U hi;rw [hr] at this;cases this
 cases fuel with
 | zero=>exact ⟨hr',S,h,hs⟩
 | succ n=>exact ⟨fun _=>⟨S,h,hs⟩,fun i hi=>by rw [hr'] at hi;cases hi⟩
theorem yLL (is:List Nat) (hr:rdy l listed=is) (hne:is.isEmpty=false) (h:AnyE P r E l J fuel listed S is):zHM P r E l J (fuel+1) listed S:=by
 intro a w hs;refine ⟨fun e=>?_,fun i hi=>?_⟩;cases is with
 | nil=>cases hne
 | cons k is=>
  have:=z5V (l:=l) (listed:=listed) (i:=k) (by rw [hr];simp)
  rw [e] at this;cases this
 have hi:=z5U hi;rw [hr] at hi;obtain ⟨o,S',h1,h2,h3⟩:=h.mem hi;unfold wpOpIn;simp only [List.getElem?_toArray,h1];refine h2 a w _ _ hs fun a' w' hs'=>?_;rw [z5W];exact h3 a' w' hs'
theorem z5X:AnyE P r E l J fuel listed S []:=trivial
theorem yHV {i:Nat} {is:List Nat} {o:Oper} {S':AState} (ho:l[i]? =some o) (hg:o.guard=none) (h:jD P r E o S S') (k:zHM P r E l J fuel (listed.set i true) S') (ks:AnyE P r E l J fuel listed S is):AnyE P r E l J fuel listed S (i::is):=
 ⟨⟨o,S',ho,zOT hg h,k⟩,ks⟩
theorem yHW {i d:Nat} {is:List Nat} {o:Oper} {x:AV} (ho:l[i]? =some o) (hg:o.guard=none) (h:AOp P r E S o d x) (k:zHM P r E l J fuel (listed.set i true) (S.put d x)) (ks:AnyE P r E l J fuel listed S is):AnyE P r E l J fuel listed S (i::is):=
 ⟨⟨o,_,ho,zOT hg h.step,k⟩,ks⟩
def z8C (l:List Oper) (listed:List Bool) (i:Nat) (oi:Oper):Bool:=
 (List.range l.length).all fun j=>Nat.beq j i ||listed.getD j true ||(match l[j]? with
  | none=>true
  | some oj=>(aft oj).contains i ||oi.apart l.toArray oj)
def zWL (l:List Oper):Bool:=l.all fun o=>match o.op with | .select _ _=>false | _=>true
theorem zM4 {i d:Nat} {oi:Oper} {x:AV} (hr:r=none) (hi:l[i]? =some oi) (hg:oi.guard=none) (hd:oi.dst=some d) (hsel:zWL l=true) (hap:z8C l listed i oi=true) (hrd:(rdy l listed).contains i=true)
    (hy:∀a w,Sat E S a w→∃v,(∀w',(execOp a.eval oi).run P w'= .ok (.value v) w')∧(∀w',oi.about P w' a.eval=none)∧Sat E (S.put d x) (a.put (some d) v) w) (k:zHM P r E l J fuel (listed.set i true) (S.put d x)):zHM P r E l J (fuel+1) listed S:=by
  subst hr;intro a w hs;obtain ⟨v,h1,h2,h3⟩:=hy a w hs;have hi':l.toArray[i]? =some oi:=by simpa using hi
  refine wpAnyIn_first (i:=i) (oi:=oi) (v:=v) rfl hi' (fun j o cs b ho e=>?_) (fun c a w h=>h.elim) fuel listed.toArray a w (fun j oj hj hne hl hnot=>?_) (z5V hrd) ⟨.inl ⟨?_,h1⟩,h2⟩ (by rw [hd,z5W];exact k _ w h3)
  · have:=List.all_eq_true.1 hsel o (List.mem_of_getElem? (by simpa using ho))
    rw [e] at this;cases this
  · have hj':l[j]? =some oj:=by simpa using hj
    have hlt:=(List.getElem?_eq_some_iff.1 hj').1;have:=List.all_eq_true.1 hap j (List.mem_range.2 hlt);have hl':listed.getD j true=false:=by rw [←hl];simp [Array.getD_eq_getD_getElem?,List.getD_eq_getElem?_getD]
    simp only [Bool.or_eq_true,Nat.beq_eq,hl',hj'] at this;rcases this with (h | h) | h | h
    · exact absurd h hne
    · cases h
    · exfalso
      have h:=List.contains_iff_mem.1 h;simp only [aft,List.mem_map,List.mem_filter] at h;obtain ⟨q,⟨hq,hb⟩,he⟩:=h;exact hnot q (by simpa using hq) hb he
    · exact h
  · unfold Region.wanted
    rw [hg]
section
variable {d:Nat} {ty:TypeId} {pos:String} {af:Array Edge} {x:Operand}
theorem yA7 {i:Nat} (hi:l[i]? =some ⟨some d,.move x,ty,pos,af,none⟩) (hn:d < E.n) (hr:r=none) (hsel:zWL l=true) (hap:z8C l listed i ⟨some d,.move x,ty,pos,af,none⟩=true) (hrd:(rdy l listed).contains i=true)
  (k:zHM P r E l J fuel (listed.set i true) (S.put d (S.ev x))):zHM P r E l J (fuel+1) listed S:=
 zM4 hr hi rfl rfl hsel hap hrd (fun a w ⟨I,ρ,C,hs⟩=>⟨a.eval x,fun w'=>by simp [execOp],fun w'=>rfl,I,ρ,C,hs.put hn (hs.ev x)⟩) k
theorem zK1 {i:Nat} {y:Operand} {tx tz:TypeId} {a b:Int} (hi:l[i]? =some ⟨some d,.binOp .sub tx x y tz,ty,pos,af,none⟩) (hn:d < E.n) (hx:S.ev x= .d (.v (.int .i64 a))) (hy:S.ev y= .d (.v (.int .i64 b))) (hr:r=none) (hsel:zWL l=true) (hap:z8C l listed i ⟨some d,.binOp .sub tx x y tz,ty,pos,af,none⟩=true) (hrd:(rdy l listed).contains i=true)
  (k:zHM P r E l J fuel (listed.set i true) (S.put d (.d (.v (.int .i64 (wi (a - b))))))):zHM P r E l J (fuel+1) listed S:=
 zM4 hr hi rfl rfl hsel hap hrd (fun A w ⟨I,ρ,C,hs⟩=>⟨.int .i64 (wi (a - b)),fun w'=>by
  simp only [execOp,hs.val hx,hs.val hy];simp [binOp,eqGuard,Op.intArith,wi],fun w'=>rfl,I,ρ,C,SatAt.put (x:= .d (.v _)) hs hn (Rep.v _)⟩) k
theorem zM5 {i:Nat} {y:Operand} {tx tz:TypeId} {a b:Int} (hi:l[i]? =some ⟨some d,.binOp .add tx x y tz,ty,pos,af,none⟩) (hn:d < E.n) (hx:S.ev x= .d (.v (.int .i64 a))) (hy:S.ev y= .d (.v (.int .i64 b))) (hr:r=none) (hsel:zWL l=true) (hap:z8C l listed i ⟨some d,.binOp .add tx x y tz,ty,pos,af,none⟩=true) (hrd:(rdy l listed).contains i=true)
  (k:zHM P r E l J fuel (listed.set i true) (S.put d (.d (.v (.int .i64 (wi (a+b))))))):zHM P r E l J (fuel+1) listed S:=
 zM4 hr hi rfl rfl hsel hap hrd (fun A w ⟨I,ρ,C,hs⟩=>⟨.int .i64 (wi (a+b)),fun w'=>by
  simp only [execOp,hs.val hx,hs.val hy];simp [binOp,eqGuard,Op.intArith,wi],fun w'=>rfl,I,ρ,C,SatAt.put (x:= .d (.v _)) hs hn (Rep.v _)⟩) k
theorem zWM {α:Type} {en:En α} {ls:List α} {i t e bytes:Nat} {z:Value} {ix:Operand} {kk:IntKind} {q:Int} {v: α} (hi:l[i]? =some ⟨some d,.indexAddr t x ix,ty,pos,af,none⟩) (hn:d < E.n) (hT:SlTy P t e en.size bytes z) (hx:S.ev x= .d (zP en ls)) (hix:S.ev ix= .d (.v (.int kk q))) (hv:z7 ls q=some v)
  (hr:r=none) (hsel:zWL l=true) (hap:z8C l listed i ⟨some d,.indexAddr t x ix,ty,pos,af,none⟩=true) (hrd:(rdy l listed).contains i=true)
  (k:zHM P r E l J fuel (listed.set i true) (S.put d (.ip (en.all ls) (q.toNat*en.size)))):zHM P r E l J (fuel+1) listed S:=
 zM4 hr hi rfl rfl hsel hap hrd (fun A w ⟨I,ρ,C,hs⟩=>by
  have h:=hs.ev x;rw [hx] at h;obtain ⟨B,n,c,xs,hvx,_,hl,hpw,h1,hadr⟩:=Rep.sl_inv h;have hn':n=ls.length:=zHL hl (jK en ls) hT.pos;subst hn';have hq:=(xW hv).2.1;have hlt:=(xW hv).2.2.1;obtain ⟨b,off,rfl,hc⟩:=hadr (by omega);have hiv:=hs.val hix;refine ⟨.pointer (some ⟨b,off+q.toNat*en.size,none⟩),fun w'=>?_,fun w'=>rfl,I,ρ,C,hs.put hn ⟨b,off,xs,rfl,hpw,h1,hc⟩⟩;rw [hq] at hiv;simp only [execOp,hvx,hiv,Sem.run_bind,zI5 w' hT.und (hT.size w') b off ls.length c kk q.toNat hlt];rfl) k
end
theorem zGN {id:Nat} {K:Exit→AState→Prop} (hm:P.follows .mixedOrders=true) (h:zHM P r E l (K .normal) l.length (List.replicate l.length false) S):Avc P r E (.region id l.toArray true) K S:=by
 intro a w hs;have h2:=h a {w with drawn:=w.drawn+1} (zZ6 hs);refine wpIn_mono (wpIn_region_any (Q:=QJ E (K .normal)) hm (by simpa [←List.toArray_replicate] using h2)) ?_;intro e a' w' hq;cases e with
 | normal=>exact hq
 | _=>exact hq.elim
end
end Go.AV
namespace Go.AV
open Go.RowKit Go.M
def CapsOf:List AV→List Cap→Prop
 | [],cs=>cs= []
 | x::xs,cs=> ∃c ds,cs=c::ds∧CapOf x c∧CapsOf xs ds
section
variable {P:Program} {r:Option Nat} {E:Env} {S:AState} {d:Nat} {ty:TypeId} {pos:String} {af:Array Edge} {g:Option (Nat×Bool)}
theorem CapsOf.holds {w:World} {I:Im} {ρ:Nat→Value}:∀{vs:List Value} {xs:List AV} {cs:List Cap},CapsOf xs cs→Pw (Holds w I ρ) vs xs→Pw (HoldsC w I ρ) vs cs
 | [],[],cs,h,_=>by cases h;exact Pw.nil
 | [],x::xs,cs,_,hp=>by have:=hp.1;simp at this
 | v::vs,[],cs,_,hp=>by have:=hp.1;simp at this
 | v::vs,x::xs,cs,⟨c,ds,e,h1,h2⟩,hp=>by
  subst e;obtain ⟨q1,q2⟩:=zHW hp;exact Pw.cons (h1.holds q1) (CapsOf.holds h2 q2)
theorem zP6 {f:FuncId} {caps:List Operand} {cs:List Cap} (hn:d < E.n) (hc:CapsOf (caps.map S.ev) cs):
  AOp P r E S ⟨some d,.makeFunc (.func f) #[] caps.toArray,ty,pos,af,g⟩ d (.clo f cs):=
 ⟨rfl,hn,fun S' ha=>z2 rfl hn (by simp) fun A w I ρ C hs=>by
  have he:caps.map S'.ev=caps.map S.ev:=List.map_congr_left fun x hx=>ha.ev (by simp [Op.operands];simpa using hx)
  rw [←he] at hc;exact ⟨.func (.func f) #[] (caps.map A.eval).toArray,by simp [execOp,Instr.makeFunc],_,rfl,hc.holds (zBH hs caps)⟩⟩
theorem zMF {t:TypeId} {x y:Operand} {id off eb:Nat} {cells:List AV} {av:AV} (hT:OneTy P t) (hx:S.ev x= .ptr id off) (hb:S.blk id= .box eb cells) (hlt:off < cells.length) (hy:S.ev y=av) (h1:av.one=true) (hr:zVQ S av=true) (hE:E.wrB=true):
  jD P r E ⟨none,.store t x y,ty,pos,af,g⟩ S (S.setBlk id (.box eb (cells.set off av))):=by
 subst hy;exact zIB hT hx hb hlt h1 hr hE
theorem z3V {a t id e b u id' e':Nat} {x y:DV} (h1:(S.get a).un= .ptr id 0) (h2:S.blk id= .box e [.d x]) (hT:OneTy P t) (k1:(S.get b).un= .ptr id' 0) (k2:S.blk id'= .box e' [.d y]) (hU:OneTy P u):RetS P S [.cell a t,.cell b u] [x,y]:=
 ⟨_,_,id,e,_,rfl,h1,h2,.inl ⟨hT,_,rfl,rfl⟩,_,_,id',e',_,rfl,k1,k2,.inl ⟨hU,_,rfl,rfl⟩,rfl⟩
end
end Go.AV
namespace Go.AV
open Go.RowKit Go.M
theorem BlkOk.lt {w:World} {I:Im} {ρ:Nat→Value} {M:Nat→Prop} {i b:Nat} {x:Blk} (h:BlkOk w I ρ M i x) (hne:x≠ .none) (hb:blockOf (ρ i)=some b):b < w.heap.size:=by
 cases x with
 | none=>exact absurd rfl hne
 | row e size sh cells=>
  obtain ⟨hM,n,xs,hl,hown,_⟩:=h;rcases hown.2 with ⟨hn,_⟩ | ⟨g,cap,cur,hv,hB,hh,_⟩;rw [hn] at hb;simp [blockOf] at hb;rw [hv] at hb;simp [blockOf] at hb;subst hb;exact (Array.getElem?_eq_some_iff.1 hh).1
 | box e cells=>
  obtain ⟨b',arr,hv,hB,hh,_⟩:=h;rw [hv] at hb;simp [blockOf] at hb;subst hb;exact (Array.getElem?_eq_some_iff.1 hh).1
 | map es=>
  obtain ⟨b',ents,clock,hv,hB,hh,_⟩:=h;rw [hv] at hb;simp [blockOf] at hb;subst hb;exact (Array.getElem?_eq_some_iff.1 hh).1
 | win e size k cells=>
  obtain ⟨A,n,c,xs,hv,_,_,_,_,_,hA⟩:=h;rcases hA with ⟨hA,_⟩ | ⟨b',off,arr,hA,hB,hh,_⟩;rw [hv,hA] at hb;simp [blockOf] at hb;rw [hv,hA] at hb;simp [blockOf] at hb;subst hb;exact (Array.getElem?_eq_some_iff.1 hh).1
end Go.AV
namespace Go.AV
open Go.RowKit Go.M
section
variable {P:Program} {r:Option Nat} {E:Env} {S:AState} {d ty:Nat} {pos:String} {af:Array Edge} {g:Option (Nat×Bool)}
theorem zTK {β:Type} {c ys:List β} {off n N:Nat} (h:ys.length=n) (h1:off+n≤N) (h2:N≤c.length):(c.take off++ys++c.drop (off+n)).take N=(c.take N).take off++ys++(c.take N).drop (off+n):=by
 have l1:(c.take off++ys).length=off+n:=by simp;omega
 rw [List.take_append,List.take_of_length_le (by omega),l1,List.take_take,Nat.min_eq_left (by omega),List.drop_take]
theorem zRO {t n:Nat} {x y:Operand} {id off e size:Nat} {cells ds:List DV} (hT:AggTy P t n) (hx:S.ev x= .ptr id off) (hb:S.blk id= .row e size false cells) (hlt:off+n≤cells.length)
    (hy:S.ev y= .d (.agg ds)) (hl2:ds.length=n) (hE:E.wrB=true):
    jD P r E ⟨none,.store t x y,ty,pos,af,g⟩ S (S.setBlk id (.row e size false (cells.take off++ds++cells.drop (off+n)))):=
  zFU rfl (by simp) fun A w I ρ C hs=>by
    have h:=hs.ev x;rw [hx] at h;obtain ⟨b,hρ,hv⟩:=h;have hbk:=hs.blks id;rw [hb] at hbk;obtain ⟨h0,n',xs,hl,hown,h1',hpw,hI⟩:=hbk;have hyv:=hs.ev y;rw [hy] at hyv;have hyv':Rep w I (A.eval y) (.agg ds):=hyv;generalize he:A.eval y=vy at hyv';cases hyv' with
    | agg ys cells' hly h1 hr=>
      have hrp:Reps w I ys ds:=⟨hly,hr⟩;rcases hown.2 with ⟨hn,_⟩ | ⟨gb,cap,cur,hn,hB,hh,hnc,hcm,hcs,htk⟩
      · rw [hn] at hρ;cases hρ
      · have hbb:gb=b:=by rw [hn] at hρ;simpa [blockOf] using hρ
        subst hbb;have hI':∀j,¬I gb j:=fun j hj=>by have:=(hI gb j (by rw [hn];rfl) hj).1;cases this
        have hxl:xs.length=n'*size:=hown.1;have hlt2:cells.length≤cur.size:=by rw [hcs,hl];exact Nat.mul_le_mul_right _ hnc
        have hyl:ys.length=n:=by rw [hly];exact hl2
        have hst:=zSY (P:=P) w hT (b:=gb) (off:=off) (vs:=ys) hh (by omega) hyl h1;have hwn:cells.length=n'*size:=hl;refine ⟨_,?_,I,ρ,C,hs.modify (zBX w gb (cur.toList.take off++ys++cur.toList.drop (off+n)).toArray) (by rw [hb];simp) hρ (wV hI') ⟨h0,n',xs.take off++ys++xs.drop (off+n),by simp;omega,⟨by simp;omega,.inr ⟨gb,cap,_,hn,hB,setRow_heap w gb cur _ e _ hh,hnc,hcm,?_,?_⟩⟩,?_,?_,?_⟩ hE⟩
        · simp only [execOp,hv,he,Sem.run_bind,hst]
          rfl
        · simp;omega
        · have htk':cur.toList.take (n'*size)=xs:=htk
          rw [←htk'];exact zTK hyl (by omega) (by simp;omega)
        · intro v hv'
          simp only [List.mem_append] at hv';rcases hv' with (hu | hu) | hu
          · exact h1' v (List.mem_of_mem_take hu)
          · exact h1 v hu
          · exact h1' v (List.mem_of_mem_drop hu)
        · have hp2:=hpw.imp fun _ _ h=>h.mono (wV (arr:=(cur.toList.take off++ys++cur.toList.drop (off+n)).toArray) hI') (fun _ _ h=>h)
          have hr2:=Reps.mono hrp (wV (arr:=(cur.toList.take off++ys++cur.toList.drop (off+n)).toArray) hI') (fun _ _ h=>h);exact ((hp2.take off).append hr2).append (hp2.drop (off+n))
        · intro g' j hg' hi
          rw [hn] at hg';simp [Value.ownBlock] at hg';subst hg';exact absurd hi (hI' j)
theorem yA8 {α:Type} (en:En α) (l:List α) (v: α):∀(i:Nat),i < l.length→en.all (l.set i v)=(en.all l).take (i*en.size)++en.cells v++(en.all l).drop (i*en.size+en.size):=by
 induction l with
 | nil=>intro i hi;simp at hi
 | cons a l ih=>
  intro i hi;have ha:(en.cells a).length=en.size:=en.len a;cases i with
  | zero=>
   simp only [List.set_cons_zero,En.all,List.flatMap_cons,Nat.zero_mul,List.take_zero,List.nil_append,Nat.zero_add];rw [List.drop_append_of_le_length (by omega),List.drop_of_length_le (by omega)];simp
  | succ j=>
   have:=ih j (by simpa using hi);simp only [List.set_cons_succ,En.all,List.flatMap_cons] at this ⊢;rw [this,Nat.add_mul,Nat.one_mul];rw [List.take_append,List.drop_append,ha];rw [List.take_of_length_le (l:=en.cells a) (by omega),List.drop_of_length_le (l:=en.cells a) (by omega)];have e1:j*en.size+en.size - en.size=j*en.size:=by omega
   have e2:j*en.size+en.size+en.size - en.size=j*en.size+en.size:=by omega
   rw [e1,e2];simp [List.append_assoc]
theorem yA9 {α:Type} {en:En α} {l l':List α} {e tt:Nat} {x y:Operand} {id:Nat} {i:Int} {v: α} (hT:AggTy P tt en.size) (hx:S.ev x= .ptr id (i.toNat*en.size)) (hb:S.blk id= .row e en.size false (en.all l)) (hy:S.ev y= .d (en.dv v)) (hd:en.dv v= .agg (en.cells v))
  (hs:u7 l i v=some l') (hE:E.wrB=true):
  jD P r E ⟨none,.store tt x y,ty,pos,af,g⟩ S (S.setBlk id (.row e en.size false (en.all l'))):=by
 obtain ⟨rfl,h0,hlt⟩:=zM2 hs;rw [yA8 en l v i.toNat hlt];refine zRO hT hx hb ?_ (by rw [hy,hd]) (en.len v) hE;rw [jK];have:(i.toNat+1)*en.size≤l.length*en.size:=Nat.mul_le_mul_right _ hlt;rw [Nat.add_mul] at this;omega
def Blk.is:Blk→Bool
 | .none=>false
 | _=>true
theorem Blk.is_ne {b:Blk} (h:b.is=true):b≠ .none:=by cases b <;> simp_all [Blk.is]
def nmB (keep0:List Nat) (σ:List (Nat×Nat)) (keep:List Nat) (T T':List (Nat×Blk)):Bool:=
 σ.all fun p=>!keep0.contains p.2 ||(keep.contains p.1&&((look Blk.none T p.1).is&&(look Blk.none T' p.1).is))
theorem zD2 {gdt:Nat→Option (List Value)} {w0:World} {I0:Im} {hG0:GlI gdt w0 I0} {ρ0:Nat→Value} {T0:List (Nat×Blk)} {keep0:List Nat} {n0:Nat} {hn0:n0≤1000000} {f:FuncId} {xs:List Operand} {ats:Array TypeId} {args rets:List Cap} {T T':List (Nat×Blk)} {keep:List Nat} (σ:List (Nat×Nat)) (hc:GC P f args T keep rets T') (hn:d < n0) (hσ:(σ.map Prod.fst).Nodup∧(σ.map Prod.snd).Nodup)
    (hargs:ArgsAs σ (xs.map S.ev) args) (hal:args.all (Cap.idsLt σ)=true) (hrl:rets.all (Cap.idsLt σ)=true) (hT:BlksAs S σ T) (hTo:zCP σ T=true) (hTo':zCP σ T'=true)
    (hfr:zP4 S σ T=true) (hnm:nmB keep0 σ keep T T'=true) (hG:gdt=u0 P:=by rfl):
    jD P r (Env.gen gdt w0 I0 hG0 ρ0 T0 keep0 n0 hn0) ⟨some d,.call {callee:= .value (.func f),args:=xs.toArray,argTypes:=ats},ty,pos,af,g⟩ S
      (((S.killL (zJV σ keep T')).setL (renL σ T'++zNI σ T T')).put d ((zN5 rets).ren σ)):=
  z5Q (E:=Env.gen gdt w0 I0 hG0 ρ0 T0 keep0 n0 hn0) σ hn (zTH hσ) hargs hal hrl hT hTo hTo' (zMB hfr) (fun k hk=>by
    have:=List.all_eq_true.1 hnm _ (zE2 hk);by_cases hc:keep0.contains (look 0 σ k)=true
    · simp only [hc,Bool.not_true,Bool.false_or,Bool.and_eq_true] at this
      exact .inr ⟨this.1,Blk.is_ne this.2.1,Blk.is_ne this.2.2⟩
    · refine .inl ?_
      show (if keep0.contains (look 0 σ k)=true then _ else _)=_;rw [if_neg hc]) hc rfl hG
theorem zR9 {f:FuncId} {xf:Operand} {cs:List Cap} {xs:List Operand} {ats:Array TypeId} {args rets:List Cap} {T T':List (Nat×Blk)} {keep:List Nat} (σ:List (Nat×Nat)) (hc:GC P f args T keep rets T') (hn:d < E.n) (hσ:(σ.map Prod.fst).Nodup∧(σ.map Prod.snd).Nodup) (hxf:S.ev xf= .clo f cs)
  (hargs:ArgsAs σ (xs.map S.ev++cs.map Cap.av) args) (hal:args.all (Cap.idsLt σ)=true) (hrl:rets.all (Cap.idsLt σ)=true) (hT:BlksAs S σ T) (hTo:zCP σ T=true) (hTo':zCP σ T'=true)
  (hfr:zP4 S σ T=true) (hnm:∀k,E.nm k=none) (hE:E.wrB=true) (hG:E.gdt=u0 P:=by rfl):
  jD P r E ⟨some d,.call {callee:= .value xf,args:=xs.toArray,argTypes:=ats},ty,pos,af,g⟩ S
   (((S.killL (zJV σ keep T')).setL (renL σ T'++zNI σ T T')).put d ((zN5 rets).ren σ)):=
 z0J σ hn (zTH hσ) hxf hargs hal hrl hT hTo hTo' (zMB hfr) (fun k _=> .inl (hnm _)) hc hE hG
theorem z0Y {gdt:Nat→Option (List Value)} {w0:World} {I0:Im} {hG0:GlI gdt w0 I0} {ρ0:Nat→Value} {T0:List (Nat×Blk)} {keep0:List Nat} {n0:Nat} {hn0:n0≤1000000} {f:FuncId} {xf:Operand} {cs:List Cap} {xs:List Operand} {ats:Array TypeId} {args rets:List Cap} {T T':List (Nat×Blk)} {keep:List Nat} (σ:List (Nat×Nat)) (hc:GC P f args T keep rets T') (hn:d < n0) (hσ:(σ.map Prod.fst).Nodup∧(σ.map Prod.snd).Nodup) (hxf:S.ev xf= .clo f cs)
    (hargs:ArgsAs σ (xs.map S.ev++cs.map Cap.av) args) (hal:args.all (Cap.idsLt σ)=true) (hrl:rets.all (Cap.idsLt σ)=true) (hT:BlksAs S σ T) (hTo:zCP σ T=true) (hTo':zCP σ T'=true)
    (hfr:zP4 S σ T=true) (hnm:nmB keep0 σ keep T T'=true) (hG:gdt=u0 P:=by rfl):
    jD P r (Env.gen gdt w0 I0 hG0 ρ0 T0 keep0 n0 hn0) ⟨some d,.call {callee:= .value xf,args:=xs.toArray,argTypes:=ats},ty,pos,af,g⟩ S
      (((S.killL (zJV σ keep T')).setL (renL σ T'++zNI σ T T')).put d ((zN5 rets).ren σ)):=
  z0J (E:=Env.gen gdt w0 I0 hG0 ρ0 T0 keep0 n0 hn0) σ hn (zTH hσ) hxf hargs hal hrl hT hTo hTo' (zMB hfr) (fun k hk=>by
    have:=List.all_eq_true.1 hnm _ (zE2 hk);by_cases hc:keep0.contains (look 0 σ k)=true
    · simp only [hc,Bool.not_true,Bool.false_or,Bool.and_eq_true] at this
      exact .inr ⟨this.1,Blk.is_ne this.2.1,Blk.is_ne this.2.2⟩
    · refine .inl ?_
      show (if keep0.contains (look 0 σ k)=true then _ else _)=_;rw [if_neg hc]) hc rfl hG
end
end Go.AV
namespace Go.M
def yM {α:Type} [DecidableEq α] (items:List α) (k:Nat) (x: α):Option Unit:=if items[k]? =some x then some () else none
def zTL {α:Type} (items:List α) (k:Nat):Option Unit:=if k=items.length then some () else none
end Go.M
namespace Go.AV
open Go.M
theorem z3W {α:Type} [DecidableEq α] {β:Type} {items:List α} {k:Nat} {x: α} {u:Unit} (f: α→β) (h:yM items k x=some u):(items.map f)[k]? =some (f x):=by unfold yM at h;split at h;rename_i h';rw [List.getElem?_map,h'];rfl;cases h
theorem zMG {α:Type} {β:Type} {items:List α} {k:Nat} {u:Unit} (f: α→β) (h:zTL items k=some u):k=(items.map f).length:=by unfold zTL at h;split at h;rename_i h';rw [List.length_map,h'];cases h
end Go.AV
namespace Go.AV
open Go.M
section
variable {P:Program} {r:Option Nat} {E:Env} {S:AState} {K:Exit→AState→Prop} {c:Code} {A B C D:Type}
def yM6 (E:Env) (e1:Exit) (S1:A→AState) (e2:Exit) (S2:B→AState):A⊕B→Exit→AState→Prop
 | .inl y,e',S'=>e'=e1∧zFB E S' (S1 y)
 | .inr y,e',S'=>e'=e2∧zFB E S' (S2 y)
theorem zT (y:A⊕B) (e1:Exit) (S1:A→AState) (e2:Exit) (S2:B→AState) (h:Avc P r E c (yM6 E e1 S1 e2 S2 y) S) (k1:∀z,y= .inl z→K e1 (S1 z)) (k2:∀z,y= .inr z→K e2 (S2 z)):Avc P r E c K S:=by rcases y with y | y;exact zTA (e:=e1) (S2:=S1 y) h (k1 y rfl);exact zTA (e:=e2) (S2:=S2 y) h (k2 y rfl)
end
end Go.AV
namespace Go.AV
open Go.RowKit Go.M
section
variable {P:Program} {r:Option Nat} {E:Env} {S:AState} {d ty:Nat} {pos:String} {af:Array Edge} {g:Option (Nat×Bool)}
theorem zXW {f:FuncId} {xs:List Operand} {ats:Array TypeId} {args:List Cap} {ret:AV} {T T':List (Nat×Blk)} {keep:List Nat} (σ:List (Nat×Nat)) (hc:GCA P f args T keep ret T') (hn:d < E.n) (hσ:(σ.map Prod.fst).Nodup∧(σ.map Prod.snd).Nodup)
  (hargs:ArgsAs σ (xs.map S.ev) args) (hal:args.all (Cap.idsLt σ)=true) (hrl:ret.idsLt σ =true) (hT:BlksAs S σ T) (hTo:zCP σ T=true) (hTo':zCP σ T'=true)
  (hfr:zP4 S σ T=true) (hnm:∀k,E.nm k=none) (hE:E.wrB=true) (hG:E.gdt=u0 P:=by rfl):
  jD P r E ⟨some d,.call {callee:= .value (.func f),args:=xs.toArray,argTypes:=ats},ty,pos,af,g⟩ S
   (((S.killL (zJV σ keep T')).setL (renL σ T'++zNI σ T T')).put d (ret.ren σ)):=
 zWD σ hn (zTH hσ) (extra:=[]) (fun A w I ρ C _=>⟨[],by simp [Act.eval],Pw.nil⟩) (by rw [List.append_nil];exact hargs) hal hrl hT hTo hTo' (zMB hfr) (fun k _=> .inl (hnm _)) hc hE hG
theorem yE6 {w:World} {I I':Im} {ys:List Value} {cells:List DV} (h:Reps w I' ys cells) (hv:∀x∈cells,∃u,x= .v u):Reps w I ys cells:=
 ⟨h.1,fun j y x hy hx=>by
  obtain ⟨u,rfl⟩:=hv x (List.mem_of_getElem? hx);have:=h.2 j y _ hy hx;cases this;exact .v _⟩
theorem yJD {f e size n off id k0:Nat} {x y:Operand} {ats:Array TypeId} {L cells':List DV} {fv:DV} (hn:d < E.n) (hx:S.ev x= .rs id off n) (hy:S.ev y= .d fv) (hb:S.blk id= .row e size false L) (h0:0 < n) (hfit:off+n*size≤L.length)
    (hv:∀x∈cells',∃u,x= .v u) (hc:GC P f [.row k0,.d fv] [(k0,.win e size 0 ((L.drop off).take (n*size)))] [k0] [] [(k0,.win e size 0 cells')]) (hE:E.wrB=true) (hG:E.gdt=u0 P:=by rfl):
    jD P r E ⟨some d,.call {callee:= .value (.func f),args:= #[x,y],argTypes:=ats},ty,pos,af,g⟩ S
      ((S.setBlk id (.row e size false (L.take off++cells'++L.drop (off+n*size)))).put d (.tupc [])):=by
  rintro A w K Q ⟨I,ρ,C,hs⟩ hk
  obtain ⟨⟨fn,hf,hname,hbody⟩,hcall⟩:=hc;have hne:S.blk id≠ .none:=by rw [hb];simp
  have hbk:=hs.blks id;rw [hb] at hbk;obtain ⟨⟨hp,hM⟩,n0,xs,hl,hown,h1,hr,hI⟩:=hbk;have hvx:=hs.ev x;rw [hx] at hvx;obtain ⟨A',c,hvx,hnc',hA⟩:=hvx;obtain ⟨gb0,hρb,rfl⟩:=hA h0;have hvy:=hs.ev y;rw [hy] at hvy;have hvy:Rep w I (A.eval y) fv:=hvy;have hpos:0 < n*size:=Nat.mul_pos h0 hp;have hxl:xs.length=L.length:=hr.1;rcases hown.2 with ⟨hn',_⟩ | ⟨gb,cap,cur,hn',hB,hh,hnc,hcm,hcs,htk⟩
  · rw [hn'] at hρb;cases hρb
  have hbb:gb0=gb:=by rw [hn'] at hρb;simpa [blockOf] using hρb.symm
  subst hbb;have hInot:∀j,¬I gb0 j:=fun j hj=>by have:=(hI gb0 j (by rw [hn'];rfl) hj).1;cases this
  have hgsz:gb0 < w.heap.size:=(Array.getElem?_eq_some_iff.1 hh).1;have hLcur:L.length≤cur.size:=by rw [hcs,hl];exact Nat.mul_le_mul_right _ hnc
  have hxcur:∀(j:Nat) v,xs[j]? =some v→cur[j]? =some v:=fun j v hj=>by
    rw [←htk,List.getElem?_take] at hj;split at hj
    · simpa using hj
    · cases hj
  let I1:Im:=fun b j=>I b j∨(b=gb0∧(j < off∨off+n*size≤j))
  let ρc:Nat→Value:=fun _=>A.eval x
  have hsub1:∀b j,I b j→I1 b j:=fun b j h=> .inl h;have hself:Same I w w:=fun _ _ _=>KeepB.refl;have hfrag:Frag w I1 ρc [(k0,.win e size 0 ((L.drop off).take (n*size)))]:=by
    refine ⟨fun k=>?_,fun k k' b hne' h1' h2' _=>?_⟩
    · by_cases hk0:k=k0
      · subst hk0
        rw [k4,if_pos rfl];refine ⟨_,n,c,(xs.drop off).take (n*size),hvx,hnc',hp,by simp;omega,Reps.mono ((hr.drop off).take (n*size)) hself hsub1,fun u hu=>h1 u (List.mem_of_mem_drop (List.mem_of_mem_take hu)),.inr ⟨gb0,off,cur,rfl,trivial,hh,by omega,fun j u hj=>?_,fun j hj1 hj2 hj=>?_⟩⟩
        · rw [List.getElem?_take] at hj
          split at hj
          · rw [List.getElem?_drop] at hj;exact hxcur _ u hj
          · cases hj
        · rcases hj with hj | ⟨_,hj⟩
          · exact absurd hj (hInot j)
          · omega
      · rw [k4,if_neg (fun e=>hk0 e.symm)]
        trivial
    · exfalso
      have e1:k=k0:=by
        by_cases e:k=k0
        · exact e
        · exfalso;apply h1';rw [k4,if_neg (fun q=>e q.symm)];rfl
      have e2:k'=k0:=by
        by_cases e:k'=k0
        · exact e
        · exfalso;apply h2';rw [k4,if_neg (fun q=>e q.symm)];rfl
      exact hne' (e1.trans e2.symm)
  have hI1:∀b j,I1 b j→b < w.heap.size:=by
    rintro b j (h | ⟨rfl,_⟩)
    · exact (hs.old b j h).1
    · exact hgsz
  have hcl:=hcall w I1 ρc [A.eval x,A.eval y] hI1 ((hG▸hs.gl).sub hsub1) hfrag (Pw.cons rfl (Pw.cons (Rep.mono hvy hself hsub1) Pw.nil));refine ⟨fun f _=>trivial,?_⟩;rw [Oper.semAt_eq _ _ _ (by simp)];have hrun:(execOp A.eval ⟨some d,.call {callee:= .value (.func f),args:= #[x,y],argTypes:=ats},ty,pos,af,g⟩).run P w= .ok (.enter f #[A.eval x,A.eval y]) w:=by
    have hn1:¬fn.name= "runtime.NumGoroutine" :=by simpa using hname
    have hn2:¬fn.body=none:=by intro e;simp [e] at hbody
    simp [execOp,resolve,Act.eval,Deferred.ofValue,invoke,callFunc,hf,hn1,hn2]
  rw [hrun];refine ⟨by simp [fen,Fence.wide],?_⟩;show CallsIn Fence.wide 0 P f _ w _;refine callsIn_wide.2 (hcl.mono ?_)
  rintro e' w' ⟨v,I',ρ',rfl,hchg,hsame,hsub,hnew,hfrag',hret,hown',hkeep⟩
  have hlk:look Blk.none [(k0,Blk.win e size 0 cells')] k0= .win e size 0 cells':=by rw [k4,if_pos rfl]
  have hk0:=hkeep k0 (by simp) (by rw [hlk];simp)
  have hok0:=hfrag'.ok k0;rw [hlk] at hok0;obtain ⟨A2,n2,c2,ys,hρ2,_,_,hl2,hr2,h12,hA2⟩:=hok0;rw [hk0] at hρ2;have hρ2:A.eval x= .slice A2 n2 c2:=hρ2;rw [hvx] at hρ2;cases hρ2;rcases hA2 with ⟨hx2,_⟩ | ⟨b2,off2,arr2,hx2,_,hh2,hfit2,hc2,_⟩
  · cases hx2
  cases hx2;have hys:ys.length=n*size:=by rw [hr2.1];exact hl2
  have hout:∀j,(j < off∨off+n*size≤j)→arr2[j]? =cur[j]?:=fun j hj=>by
    have:=(hsame gb0 j (.inr ⟨rfl,hj⟩)).cell;rw [cell_of_row w' gb0 j arr2 e (0,0) hh2,cell_of_row w gb0 j cur e (0,0) hh] at this;exact this
  have hsz:arr2.size=cur.size:=by
    have h1':arr2[cur.size]? =none:=by rw [hout cur.size (.inr (by omega))];simp
    have h2':arr2.size≤cur.size:=by
      by_cases hlt:cur.size < arr2.size
      · rw [Array.getElem?_eq_getElem hlt] at h1';cases h1'
      · omega
    by_cases hlt:off+n*size < cur.size
    · have:=hout (cur.size - 1) (.inr (by omega))
      rw [Array.getElem?_eq_getElem (by omega:cur.size - 1 < cur.size)] at this;have:=(Array.getElem?_eq_some_iff.1 this).1;omega
    · omega
  have harr:arr2.toList=cur.toList.take off++ys++cur.toList.drop (off+n*size):=by
    apply List.ext_getElem?;intro j;by_cases h1':j < off
    · rw [List.append_assoc,List.getElem?_append_left (by simp;omega),List.getElem?_take,if_pos h1']
      have:=hout j (.inl h1');simpa using this
    · by_cases h2':j < off+n*size
      · have hjl:(cur.toList.take off).length=off:=by simp;omega
        rw [List.append_assoc,List.getElem?_append_right (by omega),List.getElem?_append_left (by omega),hjl];have hy':ys[j - off]? =some ys[j - off]:=List.getElem?_eq_getElem (by omega);have:=hc2 (j - off) _ hy';rw [hy',show off+(j - off)=j by omega] at*;simpa using this
      · have hjl:(cur.toList.take off++ys).length=off+n*size:=by simp;omega
        rw [List.getElem?_append_right (by omega),hjl,List.getElem?_drop,show off+n*size+(j - (off+n*size))=j by omega];have:=hout j (.inr (by omega));simpa using this
  have hsame':Same I w w':=fun b j h=>hsame b j (.inl h);have hgr:w.grownBy w' (some gb0):=⟨hchg.os,hchg.tape,hchg.output,hchg.size,fun k hk hne'=>hchg.block k hk (by
    rintro ⟨i,_,hi⟩
    have hi:blockOf (A.eval x)=some k:=hi;rw [hvx] at hi;exact hne' (by simpa [blockOf] using hi.symm))⟩
  have hxs':xs.take off++ys++xs.drop (off+n*size)=arr2.toList.take (n0*size):=by
    rw [harr,←htk];have hL:off+n*size≤n0*size:=by rw [←hl];exact hfit
    exact (zTK hys hL (by simp;rw [hcs];exact Nat.mul_le_mul_right _ hnc)).symm
  have hrs:Reps w' I (xs.take off++ys++xs.drop (off+n*size)) (L.take off++cells'++L.drop (off+n*size)):=
    ((Reps.mono (hr.take off) hsame' fun _ _ h=>h).append (yE6 hr2 hv)).append (Reps.mono (hr.drop _) hsame' fun _ _ h=>h)
  have hmod:=hs.modify (id:=id) (x:= .row e size false (L.take off++cells'++L.drop (off+n*size))) hgr hne (by rw [hn'];rfl) hsame' ⟨⟨hp,hM⟩,n0,xs.take off++ys++xs.drop (off+n*size),by simp;omega,⟨by simp;omega,.inr ⟨gb0,cap,arr2,hn',hB,hh2,hnc,hcm,by rw [hsz];exact hcs,hxs'.symm⟩⟩,by
      intro u hu;simp only [List.mem_append] at hu;rcases hu with (hu | hu) | hu
      · exact h1 u (List.mem_of_mem_take hu)
      · exact h12 u hu
      · exact h1 u (List.mem_of_mem_drop hu),hrs,by
      intro g' j hg' hi;rw [hn'] at hg';simp [Value.ownBlock] at hg';subst hg';exact absurd hi (hInot j)⟩ hE
  refine hk _ _ ⟨I,ρ,C,hmod.put hn ?_⟩;obtain ⟨zs,hz,hz2⟩:=hret;exact ⟨zs,hz,List.eq_nil_of_length_eq_zero hz2.1▸Pw.nil⟩
end
end Go.AV
namespace Go.M
def zLF {α:Type} (f:List α→Option (List α)) (l:List α) (a b:Int):Option (List α):=
 if 0≤a∧a < b∧b.toNat≤l.length then (f ((l.drop a.toNat).take (b.toNat - a.toNat))).map fun m=>l.take a.toNat++m++l.drop b.toNat else none
end Go.M
namespace Go.AV
open Go.RowKit Go.M
section
variable {P:Program} {r:Option Nat} {E:Env} {S:AState} {d ty:Nat} {pos:String} {af:Array Edge} {g:Option (Nat×Bool)}
theorem yM7 (l:List Int):∀x∈eI.all l,∃u,x= .v u:=by intro x hx;obtain ⟨n,_,hn⟩:=List.mem_flatMap.1 hx;have hn:x∈[di n]:=hn;simp at hn;exact ⟨_,hn⟩
theorem yJE {α:Type} {en:En α} {f e id k0:Nat} {x y:Operand} {ats:Array TypeId} {l l':List α} {a b:Int} {fv:DV} {mf:List α→Option (List α)} (hn:d < E.n) (hx:S.ev x= .rs id (a.toNat*en.size) (b.toNat - a.toNat)) (hy:S.ev y= .d fv) (hb:S.blk id= .row e en.size false (en.all l))
    (hs:zLF mf l a b=some l') (hv:∀(m:List α),∀x∈en.all m,∃u,x= .v u) (hc:∀m m',mf m=some m'→GC P f [.row k0,.d fv] [(k0,.win e en.size 0 (en.all m))] [k0] [] [(k0,.win e en.size 0 (en.all m'))]) (hE:E.wrB=true) (hG:E.gdt=u0 P:=by rfl):
    jD P r E ⟨some d,.call {callee:= .value (.func f),args:= #[x,y],argTypes:=ats},ty,pos,af,g⟩ S ((S.setBlk id (.row e en.size false (en.all l'))).put d (.tupc [])):=by
  unfold zLF at hs;split at hs
  · rename_i hab
    obtain ⟨m',hm,rfl⟩:=Option.map_eq_some_iff.1 hs;have h1:=hc _ _ hm;have e0:en.all ((l.drop a.toNat).take (b.toNat - a.toNat))=((en.all l).drop (a.toNat*en.size)).take ((b.toNat - a.toNat)*en.size):=by rw [zGV,zDP]
    rw [e0] at h1;have hle:a.toNat*en.size+(b.toNat - a.toNat)*en.size=b.toNat*en.size:=by rw [←Nat.add_mul];congr 1;omega
    have h2:=yJD (P:=P) (r:=r) (E:=E) (S:=S) (d:=d) (ty:=ty) (pos:=pos) (af:=af) (g:=g) (ats:=ats) hn hx hy hb (by omega) (by rw [hle,jK];exact Nat.mul_le_mul_right _ hab.2.2) (hv m') h1 hE hG
    have e1:en.all (l.take a.toNat++m'++l.drop b.toNat)=(en.all l).take (a.toNat*en.size)++en.all m'++(en.all l).drop (a.toNat*en.size+(b.toNat - a.toNat)*en.size):=by
      rw [hle,zGV,zDP];simp [En.all,List.flatMap_append]
    rw [e1];exact h2
  · cases hs
theorem z0Z {α:Type} {en:En α} {t e bytes:Nat} {z:Value} {x lo hi:Operand} {id:Nat} {sh:Bool} {l:List α} {k1 k2:IntKind} {a b:Int} (hn:d < E.n) (hT:SlTy P t e en.size bytes z) (hx:S.ev x= .row id) (hb:S.blk id= .row e en.size sh (en.all l)) (hlo:S.ev lo= .d (.v (.int k1 a))) (hhi:S.ev hi= .d (.v (.int k2 b)))
  (h0:0≤a) (h1:a < b) (h2:b.toNat≤l.length):AOp P r E S ⟨some d,.slice t x (some lo) (some hi) none,ty,pos,af,g⟩ d (.rs id (a.toNat*en.size) (b.toNat - a.toNat)):=
 zZ9 hn hT hx hb (jK en l) (lo:=some lo) (hi:=some hi) (l:=a.toNat) (h:=b.toNat) ⟨⟨k1,a,hlo,by omega⟩,⟨k2,b,hhi,by omega⟩,by omega,h2⟩
end
end Go.AV
namespace Go.M
def zAL {α β:Type} (f:List α→Option (List α)) (lo hi: β→Int) (l:List α) (items:List β):Option (List α):=items.foldl (fun o x=>o.bind fun l=>zLF f l (lo x) (hi x)) (some l)
theorem zNT {α β:Type} (f:List α→Option (List α)) (lo hi: β→Int):∀items:List β,items.foldl (fun (o:Option (List α)) x=>o.bind fun l=>zLF f l (lo x) (hi x)) none=none
 | []=>rfl
 | _::r=>zNT f lo hi r
noncomputable def outK {α β:Type} (f:List α→Option (List α)) (lo hi: β→Int) (l:List α) (items:List β) (k:Nat):List α:=(zAL f lo hi l (items.take k)).getD []
theorem z8D {α β:Type} {f:List α→Option (List α)} {lo hi: β→Int} {l r:List α} {items:List β} (h:zAL f lo hi l items=some r) {k:Nat} {v: β} (hv:items[k]? =some v):zLF f (outK f lo hi l items k) (lo v) (hi v)=some (outK f lo hi l items (k+1)):=by
 have hk:=(List.getElem?_eq_some_iff.1 hv).1;have e:zAL f lo hi l (items.take (k+1))=(zAL f lo hi l (items.take k)).bind fun l=>zLF f l (lo v) (hi v):=by
  unfold zAL;rw [List.take_add_one,hv,List.foldl_append];rfl
 have hs:∃x,zAL f lo hi l (items.take (k+1))=some x:=by
  cases hx:zAL f lo hi l (items.take (k+1)) with
  | some x=>exact ⟨x,rfl⟩
  | none=>
   exfalso;have h2:=h;rw [←List.take_append_drop (k+1) items] at h2;unfold zAL at h2 hx;rw [List.foldl_append,hx,zNT] at h2;cases h2
 obtain ⟨x,hx⟩:=hs;rw [hx] at e;unfold outK;rw [hx];cases hp:zAL f lo hi l (items.take k) with
 | none=>rw [hp] at e;cases e
 | some y=>rw [hp] at e;exact e.symm
theorem yBA {α β:Type} {f:List α→Option (List α)} {lo hi: β→Int} {l r:List α} {items:List β} (h:zAL f lo hi l items=some r):outK f lo hi l items items.length=r:=by unfold outK;rw [List.take_length,h];rfl
theorem yBB {α:Type} {f:List α→Option (List α)} {l l':List α} {a b:Int} (h:zLF f l a b=some l'):0≤a∧a < b∧b.toNat≤l.length:=by unfold zLF at h;split at h;assumption;cases h
end Go.M
namespace Go.AV
open Go.RowKit Go.M
section
variable {P:Program} {r:Option Nat} {E:Env} {S:AState} {d:Nat} {ty:TypeId} {pos:String} {af:Array Edge} {g:Option (Nat×Bool)}
theorem NilL.app:∀{as bs cs ds:List DV},NilL as bs→NilL cs ds→NilL (as++cs) (bs++ds)
 | [],[],_,_,_,h=>h
 | [],_::_,_,_,h,_=>h.elim
 | _::_,[],_,_,h,_=>h.elim
 | _::_,_::_,_,_,h,k=>⟨h.1,NilL.app h.2 k⟩
theorem NilL.len:∀{as bs:List DV},NilL as bs→as.length=bs.length
 | [],[],_=>rfl
 | [],_::_,h=>h.elim
 | _::_,[],h=>h.elim
 | _::_,_::_,h=>by simp [NilL.len h.2]
theorem zNU {id e size:Nat} {as bs:List DV} (hb:S.blk id= .row e size false as) (hn:NilL as bs):zFB E S (S.setBlk id (.row e size false bs)):=by
 rintro a w ⟨I,ρ,C,h⟩
 have hk:=h.blks id;rw [hb] at hk;obtain ⟨hp,n,xs,hl,hown,h1,hr,hI⟩:=hk;have hne:S.blk id≠ .none:=by rw [hb];simp
 have key:∀i,(S.setBlk id (.row e size false bs)).blk i≠ .none→S.blk i≠ .none:=by
  intro i hi;rw [yA] at hi;by_cases e':id=i;subst e';exact hne;simpa [e'] using hi
 refine ⟨I,ρ,C,⟨h.tmps,fun i=>?_,fun i i' b hn hi hi'=>h.dist i i' b hn (key i hi) (key i' hi'),h.frame,h.sub,h.old,h.size,h.defers,h.cI,fun i b hi=>h.cB i b (key i hi),fun i v hv hi=>h.nm i v hv (key i hi)⟩⟩;rw [yA];by_cases e':id=i;subst e';simp only [if_true];exact ⟨hp,n,xs,by rw [←hn.len];exact hl,hown,h1,zOZ hn hr,by rw [←hn.len];exact hI⟩
 simp only [e',if_false];exact h.blks i
variable {α:Type} {en:En α} {l:List α} {t e bytes:Nat} {z:Value} {x:Operand}
theorem z5Y {n:Int} {zero: α} (hn:d < E.n) (hT:SlTy P t e en.size bytes z) (hx:S.ev x= .d (.v (.int .i64 n))) (ha:mkM zero n=some l) (hby2:bytes≤32768) (hnm:E.nm d=none):
    jD P r E ⟨some d,.makeSlice t x x,ty,pos,af,g⟩ S (((S.kill d).setBlk d (.row e en.size false (zI6 z l.length))).put d (.row d)):=by
  unfold mkM at ha;split at ha
  · rename_i hh
    cases ha;have h1:n=((n.toNat:Nat):Int):=by omega
    have h2:n.toNat*bytes≤140737488355328:=by
      have h1:n.toNat*bytes≤4294967296*bytes:=Nat.mul_le_mul_right _ hh.2;have h2:4294967296*bytes≤4294967296*32768:=Nat.mul_le_mul_left _ hby2;omega
    have:=zVX (P:=P) (r:=r) (ty:=ty) (pos:=pos) (af:=af) (g:=g) hn hT hx h1 h2 (by have:=hh.2;unfold LIM at this;unfold maxLen;omega) hnm
    rw [List.length_replicate];exact this
  · cases ha
theorem zWN {n:Int} {zero: α} (hz:NilL (z.cells.toList.map DV.v) (en.cells zero)) (ha:mkM zero n=some l):NilL (zI6 z l.length) (en.all l):=by
 unfold mkM at ha;split at ha;cases ha;rw [List.length_replicate]
 induction n.toNat with
 | zero=>trivial
 | succ k ih=>exact hz.app ih
 cases ha
end
end Go.AV
namespace Go.AV
open Go.M
theorem wc {E:Env} {S S':AState} (ht:Cov S S'.tmps:=by repeat (first | exact trivial | refine ⟨rfl,?_⟩)) (hb:zN2 S S'.blks:=by repeat (first | exact trivial | refine ⟨rfl,?_⟩)) (hgh:∀C w,E.fr S.ghost C w→E.fr S'.ghost C w:=by exact fun _ _ h=>h):zFB E S S':=yAE ht hb hgh
abbrev GdO (o:Oper) (ops:Array Oper) (S:AState) (E:Env) (j t d:Nat) (b q:Bool):Prop:=(o.guard,(ops[j]?).bind (·.dst),o.dst,S.get t,Nat.blt d E.n,Nat.blt t E.n)=(some (j,q),some t,some d,AV.d (.v (.bool b)),true,true)
section
variable {P:Program} {r:Option Nat} {E:Env} {S S':AState} {l:List Oper} {J:AState→Prop} {fuel i d j t:Nat} {listed:List Bool} {is:List Nat} {o:Oper} {x:AV} {b:Bool} {ops:Array Oper} {rest:List Oper}
theorem xa (ho:l[i]? =some o) (h:AOp P r E S o d x) (k:zHM P r E l J fuel (listed.set i true) (S.put d x)) (ks:AnyE P r E l J fuel listed S is) (hg:o.guard=none:=by rfl):AnyE P r E l J fuel listed S (i::is):=yHW ho hg h k ks
theorem xb (ho:l[i]? =some o) (h:jD P r E o S S') (k:zHM P r E l J fuel (listed.set i true) S') (ks:AnyE P r E l J fuel listed S is) (hg:o.guard=none:=by rfl):AnyE P r E l J fuel listed S (i::is):=yHV ho hg h k ks
theorem xc (ho:l[i]? =some o) (h:AOp P r E S o d x) (k:zHM P r E l J fuel (listed.set i true) (S.put d x)) (hg:o.guard=none:=by rfl):AnyE P r E l J fuel listed S [i]:=yHW ho hg h k z5X
theorem xd (ho:l[i]? =some o) (h:jD P r E o S S') (k:zHM P r E l J fuel (listed.set i true) S') (hg:o.guard=none:=by rfl):AnyE P r E l J fuel listed S [i]:=yHV ho hg h k z5X
theorem xn (is:List Nat) (h:AnyE P r E l J fuel listed S is) (hr:rdy l listed=is:=by kernel_rfl) (hne:is.isEmpty=false:=by rfl):zHM P r E l J (fuel+1) listed S:=yLL is hr hne h
theorem sqt (x:AV) (ha:GdO o ops S E j t d b true) (h:b=true→AOp P r E S o d x) (k:Sq P r E ops rest (S.put d (.cond (gd true b) x)) J):Sq P r E ops (o::rest) S J:=by injection ha with h1 ha;injection ha with h2 ha;injection ha with h3 ha;injection ha with h4 ha;injection ha with h5 h6;exact yLA h1 h2 h3 (lq h5) (lq h6) h4 h k
theorem sqf (x:AV) (ha:GdO o ops S E j t d b false) (h:b=false→AOp P r E S o d x) (k:Sq P r E ops rest (S.put d (.cond (gd false b) x)) J):Sq P r E ops (o::rest) S J:=by injection ha with h1 ha;injection ha with h2 ha;injection ha with h3 ha;injection ha with h4 ha;injection ha with h5 h6;exact yLA h1 h2 h3 (lq h5) (lq h6) h4 (fun hb=>h (gF hb)) k
theorem dat (x:AV) (ha:GdO o ops S E j t d b true) (h:b=true→AOp P r E S o d x) (k:DA P r E ops rest (S.put d (.cond (gd true b) x)) J):DA P r E ops (o::rest) S J:=by injection ha with h1 ha;injection ha with h2 ha;injection ha with h3 ha;injection ha with h4 ha;injection ha with h5 h6;exact yLB h1 h2 h3 (lq h5) (lq h6) h4 h k
theorem daf (x:AV) (ha:GdO o ops S E j t d b false) (h:b=false→AOp P r E S o d x) (k:DA P r E ops rest (S.put d (.cond (gd false b) x)) J):DA P r E ops (o::rest) S J:=by injection ha with h1 ha;injection ha with h2 ha;injection ha with h3 ha;injection ha with h4 ha;injection ha with h5 h6;exact yLB h1 h2 h3 (lq h5) (lq h6) h4 (fun hb=>h (gF hb)) k
theorem z3 {c:Operand} {y z:Code} {K:Exit→AState→Prop} {α:Type} {A B:Option α} {q:Option α} (h:cond b A B=q) (k1:A=q→Avc P r E y K S) (k2:B=q→Avc P r E z K S) (hc:S.ev c= .d (.v (.bool b)):=by rfl):Avc P r E (.cond c y z) K S:=
 zL3 hc ⟨fun e=>k1 (cT e h),fun e=>k2 (cF e h)⟩
end
section
variable {P:Program} {r:Option Nat} {E:Env} {S S':AState} {l:List Oper} {J:AState→Prop} {fuel d:Nat} {listed:List Bool} {x:Operand} {ty:TypeId} {pos:String} {af:Array Edge}
theorem xm (i:Nat) (k:zHM P r E l J fuel (listed.set i true) (S.put d (S.ev x))) (hi:l[i]? =some ⟨some d,.move x,ty,pos,af,none⟩:=by rfl) (hn:d < E.n:=by exact lq rfl) (hr:r=none:=by rfl) (hsel:zWL l=true:=by rfl) (hap:z8C l listed i ⟨some d,.move x,ty,pos,af,none⟩=true:=by rfl) (hrd:(rdy l listed).contains i=true:=by rfl):zHM P r E l J (fuel+1) listed S:=yA7 hi hn hr hsel hap hrd k
end
theorem fx {F G:Prop} (f:F) (h:F→G:=by first | exact fun f=>OneTy.of f rfl (by kernel_rfl) | exact fun f=>AggTy.of f rfl (by kernel_rfl) | exact fun f=>FldTy.of f rfl (by kernel_rfl) (by decide) | exact fun f=>SlTy.of f (by kernel_rfl) rfl (by decide) rfl | exact fun f=>StTy.of f (by kernel_rfl) (by kernel_rfl) rfl):G:=h f
theorem co {F H G:Prop} (f:F) (k:H) (h:F→H→G:=by exact fun f k=>zZT f (by kernel_rfl) rfl (lq rfl) (lq rfl) k):G:=h f k
theorem ae {E:Env} {P:Program} {r:Option Nat} {l:List Oper} {fuel:Nat} {listed:List Bool} {S S2:AState} {e:Exit} (hr:rdy l listed= []:=by rfl) (h:zFB E S S2:=by exact wc):zHM P r E l (outK E e S2 e) fuel listed S:=yE5 hr (zI h)
theorem tl {E:Env} {P:Program} {r:Option Nat} {S:AState} {K:Exit→AState→Prop} {c:Code} (e:Exit) (S2:AState) (h1:Avc P r E c (outK E e S2) S) (h2:K e S2):Avc P r E c K S:=zTA h1 h2
theorem oi {α:Type} {a b: α} (h:some a=some b):a=b:=Option.some.inj h
end Go.AV
namespace Go.AV
open Go.RowKit Go.M
def pnd (a:Act) (vs:Nat→Value):List (Nat×Nat)→Act
 | []=>a
 | u::U=>(pnd a vs U).put (some u.2) (vs u.2)
def unf (listed:List Bool) (U:List (Nat×Nat)):List Bool:=(List.range listed.length).map fun k=>listed.getD k true&& !U.any fun u=>u.1==k
section
variable {P:Program} {r:Option Nat} {E:Env} {l:List Oper} {J:AState→Prop} {S:AState}
def FlS (P:Program) (r:Option Nat) (E:Env) (l:List Oper) (S:AState) (u:Nat×Nat):Prop:= ∃o,l[u.1]? =some o∧o.guard=none∧u.2∉o.looksAt l.toArray∧AOp P r E S o u.2 (S.get u.2)
def yLM (P:Program) (r:Option Nat) (E:Env) (l:List Oper) (J:AState→Prop) (fl:List (Nat×Nat)) (fuel:Nat) (listed:List Bool) (S:AState):Prop:=
 ∀(U:List (Nat×Nat)),U.Nodup→(∀u∈U,u∈fl)→∀(vs:Nat→Value) (a:Act) (w:World),Sat E S (pnd a vs U) w→wpAnyIn (fen r) 0 P .any l.toArray (QJ E J) (fuel+U.length) (unf listed U).toArray a w
end
end Go.AV
namespace Go.AV
open Go.RowKit Go.M
section
variable {P:Program} {r:Option Nat} {E:Env} {l:List Oper} {J:AState→Prop} {S:AState} {fl:List (Nat×Nat)} {listed:List Bool} {fuel:Nat}
def FlA (P:Program) (r:Option Nat) (E:Env) (l:List Oper) (S:AState):List (Nat×Nat)→Prop
 | []=>True
 | u::fl=>FlS P r E l S u∧FlA P r E l S fl
theorem FlA.mem:∀{fl:List (Nat×Nat)},FlA P r E l S fl→∀u∈fl,FlS P r E l S u
 | [],_,u,h=>by cases h
 | v::fl,h,u,hu=>by
  rcases List.mem_cons.1 hu with e | hu;rw [e];exact h.1;exact h.2.mem u hu
def AnyG (P:Program) (r:Option Nat) (E:Env) (l:List Oper) (J:AState→Prop) (fl:List (Nat×Nat)) (fuel:Nat) (listed:List Bool) (S:AState):List Nat→Prop
 | []=>True
 | i::is=>(∃o S',l[i]? =some o∧o.guard=none∧jD P r E o S S'∧yLM P r E l J fl fuel (listed.set i true) S')∧AnyG P r E l J fl fuel listed S is
theorem AnyG.mem:∀{is:List Nat} {i:Nat},AnyG P r E l J fl fuel listed S is→i∈is→∃o S',l[i]? =some o∧o.guard=none∧jD P r E o S S'∧yLM P r E l J fl fuel (listed.set i true) S'
 | [],_,_,h=>by cases h
 | k::is,i,h,hi=>by
  rcases List.mem_cons.1 hi with e | hi;subst e;exact h.1;exact AnyG.mem h.2 hi
end
end Go.AV
namespace Go.M
end Go.M
namespace Go.AV
open Go.RowKit Go.M
section
variable {P:Program} {r:Option Nat} {E:Env} {S:AState} {d:Nat} {ty:TypeId} {pos:String} {af:Array Edge} {g:Option (Nat×Bool)}
theorem z3X {α:Type} {en:En α} {l l':List α} {t e:TypeId} {n:Nat} {zs:List Value} {x hi:Operand} {k2:IntKind} {b:Int} (hn:d < E.n) (hT:ArTy P t n en.size e zs) (hln:l.length=n) (hp:0 < n) (hx:S.ev x= .d (.pt (en.all l))) (hhi:S.ev hi= .d (.v (.int k2 b))) (h:slc l 0 b=some l'):
    AOp P r E S ⟨some d,.slice t x none (some hi) none,ty,pos,af,g⟩ d (.d (zP en l')):=
  ⟨rfl,hn,fun S' ha=>z2 rfl hn (by simp) fun A w I ρ C hs=>by
    obtain ⟨rfl,h0,h1,h2⟩:=zC2 h;have h3:=hs.ev x;rw [(ha.ev (x:=x) (by simp [Op.operands])).trans hx] at h3;have h4:=hs.val ((ha.ev (x:=hi) (by simp [Op.operands])).trans hhi);have hbn:b=(b.toNat:Int):=by omega
    generalize b.toNat=k at*;subst hbn;generalize hv:A.eval x=v at h3;cases h3 with
    | pt bb off xs _ hx2 hc h1x hr=>
      have hlen:=jK en l;have hb2:(Instr.sliceBounds false n n none (some (.int k2 k)) none).run P w= .ok (0,k,n) w:=by
        simp [Instr.sliceBounds,xF (P:=P) w k2 k n _ (by omega)]
      rw [hln] at hlen;have hR:Rep w I (.slice (some ⟨bb,off,none⟩) n n) (.sl en.size (en.all l)):= .sl bb off n n en.size xs _ hp (Nat.le_refl _) hlen hx2 hc h1x hr;have h5:=zV5 (l:=0) (h:=k) hR hlen hT.pos (Nat.zero_le _) (by omega);rw [if_neg (by omega)] at h5;have hnz:n≠0:=by omega
      simp only [Option.map_some,uI,Nat.zero_mul,Nat.add_zero,Nat.sub_zero,List.drop_zero] at h5;refine ⟨.slice (some ⟨bb,off,none⟩) k n,?_,?_⟩
      · simp only [execOp,Instr.sliceAt,Sem.run_bind,run_underlying hT.und,Result.andThen_ok,hv,Option.map_some,Option.map_none,h4,Instr.sureAddr,Sem.run_pure,hb2,hT.size,hnz.symm,hnz,if_false,uI,Nat.zero_mul,Nat.add_zero,Nat.sub_zero]
      · rw [zDP] at h5
        exact h5⟩
theorem zWO {β:Type} {en:En β} {l:List β} {t e:TypeId} {n off:Nat} {zs:List Value} {cells:List DV} {x ix:Operand} {kk:IntKind} {i:Int} {v: β} (hn:d < E.n) (hT:ArTy P t n en.size e zs) (hln:l.length=n) (hx:S.ev x= .ip cells off) (hi:S.ev ix= .d (.v (.int kk i))) (hv:z7 l i=some v):
  AOp P r E S ⟨some d,.indexAddr t x ix,ty,pos,af,g⟩ d (.ip cells (off+i.toNat*en.size)):=
 ⟨rfl,hn,fun S' ha=>z2 rfl hn (by simp) fun A w I ρ C hs=>by
  have h:=hs.ev x;rw [(ha.ev (by simp [Op.operands])).trans hx] at h;have h2:=hs.ev ix;rw [(ha.ev (by simp [Op.operands])).trans hi] at h2;have h2':=zTG h2;obtain ⟨b,o',xs,hv',hr,h1,hcc⟩:=h;have hk:=(xW hv).2.2.1;rw [(xW hv).2.1] at h2';rw [hln] at hk;refine ⟨.pointer (some ⟨b,o'+(off+i.toNat*en.size),none⟩),?_,b,o',xs,rfl,hr,h1,hcc⟩;simp only [execOp,hv',h2',Sem.run_bind,zKZ hT hk kk w b (o'+off),Nat.add_assoc];rfl⟩
theorem z00 {α β:Type} {en:En α} {en2:En β} {ls:List α} {l:List β} {t:TypeId} {x:Operand} {i j:Int} {v: α} {u: β} (hn:d < E.n) (hT:OneTy P t) (hx:S.ev x= .ip (en.all ls) (i.toNat*en.size+j.toNat*en2.size)) (hv:z7 ls i=some v) (hu:z7 l j=some u)
  (hc:en.cells v=en2.all l) (h1:en2.cells u= [en2.dv u]):AOp P r E S ⟨some d,.load t x,ty,pos,af,g⟩ d (.d (en2.dv u)):=
 wC hn hT hx (by
  have hs1:en2.size=1:=by have:=zTB (en2.ok u);rw [show vW (en2.dv u)=en2.cells u from rfl,h1] at this;simpa using this.symm
  have hj:=(xW hu).2.2;have hlt:j.toNat*en2.size < en.size:=by
   have:=zTB (en.ok v);rw [show vW (en.dv v)=en.cells v from rfl,hc,jK] at this;rw [←this,hs1];omega
  rw [zMY en (xW hv).2.2.2 _ hlt,hc];have h3:=zMY en2 hj.2 0 (by omega);rw [Nat.add_zero] at h3;rw [h3,h1];rfl)
end
end Go.AV
namespace Go.AV
open Go.RowKit Go.M
section
variable {P:Program} {r:Option Nat} {E:Env} {S:AState} {d:Nat} {ty:TypeId} {pos:String} {af:Array Edge} {g:Option (Nat×Bool)}
theorem z8E {α:Type} {en:En α} {t e bytes:Nat} {z:Value} {m l':List α} {x s:Operand} {id:Nat} (hn:d < E.n) (hT:SlTy P t e en.size bytes z) (hs:S.ev s= .d (.v (.slice none 0 0))) (hev:((S.kill id).setBlk id (.row e en.size false [])).ev x= .d (zP en m)) (ha:app [] m=some l') (hby:0 < bytes) (hby2:bytes≤32768)
  (hE:E.wrB=true) (hnm:E.nm id=none):
  jD P r E ⟨some d,.call {callee:= .builtin .append,args:= #[s,x],argTypes:= #[t,t]},ty,pos,af,g⟩ S (((((S.kill id).setBlk id (.row e en.size false [])).kill id).setBlk id (.row e en.size false (en.all l'))).put d (.row id)):=
 uW (by simp) fun A w I ρ C h=>by
  obtain ⟨hl,hle⟩:=zOY ha;rw [show l'=m from hl];have h2:=h.update (World.grownBy.refl w none) (id:=id) (u:= .slice none 0 0) (x:= .row e en.size false []) (by simp) (kU I w) (by simp [blockOf])
   ⟨⟨hT.pos,by simp [upd,Value.ownBlock]⟩,0,[],by simp,by simp only [upd,if_true];exact World.ownsRow_nil w _ e en.size,by simp,Pw.nil,by simp [upd,Value.ownBlock]⟩ (.inl rfl) hnm
  have hbk:((S.kill id).setBlk id (.row e en.size false [])).blk id= .row e en.size false []:=by rw [yA,if_pos rfl]
  have hb:=zWG (bytes:=bytes) hby2 hle;have hml:0+m.length≤maxLen:=by unfold maxLen;unfold LIM at hle;simp at hle;omega
  obtain ⟨v,w',h3,h4⟩:=zVW (ty:=ty) (pos:=pos) (af:=af) (g:=g) (s:=s) (x:=x) hn hT hbk (news:=en.all m) (n:=0) (m:=m.length) (by rw [hev];rfl) (by simp) (jK en m) (by simpa using hb) hml hE hnm h2 (by rw [h.val hs];simp [upd])
  rw [hev] at h4;simp only [AState.shareAV,hbk,Blk.appended,List.nil_append] at h4;exact ⟨v,w',h3,h4⟩
end
end Go.AV
namespace Go.M
theorem yBC {α:Type} {a b:Int} {x y:Option α} {r: α} (h:cond (decide (a=b)) x y=some r):(a=b∧x=some r)∨y=some r:=by by_cases e:a=b;simp only [e,decide_true,cond_true] at h;exact .inl ⟨e,h⟩;simp only [e,decide_false,cond_false] at h;exact .inr h
end Go.M
namespace Go.M
theorem gT {α:Type} [Inhabited α] {m:Option α} {r: α} (h:gM true m=some r):m=some r:=h
end Go.M
namespace Go.AV
open Go.RowKit Go.M
end Go.AV
namespace Go.M
theorem yM8 {α:Type} {a b:Option α} {r: α} (h:cond true a b=some r):a=some r:=h
theorem yM9 {α:Type} {a b:Option α} {r: α} (h:cond false a b=some r):b=some r:=h
def wL (a b:List Int):List (Int×Int):=a.zip b
def goB (stop:Bool) (n k:Nat):Bool:=!(stop&&Nat.beq (k+1) n)
def zLP {A S:Type} (body:S→A→Option (Bool×S)):S→List A→Option (Nat×Bool×S)
 | s,[]=>some (0,true,s)
 | s,x::xs=>match body s x with
  | none=>none
  | some (false,s')=>some (1,false,s')
  | some (true,s')=>(zLP body s' xs).map fun r=>(r.1+1,r.2)
def zNJ {A S:Type} (body:S→A→Option (Bool×S)):Nat→S→List A→S
 | 0,s,_=>s
 | _+1,s,[]=>s
 | k+1,s,x::xs=>match body s x with
  | none=>s
  | some (_,s')=>zNJ body k s' xs
theorem zXX {A S:Type} {body:S→A→Option (Bool×S)}:∀{l:List A} {s s':S} {n:Nat} {b:Bool},zLP body s l=some (n,b,s')→n≤l.length
 | [],s,s',n,b,h=>by cases h;exact Nat.le_refl _
 | x::xs,s,s',n,b,h=>by
  simp only [zLP] at h;cases hb:body s x with
  | none=>rw [hb] at h;cases h
  | some p=>
   obtain ⟨g,s2⟩:=p;rw [hb] at h;cases g with
   | false=>cases h;simp
   | true=>
    simp only [Option.map_eq_some_iff,Prod.exists,Prod.mk.injEq] at h;obtain ⟨m,b2,s3,h1,rfl,rfl,rfl⟩:=h;have:=zXX h1;simp;omega
theorem z01 {A S:Type} {body:S→A→Option (Bool×S)}:∀{l:List A} {s s':S} {n:Nat} {b:Bool},zLP body s l=some (n,b,s')→
  ∀{k:Nat} {x:A},(l.take n)[k]? =some x→body (zNJ body k s l) x=some (goB (!b) (l.take n).length k,zNJ body (k+1) s l)
 | [],s,s',n,b,h,k,x,hx=>by simp at hx
 | y::xs,s,s',n,b,h,k,x,hx=>by
  have hle:=zXX h;simp only [zLP] at h;cases hb:body s y with
  | none=>rw [hb] at h;cases h
  | some p=>
   obtain ⟨g,s2⟩:=p;rw [hb] at h;cases g with
   | false=>
    cases h;cases k with
    | zero=>
     simp only [List.take_succ_cons,List.take_zero,List.getElem?_cons_zero,Option.some.injEq] at hx;subst hx;simp only [zNJ,hb];rfl
    | succ k=>simp at hx
   | true=>
    simp only [Option.map_eq_some_iff,Prod.exists,Prod.mk.injEq] at h;obtain ⟨m,b2,s3,h1,rfl,rfl,rfl⟩:=h;rw [List.take_succ_cons] at hx ⊢;cases k with
    | zero=>
     simp only [List.getElem?_cons_zero,Option.some.injEq] at hx;subst hx;have hg:goB (!b2) ((y::xs.take m).length) 0=true:=by
      unfold goB;cases b2 with
      | true=>rfl
      | false=>
       have hm:xs.take m≠[]:=fun e=>by
        cases xs with
        | nil=>simp only [zLP] at h1;cases h1
        | cons z zs=>
         have h2:=zXX h1;cases m with
         | zero=>
          simp only [zLP] at h1;cases hz:body s2 z with
          | none=>rw [hz] at h1;cases h1
          | some p=>
           obtain ⟨g,s4⟩:=p;rw [hz] at h1;cases g with
           | false=>cases h1
           | true=>
            simp only [Option.map_eq_some_iff,Prod.exists,Prod.mk.injEq] at h1;obtain ⟨_,_,_,_,e1,_⟩:=h1;omega
         | succ m=>simp at e
       cases hq:xs.take m with
       | nil=>exact absurd hq hm
       | cons _ _=>rfl
     simp only [zNJ,hb,hg]
    | succ k=>
     simp only [List.getElem?_cons_succ] at hx;have:=z01 h1 hx;simp only [zNJ,hb];rw [this];have:goB (!b2) (xs.take m).length k=goB (!b2) (y::xs.take m).length (k+1):=by
      unfold goB;rw [List.length_cons];congr 2
     rw [this]
theorem z50 {A S:Type} {body:S→A→Option (Bool×S)}:∀{l:List A} {s s':S} {n:Nat} {b:Bool},zLP body s l=some (n,b,s')→zNJ body n s l=s'
 | [],s,s',n,b,h=>by cases h;rfl
 | y::xs,s,s',n,b,h=>by
  simp only [zLP] at h;cases hb:body s y with
  | none=>rw [hb] at h;cases h
  | some p=>
   obtain ⟨g,s2⟩:=p;rw [hb] at h;cases g with
   | false=>cases h;simp only [zNJ,hb]
   | true=>
    simp only [Option.map_eq_some_iff,Prod.exists,Prod.mk.injEq] at h;obtain ⟨m,b2,s3,h1,rfl,rfl,rfl⟩:=h;simp only [zNJ,hb];exact z50 h1
theorem yE7 {A S:Type} {body:S→A→Option (Bool×S)} {l:List A} {s s':S} {n:Nat} (h:zLP body s l=some (n,false,s')):0 < (l.take n).length:=by
 cases l with
 | nil=>cases h
 | cons y xs=>
  cases n with
  | zero=>
   simp only [zLP] at h;cases hb:body s y with
   | none=>rw [hb] at h;cases h
   | some p=>
    obtain ⟨g,s2⟩:=p;rw [hb] at h;cases g with
    | false=>cases h
    | true=>
     simp only [Option.map_eq_some_iff,Prod.exists,Prod.mk.injEq] at h;obtain ⟨_,_,_,_,e1,_⟩:=h;omega
  | succ n=>simp
theorem zWP {A S B:Type} {body:S→A→Option (Bool×S)} (f:A→B) {l:List A} {s s':S} {n:Nat} {b:Bool} (h:zLP body s l=some (n,b,s')) {k:Nat} {x:A} (hx:(l.take n)[k]? =some x):
  body (zNJ body k s l) x=some (goB (!b) ((l.take n).map f).length k,zNJ body (k+1) s l):=by
 rw [List.length_map];exact z01 h hx
theorem z51 {A S B:Type} {body:S→A→Option (Bool×S)} {f:A→B} {l:List A} {s s':S} {n:Nat} {b:Bool} (h:zLP body s l=some (n,b,s')):zNJ body ((l.take n).map f).length s l=s':=by rw [List.length_map,List.length_take,Nat.min_eq_left (zXX h)];exact z50 h
theorem yE8 {A S B:Type} {body:S→A→Option (Bool×S)} {f:A→B} {l:List A} {s s':S} {n:Nat} (h:zLP body s l=some (n,false,s')):((l.take n).map f).isEmpty=false:=by
 have:=yE7 h;cases hq:l.take n with
 | nil=>rw [hq] at this;simp at this
 | cons _ _=>rfl
end Go.M
namespace Go.AV
open Go.RowKit Go.M
theorem yLN {Sg:Type} {out:Exit} {n k:Nat} {s s':Sg} {Tf:Sg→List (Nat×Blk)} {S:AState} (h:some (true,s)=some (goF out n k,s')) (hc:zN2 S (Tf s)):z3F out n k (Tf s') .normal S:=by
 cases h2:goF out n k with
 | false=>rw [h2] at h;cases h
 | true=>
  rw [h2] at h;cases h;unfold z3F;rw [h2];exact hc
theorem yNA {Sg:Type} {out:Exit} {n k:Nat} {s s':Sg} {Tf:Sg→List (Nat×Blk)} {S:AState} (h:some (false,s)=some (goF out n k,s')) (hc:zN2 S (Tf s)):z3F out n k (Tf s') out S:=by
 cases h2:goF out n k with
 | true=>rw [h2] at h;cases h
 | false=>
  rw [h2] at h;cases h;unfold z3F;rw [h2];exact ⟨rfl,hc⟩
theorem zP7 {P:Program} {S:AState} {a t id e:Nat} {x:DV} (h1:(S.get a).un= .ptr id 0) (h2:S.blk id= .box e [.d x]) (hT:OneTy P t):RetS P S [.cell a t] [x]:=
 ⟨_,_,id,e,_,rfl,h1,h2,.inl ⟨hT,_,rfl,rfl⟩,rfl⟩
theorem yNB {Sg:Type} {n k:Nat} {s s':Sg} (h:some (false,s)=some (goB (!true) n k,s')):False:=by cases h
end Go.AV
namespace Go.M
end Go.M
namespace Go.AV
open Go.RowKit Go.M
end Go.AV
namespace Go.AV
end Go.AV
namespace Go.M
open Go.AV
end Go.M
namespace Go.AV
end Go.AV
namespace Go.AV
open Go.RowKit Go.M
def wI (P:Program) (t:TypeId) {α:Type} (en:En α) (ok: α→Prop):Prop:=
 ∀(H:Type) (enc:TypeId×Value→H) (w:World) (base:Nat) (spare:Nat→Bool) (held:Bool) (fuel:Nat) (cs:List Value) (x:DataW H×List MemPlace),DataW.trod enc P w base spare held fuel t cs=some x→
  ∃a,ok a∧Reps w (zP2 w) cs (en.cells a)∧∀c∈cs,c.oneCell'=true
section
variable {P:Program} {t:TypeId}
theorem zX (ht:P.underlying t=some (.int .i64)):wI P t eI (fun n=> -9223372036854775808≤n∧n≤9223372036854775807):=by intro H enc w base spare held fuel cs x h;obtain ⟨n,rfl,_,hw⟩:=DataW.trod_int ht h;refine ⟨n,?_,Pw.cons (.v _) Pw.nil,by simp [Value.oneCell']⟩;simp only [Lit.wf,Bool.and_eq_true,decide_eq_true_eq] at hw;exact hw
theorem zCQ (ht:P.underlying t=some .bool):wI P t eB (fun _=>True):=by intro H enc w base spare held fuel cs x h;obtain ⟨b,rfl,_⟩:=DataW.trod_bool ht h;exact ⟨b,trivial,Pw.cons (.v _) Pw.nil,by simp [Value.oneCell']⟩
theorem zH8 (ht:P.underlying t=some .string):wI P t eS (fun s=>s.length≤9223372036854775807):=by
 intro H enc w base spare held fuel cs x h;obtain ⟨s,rfl,_,hs⟩:=DataW.trod_string ht h;refine ⟨s.data.toList,hs,Pw.cons ?_ Pw.nil,by simp [Value.oneCell']⟩;have:ds s.data.toList= .v (.string s):=by simp [ds]
 show Rep _ _ _ (ds s.data.toList);rw [this];exact .v _
theorem zMH {w:World} {I:Im} {α:Type} (en:En α):∀(css:List (List Value)) (l:List α),Pw (fun cs a=>Reps w I cs (en.cells a)) css l→Reps w I css.flatten (en.all l)
 | [],l,h=>by cases l with
  | nil=>exact Pw.nil
  | cons a l=>have:=h.1;simp at this
 | cs::css,l,h=>by cases l with
  | nil=>have:=h.1;simp at this
  | cons a l=>
   obtain ⟨h1,h2⟩:=zHW h;exact Pw.append h1 (zMH en css l h2)
theorem z02 {α β:Type} {R:Nat→α→β→Prop} (n:Nat) (h:∀i,i < n→∃a b,R i a b):∃(as:List α) (bs:List β),as.length=n∧bs.length=n∧∀i a b,as[i]? =some a→bs[i]? =some b→R i a b:=by
  induction n with
  | zero=>exact ⟨[],[],rfl,rfl,fun i a b h=>by simp at h⟩
  | succ n ih=>
    obtain ⟨as,bs,h1,h2,h3⟩:=ih fun i hi=>h i (by omega);obtain ⟨a,b,hab⟩:=h n (by omega);refine ⟨as++ [a],bs++ [b],by simp [h1],by simp [h2],fun i x y hx hy=>?_⟩;by_cases hi:i < n
    · rw [List.getElem?_append_left (by omega)] at hx hy;exact h3 i x y hx hy
    · have:i=n:=by
        have:=(List.getElem?_eq_some_iff.1 hx).1;simp [h1] at this;omega
      subst this;rw [List.getElem?_append_right (by omega),h1] at hx;rw [List.getElem?_append_right (by omega),h2] at hy;simp at hx hy;subst hx;subst hy;exact hab
theorem z03 {α:Type} {css:List (List α)} {n:Nat} (h:∀cs∈css,cs.length=n) {j:Nat} {x: α} (hj:css.flatten[j]? =some x):∃cs,css[j / n]? =some cs∧cs[j % n]? =some x∧0 < n:=by
 induction css generalizing j with
 | nil=>simp at hj
 | cons cs css ih=>
  have hl:=h cs (by simp);rw [List.flatten_cons] at hj;by_cases hlt:j < cs.length;rw [List.getElem?_append_left hlt] at hj;have hn:0 < n:=by omega
  refine ⟨cs,?_,?_,hn⟩;rw [Nat.div_eq_of_lt (by omega)];rfl;rw [Nat.mod_eq_of_lt (by omega)];exact hj;rw [List.getElem?_append_right (by omega)] at hj;obtain ⟨c2,h1,h2,hn⟩:=ih (fun c hc=>h c (by simp [hc])) hj;rw [hl] at h1 h2;have e:j=(j - n)+n:=by omega
  refine ⟨c2,?_,?_,hn⟩;rw [e,Nat.add_div_right _ hn];simpa using h1;rw [e,Nat.add_mod_right];exact h2
theorem yI {e:TypeId} {α:Type} {en:En α} {ok: α→Prop} (ht:P.underlying t=some (.slice e)) (hc:P.cellsOf e=en.size) (hp:0 < en.size) (he:wI P e en ok):
    wI P t (eL en) (fun l=>l.length≤9223372036854775807∧∀x∈l,ok x):=by
  intro H enc w base spare held fuel cs x h;rcases DataW.trod_slice ht h with ⟨rfl,_⟩ | ⟨a,len,cap,elems,rest,n,_,rfl,_,hb,hl,hm,hlen,hel,_,_⟩
  · exact ⟨[],⟨by simp,by simp⟩,Pw.cons (.nil _ _ _) Pw.nil,by simp [Value.oneCell']⟩
  · obtain ⟨css,l,h1,h2,h3⟩:=z02 (R:=fun i (cs':List Value) (y: α)=>ok y∧Reps w (zP2 w) cs' (en.cells y)∧(∀c∈cs',c.oneCell'=true)∧cs'.length=en.size∧∀j,j < en.size→w.cell? ((a.add (i*en.size)).add j)=cs'[j]?) len (fun i hi=>by
      have h1:=hel i hi;have h2:elems[i]? =some (elems[i]'(by omega)):=List.getElem?_eq_getElem (by omega);rw [h2,Option.bind_eq_some_iff] at h1;obtain ⟨cs',hcs,hy⟩:=h1;obtain ⟨y,q1,q2,q3⟩:=he _ _ _ _ _ _ _ _ _ hy;rw [hc] at hcs;obtain ⟨_,r1,r2⟩:=World.cells?_some hcs;exact ⟨cs',y,q1,q2,q3,r1,r2⟩)
    have hlens:∀cs∈css,cs.length=en.size:=fun cs hcs=>by
      obtain ⟨i,hi⟩:=List.getElem?_of_mem hcs;have hil:=(List.getElem?_eq_some_iff.1 hi).1;have:l[i]? =some (l[i]'(by omega)):=List.getElem?_eq_getElem (by omega);exact (h3 i cs _ hi this).2.2.2.1
    refine ⟨l,⟨by unfold maxLen at hm;omega,fun y hy=>?_⟩,Pw.cons ?_ Pw.nil,by simp [Value.oneCell']⟩
    · obtain ⟨i,hi⟩:=List.getElem?_of_mem hy
      have hil:=(List.getElem?_eq_some_iff.1 hi).1;have:css[i]? =some (css[i]'(by omega)):=List.getElem?_eq_getElem (by omega);exact (h3 i _ y this hi).1
    · show Rep w (zP2 w) _ (zP en l)
      by_cases h0:len=0
      · subst h0
        have:l= []:=List.eq_nil_of_length_eq_zero h2;subst this;exact .nil _ _ _
      · obtain ⟨b,off,spot⟩:=a
        have hcell0:∀(j:Nat) v,css.flatten[j]? =some v→∃i k,j=i*en.size+k∧k < en.size∧w.cell? (((⟨b,off,spot⟩:Addr).add (i*en.size)).add k)=some v:=by
          intro j v hj;obtain ⟨cs,q1,q2,_⟩:=z03 hlens hj;have hil:=(List.getElem?_eq_some_iff.1 q1).1;have hli:l[j / en.size]? =some (l[j / en.size]'(by omega)):=List.getElem?_eq_getElem (by omega);have:=(h3 _ cs _ q1 hli).2.2.2.2 (j % en.size) (Nat.mod_lt _ hp);exact ⟨j / en.size,j % en.size,(Nat.div_add_mod' j en.size).symm,Nat.mod_lt _ hp,by rw [this];exact q2⟩
        have hspot:spot=none:=by
          have hne:css.flatten≠[]:=by
            intro e;have:=congrArg List.length e;cases css with
            | nil=>simp at h1;omega
            | cons c css=>
              have:=hlens c (by simp);simp at e;have:=e.1;rw [this] at*
              simp_all
          obtain ⟨v,hv⟩:∃v,css.flatten[0]? =some v:=by
            cases hf:css.flatten with
            | nil=>exact absurd hf hne
            | cons v _=>exact ⟨v,rfl⟩
          obtain ⟨i,k,hik,hk,hcell⟩:=hcell0 0 v hv;have hi0:i*en.size=0:=by omega
          have hk0:k=0:=by omega
          rw [hi0,hk0] at hcell;simp only [Addr.add,if_true,World.cell?] at hcell;cases spot with
          | none=>rfl
          | some s=>cases hb:w.heap[b]? with
            | none=>simp [hb] at hcell
            | some o=>cases o <;> simp [hb] at hcell
        subst hspot;have hreps:=zMH (w:=w) (I:=zP2 w) en css l ⟨by omega,fun j cs y hcs hy=>(h3 j cs y hcs hy).2.1⟩;refine .sl b off len cap en.size css.flatten (en.all l) (by omega) hl (by rw [jK,h2]) hreps.1 (fun j v hj=>?_) (fun v hv=>?_) hreps.2
        · obtain ⟨i,k,hik,hk,hcell⟩:=hcell0 j v hj
          rw [uI,uI] at hcell;have e2:off+i*en.size+k=off+j:=by omega
          rw [e2] at hcell;refine ⟨hcell,?_⟩;show b < w.heap.size;unfold World.cell? at hcell;cases hb:w.heap[b]? with
          | none=>simp [hb] at hcell
          | some o=>exact (Array.getElem?_eq_some_iff.1 hb).1
        · obtain ⟨cs,hcs,hv'⟩:=List.mem_flatten.1 hv
          obtain ⟨i,hi⟩:=List.getElem?_of_mem hcs;have hil:=(List.getElem?_eq_some_iff.1 hi).1;have:l[i]? =some (l[i]'(by omega)):=List.getElem?_eq_getElem (by omega);exact (h3 i cs _ hi this).2.2.1 v hv'
theorem zK {fs:Array Field} {H:Type} {enc:TypeId×Value→H} {w:World} {base:Nat} {spare:Nat→Bool} {held:Bool} {fuel:Nat} {cs:List Value} {x:DataW H×List MemPlace} (ht:P.underlying t=some (.struct fs))
  (h:DataW.trod enc P w base spare held fuel t cs=some x) {k:Nat} {α:Type} {en:En α} {ok: α→Prop} {ft:TypeId} {off:Nat} (hf:(fs[k]?).map (fun f=>(f.offset,f.type))=some (off,ft)) (hc:P.cellsOf ft=en.size) (he:wI P ft en ok):
  ∃a,ok a∧Reps w (zP2 w) ((cs.drop off).take en.size) (en.cells a)∧∀c∈(cs.drop off).take en.size,c.oneCell'=true:=by
 obtain ⟨xs,n,_,_,hl,hxl,hel⟩:=DataW.trod_struct ht h;cases hk:fs[k]? with
 | none=>simp [hk] at hf
 | some f=>
  simp [hk] at hf;obtain ⟨rfl,rfl⟩:=hf;have h1:=hel k f hk;have hlt:k < xs.length:=by rw [hxl];exact (Array.getElem?_eq_some_iff.1 hk).1
  rw [List.getElem?_eq_getElem hlt,hc] at h1;exact he _ _ _ _ _ _ _ _ _ h1
theorem yO {fs:Array Field} {H:Type} {enc:TypeId×Value→H} {w:World} {base:Nat} {spare:Nat→Bool} {held:Bool} {fuel:Nat} {cs:List Value} {x:DataW H×List MemPlace} (ht:P.underlying t=some (.struct fs))
  (h:DataW.trod enc P w base spare held fuel t cs=some x):cs.length=P.cellsOf t:=by
 obtain ⟨xs,n,_,_,hl,_⟩:=DataW.trod_struct ht h;exact hl
theorem kH {w:World} {I:Im} {cs:List Value} {off:Nat} (h:cs.length=off):Reps w I (cs.drop off) []∧∀c∈cs.drop off,c.oneCell'=true:=by rw [List.drop_eq_nil_of_le (by omega)];exact ⟨Pw.nil,by simp⟩
theorem zH {w:World} {I:Im} {cs:List Value} {off n:Nat} {d1 d2:List DV} (h1:Reps w I ((cs.drop off).take n) d1) (o1:∀c∈(cs.drop off).take n,c.oneCell'=true) (h2:Reps w I (cs.drop (off+n)) d2∧∀c∈cs.drop (off+n),c.oneCell'=true):Reps w I (cs.drop off) (d1++d2)∧∀c∈cs.drop off,c.oneCell'=true:=by
 have e:cs.drop off=(cs.drop off).take n++cs.drop (off+n):=by rw [←List.drop_drop,List.take_append_drop]
 rw [e];exact ⟨Pw.append h1 h2.1,fun c hc=>by rcases List.mem_append.1 hc with h | h;exact o1 c h;exact h2.2 c h⟩
theorem zJC {H:Type} {enc:TypeId×Value→H} {w:World} {base:Nat} {spare:Nat→Bool} {held:Bool} {v:Value} {x:DataW H} {ps:List MemPlace} {α:Type} {en:En α} {ok: α→Prop} (he:wI P t en ok) (h:DataW.Trod enc P w base spare held t v x ps)
    (hv:(v.cells= #[v]∧en.size=1∧(∀a,vW (en.dv a)= [en.dv a]))∨(∃cs,v= .agg cs∧∀a,∃es,en.dv a= .agg es)):∃a,ok a∧Rep w (zP2 w) v (en.dv a):=by
  obtain ⟨fuel,hf⟩:=h;obtain ⟨a,h1,h2,h3⟩:=he _ _ _ _ _ _ _ _ _ hf;refine ⟨a,h1,?_⟩;rcases hv with ⟨e1,e2,e3⟩ | ⟨cs,rfl,e⟩
  · rw [e1] at h2
    simp only [En.cells,e3] at h2;exact h2.2 0 v (en.dv a) rfl rfl
  · obtain ⟨es,he'⟩:=e a
    simp only [En.cells,he',vW,Value.cells] at h2 h3;rw [he'];have:=Rep.agg (w:=w) (I:=zP2 w) cs.toList es h2.1 h3 h2.2
    rwa [Array.toArray_toList] at this
end
end Go.AV


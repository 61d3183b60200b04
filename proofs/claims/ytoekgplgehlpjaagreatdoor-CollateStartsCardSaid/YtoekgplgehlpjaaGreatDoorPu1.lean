/- What the plain counterparts answer. Conditions: none. -/
import Derived.Test.YtoekgplgehlpjaaGreatDoorMir
set_option linter.unusedSimpArgs false
set_option linter.unusedVariables false
set_option linter.unnecessarySimpa false
namespace Go.M
open Go.AV
theorem xS {n:Int} (h1: -9223372036854775808≤n) (h2:n≤9223372036854775807):wi n=n:=w64 h1 h2
theorem zO {k:Nat} (h:k+1≤9223372036854775807):wi ((k:Int)+1)=((k+1:Nat):Int):=by rw [xS (by omega) (by omega)];omega
theorem zCX {k:Nat} (h:k+1≤9223372036854775807):wi (((k+1:Nat):Int) - 1)=(k:Int):=by rw [xS (by omega) (by omega)];omega
theorem yV {k n:Nat} (h:k < n):decide ((k:Int) < (n:Int))=true:=by simp;omega
theorem kO {k n:Nat} (h:n≤k):decide ((k:Int) < (n:Int))=false:=by simp;omega
theorem zU {α:Type} {l:List α} {k:Nat} (h:k < l.length):z7 l (k:Int)=some l[k]:=by unfold z7;rw [if_pos (by omega)];simp [h]
theorem yB8 {α:Type} {x: α} {l:List α}:z7 (x::l) 0=some x:=rfl
theorem zFQ {α:Type} {l:List α} {k:Nat} (h:k < l.length) (x: α):u7 l (k:Int) x=some (l.set k x):=by unfold u7;rw [if_pos ⟨by omega,by simpa using h⟩];simp
theorem xN {α:Type} {l m:List α} (h:l.length+m.length≤4294967296):app l m=some (l++m):=by unfold app;rw [if_pos (by unfold LIM;exact h)]
theorem zT3 {α:Type} {z: α} {n:Nat} (h:n≤4294967296):mkM z (n:Int)=some (List.replicate n z):=by unfold mkM;rw [if_pos ⟨by omega,by unfold LIM;simpa using h⟩];simp
theorem zYL {α:Type} {l:List α} {a b:Nat} (h1:a≤b) (h2:b≤l.length):slc l (a:Int) (b:Int)=some ((l.take b).drop a):=by unfold slc;rw [if_pos ⟨by omega,by omega,by simpa using h2⟩];simp
theorem zEU {α:Type} {l:List α} {b:Nat} (h2:b≤l.length):slc l 0 (b:Int)=some (l.take b):=by have:=zYL (l:=l) (a:=0) (b:=b) (by omega) h2;simpa using this
theorem zMQ {α:Type} {l:List α} {a:Nat} (h2:a≤l.length):slc l (a:Int) (l.length:Int)=some (l.drop a):=by have:=zYL (l:=l) (a:=a) (b:=l.length) h2 (Nat.le_refl _);simpa using this
theorem zQ {α β:Type} (x: α) (f: α→Option β):(pv x).bind f=f x:=rfl
theorem xC {α:Type} [Inhabited α] (m:Option α):gM true m=m:=rfl
theorem vB {α:Type} [Inhabited α] (m:Option α):gM false m=some default:=rfl
theorem zA {α β:Type} (x: α) (f: α→Option β):(some x).bind f=f x:=rfl
theorem zR {X Y:Type} {body:X→Option (Stp X Y)} {x x':X} (h:body x=some (.next x')):zE body x=zE body x':=by rw [jU,h]
theorem zL {X Y:Type} {body:X→Option (Stp X Y)} {x:X} {y:Y} (h:body x=some (.done y)):zE body x=some y:=by rw [jU,h]
end Go.M
namespace Go.M
open Go.AV
def chk {A Y:Type} (p:Nat→A→Option Y):List A→Nat→Option Y
 | [],_=>none
 | x::xs,k=>match p k x with
  | some y=>some y
  | none=>chk p xs (k+1)
def toS {Y:Type}:Option Y→Unit⊕Y
 | some y=> .inr y
 | none=> .inl ()
def stp {Y:Type} (k:Nat):Option Y→Stp Int (Unit⊕Y)
 | some y=> .done (.inr y)
 | none=> .next ((k+1:Nat):Int)
theorem z1U {A Y:Type} (l:List A) {body:Int→Option (Stp Int (Unit⊕Y))} (p:Nat→A→Option Y)
  (s:Nat) (hb:∀k (h:k < l.length),s≤k→body (k:Int)=some (stp k (p k l[k]))) (he:∀k:Nat,l.length≤k→body (k:Int)=some (.done (.inl ()))):
  ∀(n k:Nat),s≤k→l.length - k=n→zE body (k:Int)=some (toS (chk p (l.drop k) k)):=by
 intro n
 induction n with
 | zero=>
  intro k hs hk;rw [jU,he k (by omega),List.drop_of_length_le (by omega)];rfl
 | succ n ih=>
  intro k hs hk;have hlt:k < l.length:=by omega
  rw [jU,hb k hlt hs,List.drop_eq_getElem_cons hlt];simp only [chk];cases hp:p k l[k] with
  | some y=>rfl
  | none=>exact ih (k+1) (by omega) (by omega)
theorem j7 {A Y:Type} (l:List A) {body:Int→Option (Stp Int (Unit⊕Y))} (p:Nat→A→Option Y)
  (hb:∀k (h:k < l.length),body (k:Int)=some (stp k (p k l[k]))) (he:∀k:Nat,l.length≤k→body (k:Int)=some (.done (.inl ()))):zE body 0=some (toS (chk p l 0)):=by
 have:=z1U l p 0 (fun k h _=>hb k h) he l.length 0 (by omega) (by omega);simpa using this
theorem jR {Y Z:Type} (o:Option Y) (f:Unit→Option Z) (g:Y→Option Z):(toS o).elim f g=match o with | some y=>g y | none=>f ():=by cases o <;> rfl
abbrev MX:Nat:=9223372036854775807
def zGI (t:Int):Bool:=((((decide (65≤t)&&decide (t≤90)) ||(decide (97≤t)&&decide (t≤122))) ||(decide (48≤t)&&decide (t≤57))) ||decide (t=95))
theorem zYM:xM=zGO:=rfl
theorem z1V {s:Str} {k:Nat} (h:k < s.length):z0D s (k:Int)=some (s[k].toNat:Int):=by unfold z0D;rw [zU h];rfl
theorem zRE (s:Str) (hs:s.length≤MX):zE (fun (x:Int)=>xM s x) 0=some (toS (chk (fun _ (b:UInt8)=>if zGI (b.toNat:Int) then none else some false) s 0)):=by
 refine j7 s _ (fun k h=>?_) (fun k h=>?_);simp only [xM,yV h,cond_true,z1V h,zA,zQ,zO (k:=k) (by unfold MX at hs;omega)]
 by_cases hb:zGI (s[k].toNat:Int)=true;simp only [hb,if_true,stp];unfold zGI at hb;rw [hb];rfl;simp only [hb,if_false,stp];unfold zGI at hb;simp only [Bool.not_eq_true] at hb;rw [hb];rfl;simp only [xM,kO h,cond_false]
def zMR (s:Str):Bool:=match chk (fun _ (b:UInt8)=>if zGI (b.toNat:Int) then none else some false) s 0 with
 | some y=>y
 | none=>decide (1≤s.length)&&decide (s.length≤32)
theorem z82 {s:Str} (hs:s.length≤MX):zB0 s=some (zMR s):=by
 unfold zB0 zMR;rw [zRE s hs,zA,jR];cases chk (fun _ (b:UInt8)=>if zGI (b.toNat:Int) then none else some false) s 0 with
 | some y=>rfl
 | none=>
  simp only [zQ];congr 1;cases s with
  | nil=>rfl
  | cons x l=>
   have h1:((x::l:Str)== [])=false:=rfl;rw [h1];simp;omega
theorem z56 {s:Str} (hs:s.length≤MX):zFZ s=some (zMR s):=by
 unfold zFZ zMR;rw [←zYM,zRE s hs,zA,jR];cases chk (fun _ (b:UInt8)=>if zGI (b.toNat:Int) then none else some false) s 0 with
 | some y=>rfl
 | none=>
  simp only [zQ];congr 1;congr 1;simp;omega;simp;omega
def gpN (_:Nat) (g:Group):Option Int:=if zMR g.Name then none else some 6
def gpR (b:Int) (_:Nat) (g:Group):Option Int:=if g.Lo < 1∨g.Hi < g.Lo∨b≤g.Hi then some 1 else none
def gpO (l:List Group) (k:Nat) (g:Group):Option Int:=if 0 < k∧¬g.Lo=wi ((l.getD (k - 1) default).Hi+1) then some 4 else none
def gpT (l:List Group) (k:Nat) (g:Group):Option Int:=if g.Name∈(l.take k).map (·.Name) then some 5 else none
section
variable {c:Collation} (hg:c.Groups.length≤2000) (hn:∀g∈c.Groups,g.Name.length≤MX)
include hg
theorem wiS {k:Nat} (h:k < c.Groups.length):wi ((k:Int)+1)=((k+1:Nat):Int):=zO (by omega)
include hn in
theorem gL0:zE (fun (x:Int)=>jW c x) 0=some (toS (chk gpN c.Groups 0)):=by refine j7 c.Groups _ (fun k h=>?_) (fun k h=>?_);simp only [jW,yV h,cond_true,zU h,zA,z82 (hn _ (List.getElem_mem h)),wiS hg h,gpN];cases zMR (c.Groups[k]).Name <;> rfl;simp only [jW,kO h,cond_false]
include hn in
theorem rL0:zE (fun (x:Int)=>zA3 c x) 0=some (toS (chk gpN c.Groups 0)):=by refine j7 c.Groups _ (fun k h=>?_) (fun k h=>?_);simp only [zA3,yV h,cond_true,zU h,zA,z56 (hn _ (List.getElem_mem h)),wiS hg h,gpN];cases zMR (c.Groups[k]).Name <;> rfl;simp only [zA3,kO h,cond_false]
theorem gL2:zE (fun (x:Int)=>jX c x) 0=some (toS (chk (gpR c.Base) c.Groups 0)):=by refine j7 c.Groups _ (fun k h=>?_) (fun k h=>?_);simp only [jX,yV h,cond_true,zU h,zA,zQ,wiS hg h,gpR];by_cases h1:(c.Groups[k]).Lo < 1 <;> by_cases h2:(c.Groups[k]).Hi < (c.Groups[k]).Lo <;> by_cases h3:c.Base≤(c.Groups[k]).Hi <;> simp [h1,h2,h3,stp];simp only [jX,kO h,cond_false]
theorem rL3:zE (fun (x:Int)=>zA6 c x) 0=some (toS (chk (gpR c.Base) c.Groups 0)):=by refine j7 c.Groups _ (fun k h=>?_) (fun k h=>?_);simp only [zA6,yV h,cond_true,zU h,zA,zQ,wiS hg h,gpR];by_cases h1:(c.Groups[k]).Lo < 1 <;> by_cases h2:(c.Groups[k]).Hi < (c.Groups[k]).Lo <;> by_cases h3:c.Base≤(c.Groups[k]).Hi <;> simp [h1,h2,h3,stp,xC,vB,zA];simp only [zA6,kO h,cond_false]
theorem gL3:zE (fun (x:Int)=>jY c x) 0=some (toS (chk (gpO c.Groups) c.Groups 0)):=by
 refine j7 c.Groups _ (fun k h=>?_) (fun k h=>?_);simp only [jY,yV h,cond_true,zU h,zA,zQ,wiS hg h,gpO];cases k with
 | zero=>simp [vB,zA,stp]
 | succ k=>
  have hk:k < c.Groups.length:=by omega
  have e1:wi (((k+1:Nat):Int) - 1)=(k:Int):=zCX (by omega);have e2:decide ((0:Int) < ((k+1:Nat):Int))=true:=by simp
  rw [e2,xC,e1,zU hk,zA];have e3:c.Groups.getD (k+1 - 1) default=c.Groups[k]:=by simp [hk]
  rw [e3];by_cases hq:(c.Groups[k+1]).Lo=wi ((c.Groups[k]).Hi+1) <;> simp [hq,stp]
 simp only [jY,kO h,cond_false]
theorem rL4:zE (fun (x:Int)=>uT c x) 1=some (toS (chk (gpO c.Groups) (c.Groups.drop 1) 1)):=by
 have:=z1U (body:=fun (x:Int)=>uT c x) c.Groups (gpO c.Groups) 1 (fun k h hk1=>?_) (fun k h=>?_) (c.Groups.length - 1) 1 (by omega) rfl;exact this;simp only [uT,yV h,cond_true,zU h,zA,wiS hg h,gpO];cases k with
 | zero=>omega
 | succ k=>
  have hk:k < c.Groups.length:=by omega
  have e1:wi (((k+1:Nat):Int) - 1)=(k:Int):=zCX (by omega);rw [e1,zU hk,zA];have e3:c.Groups.getD (k+1 - 1) default=c.Groups[k]:=by simp [hk]
  rw [e3];by_cases hq:(c.Groups[k+1]).Lo=wi ((c.Groups[k]).Hi+1) <;> simp [hq,stp]
 simp only [uT,kO h,cond_false]
omit hg in
theorem yL6:chk (gpO c.Groups) c.Groups 0=chk (gpO c.Groups) (c.Groups.drop 1) 1:=by
 cases h:c.Groups with
 | nil=>rfl
 | cons g l=>simp [chk,gpO]
omit hg in
theorem z4V {κ ν:Type} [DecidableEq κ] (m:List (κ×ν)) (k k': κ) (v z: ν):zAT (zAV m k v) k' z=if k'=k then v else zAT m k' z:=by
 unfold zAT
 induction m with
 | nil=>simp only [zAV,mget];by_cases h:k'=k <;> simp [h,mget]
 | cons p m ih=>
  obtain ⟨q,u⟩:=p;simp only [zAV];by_cases hq:k=q;subst hq;simp only [if_true,mget];by_cases h:k'=k <;> simp [h];simp only [hq,if_false,mget];by_cases h:k'=q;subst h;have:¬k'=k:=fun e=>hq e.symm;simp [this];simp only [h,if_false];exact ih
theorem gL1:∀(n k:Nat) (m:List (Str×Bool)),c.Groups.length - k=n→k≤c.Groups.length→(∀s,zAT m s false=decide (s∈(c.Groups.take k).map (·.Name)))→
    zE (fun (x:Int×(List (Str×Bool)))=>jI c x.1 x.2) ((k:Int),m)=some (toS (chk (gpT c.Groups) (c.Groups.drop k) k)):=by
  intro n
  induction n with
  | zero=>
    intro k m hk hle hm;have hk':c.Groups.length≤k:=by omega
    rw [jU,List.drop_of_length_le hk'];simp only [jI,kO hk',cond_false,chk,toS]
  | succ n ih=>
    intro k m hk hle hm;have hlt:k < c.Groups.length:=by omega
    rw [jU,List.drop_eq_getElem_cons hlt];simp only [jI,yV hlt,cond_true,zU hlt,zA,hm,wiS hg hlt,chk,gpT];by_cases hin:(c.Groups[k]).Name∈(c.Groups.take k).map (·.Name)
    · simp only [hin,decide_true,cond_true,if_true,toS]
    · simp only [hin,decide_false,cond_false,if_false]
      refine ih (k+1) _ (by omega) (by omega) fun s=>?_;rw [z4V,hm s];have e1:(c.Groups.take (k+1)).map (·.Name)=(c.Groups.take k).map (·.Name)++ [(c.Groups[k]).Name]:=by
        rw [List.take_add_one,List.getElem?_eq_getElem hlt,List.map_append];rfl
      rw [e1];by_cases hs:s=(c.Groups[k]).Name
      · simp [hs]
      · simp [hs]
omit hg in
theorem z57 {A Y:Type} (P:A→Bool) (y:Y):∀(l:List A) (k:Nat),chk (fun _ x=>if P x then some y else none) l k=if l.any P then some y else none
 | [],_=>rfl
 | x::l,k=>by
  simp only [chk,List.any_cons];by_cases h:P x=true;simp [h];simp only [h,Bool.false_eq_true,if_false,Bool.false_or];exact z57 P y l (k+1)
theorem rL1:zE (fun (x:Int)=>zA5 c x) 0=some (toS (chk (gpT c.Groups) c.Groups 0)):=by
  refine j7 c.Groups _ (fun k h=>?_) (fun k h=>?_)
  · have hin:zE (fun (x:Int)=>zA4 (k:Int) c x) 0=some (toS (chk (fun _ (g:Group)=>if (g.Name==(c.Groups[k]).Name) then some (5:Int) else none) (c.Groups.take k) 0)):=by
      refine j7 (c.Groups.take k) _ (fun j hj=>?_) (fun j hj=>?_)
      · have hjk:j < k:=by rw [List.length_take] at hj;omega
        have hjl:j < c.Groups.length:=by omega
        have e1:decide ((j:Int) < (k:Int))=true:=by simp;omega
        simp only [zA4,e1,cond_true,zU hjl,zU h,zA,wiS hg hjl,List.getElem_take];by_cases hq:((c.Groups[j]).Name==(c.Groups[k]).Name)=true
        · simp only [hq,cond_true,if_true,stp]
        · simp only [hq,Bool.not_eq_true] at*
          simp only [hq,cond_false,Bool.false_eq_true,if_false,stp]
      · have hjk:k≤j:=by rw [List.length_take] at hj;omega
        have e1:decide ((j:Int) < (k:Int))=false:=by simp;omega
        simp only [zA4,e1,cond_false]
    simp only [zA5,yV h,cond_true,hin,zA,jR,z57,gpT,wiS hg h];have e2:((c.Groups.take k).any fun g=>g.Name==(c.Groups[k]).Name)=decide ((c.Groups[k]).Name∈(c.Groups.take k).map (·.Name)):=by
      rw [Bool.eq_iff_iff];simp only [List.any_eq_true,beq_iff_eq,decide_eq_true_eq,List.mem_map]
    rw [e2];by_cases hm:(c.Groups[k]).Name∈(c.Groups.take k).map (·.Name)
    · simp only [hm,decide_true,if_true,stp]
    · simp only [hm,decide_false,Bool.false_eq_true,if_false,stp]
  · simp only [zA5,kO h,cond_false]
def z1W (c:Collation):Int:=match chk gpN c.Groups 0 with
 | some y=>y
 | none=>match chk (gpT c.Groups) c.Groups 0 with
  | some y=>y
  | none=>match chk (gpR c.Base) c.Groups 0 with
   | some y=>y
   | none=>match chk (gpO c.Groups) c.Groups 0 with
    | some y=>y
    | none=>0
include hn in
theorem z83:w8 c=some (z1W c):=by
 have h1:=gL1 hg c.Groups.length 0 [] (by omega) (by omega) (fun s=>by simp [zAT,mget]);have h1:zE (fun (x:Int×(List (Str×Bool)))=>jI c x.1 x.2) (0,[])=some (toS (chk (gpT c.Groups) c.Groups 0)):=h1;unfold w8 z1W;rw [gL0 hg hn,zA,jR];cases chk gpN c.Groups 0 with
 | some y=>rfl
 | none=>
  simp only [];rw [h1,zA,jR];cases chk (gpT c.Groups) c.Groups 0 with
  | some y=>rfl
  | none=>
   simp only [];rw [gL2 hg,zA,jR];cases chk (gpR c.Base) c.Groups 0 with
   | some y=>rfl
   | none=>
    simp only [];rw [gL3 hg,zA,jR];cases chk (gpO c.Groups) c.Groups 0 <;> rfl
include hn in
theorem zYN:zFH c=some (z1W c):=by
 unfold zFH z1W;rw [rL0 hg hn,zA,jR];cases chk gpN c.Groups 0 with
 | some y=>rfl
 | none=>
  simp only [];rw [rL1 hg,zA,jR];cases chk (gpT c.Groups) c.Groups 0 with
  | some y=>rfl
  | none=>
   simp only [];rw [rL3 hg,zA,jR];cases chk (gpR c.Base) c.Groups 0 with
   | some y=>rfl
   | none=>
    simp only [];rw [rL4 hg,zA,jR,yL6];cases chk (gpO c.Groups) (c.Groups.drop 1) 1 <;> rfl
end
end Go.M
namespace Go.M
open Go.AV
def elE (e:Element):Int:=
 if (e.Primary < 0∨65535 < e.Primary)∨(e.Secondary < 0∨65535 < e.Secondary)∨(e.Tertiary < 0∨65535 < e.Tertiary) then 1
 else if (e.Primary≠0∧(e.Secondary=0∨e.Tertiary=0))∨(e.Secondary≠0∧e.Tertiary=0)∨(e.Variable=true∧e.Primary=0) then 11 else 0
theorem yGA (e:Element):zEJ e=some (elE e):=by
 have hl:zE (fun (x:Int)=>u9 e x) 0=some (toS (chk (fun _ (w:Int)=>if w < 0∨65535 < w then some 1 else none) [e.Primary,e.Secondary,e.Tertiary] 0)):=by
  refine j7 [e.Primary,e.Secondary,e.Tertiary] _ (fun k h=>?_) (fun k h=>?_);have h3:decide ((k:Int) < 3)=true:=by simp at h ⊢;omega
  simp only [u9,h3,cond_true,zU h,zA,zQ,zO (k:=k) (by simp at h;omega)]
  by_cases h1: [e.Primary,e.Secondary,e.Tertiary][k] < 0 <;> by_cases h2:65535 < [e.Primary,e.Secondary,e.Tertiary][k] <;> simp [h1,h2,stp];have h3:decide ((k:Int) < 3)=false:=by simp at h ⊢;omega
  simp only [u9,h3,cond_false]
 unfold zEJ elE;rw [hl,zA,jR];simp only [chk];by_cases h1:e.Primary < 0∨65535 < e.Primary;simp [h1];by_cases h2:e.Secondary < 0∨65535 < e.Secondary;simp [h1,h2];by_cases h3:e.Tertiary < 0∨65535 < e.Tertiary;simp [h1,h2,h3];simp only [h1,h2,h3,if_false,or_self,zQ];by_cases a:e.Primary=0 <;> by_cases b:e.Secondary=0 <;> by_cases c:e.Tertiary=0 <;> cases e.Variable <;> simp [a,b,c]
theorem z4W (e:Element):zG8 e=some (elE e):=by
 unfold zG8 elE zD5;simp only [zQ,zA];by_cases a1:0≤e.Primary;by_cases a2:e.Primary≤65535;by_cases b1:0≤e.Secondary;by_cases b2:e.Secondary≤65535;by_cases c1:0≤e.Tertiary;by_cases c2:e.Tertiary≤65535;have n1:¬(e.Primary < 0∨65535 < e.Primary):=by omega
 have n2:¬(e.Secondary < 0∨65535 < e.Secondary):=by omega
 have n3:¬(e.Tertiary < 0∨65535 < e.Tertiary):=by omega
 simp only [a1,a2,b1,b2,c1,c2,n1,n2,n3,decide_true,Bool.and_self,Bool.not_true,Bool.not_false,xC,zA,Bool.or_self,cond_false,or_self,if_false];by_cases a:e.Primary=0 <;> by_cases b:e.Secondary=0 <;> by_cases c:e.Tertiary=0 <;> cases e.Variable <;> simp [a,b,c];have:(65535:Int) < e.Tertiary:=by omega
 simp [a1,a2,b1,b2,c1,c2,xC,zA,this];have:e.Tertiary < 0:=by omega
 simp [a1,a2,b1,b2,c1,xC,zA,this];have:(65535:Int) < e.Secondary:=by omega
 simp [a1,a2,b1,b2,xC,vB,zA,this];have:e.Secondary < 0:=by omega
 simp [a1,a2,b1,xC,vB,zA,this];have:(65535:Int) < e.Primary:=by omega
 simp [a1,a2,xC,vB,zA,this];have:e.Primary < 0:=by omega
 simp [a1,xC,vB,zA,this]
def vld (c:Int):Bool:=decide (0≤c)&&decide (c≤1114111)
theorem zPK (c:Int):uR c=some (vld c):=rfl
theorem zE5 (c:Int):wF c=some (vld c):=rfl
def pV (_:Nat) (c:Int):Option Int:=if vld c then none else some 1
def pE (_:Nat) (e:Element):Option Int:=if elE e=0 then none else some (elE e)
def pP (b:Int) (_:Nat) (e:Element):Option Int:=if b≤e.Primary then some 1 else none
def enE (x:Entry) (b:Int):Int:=
 if x.Codes.length < 1∨8 < x.Codes.length∨16 < x.Elements.length then 2
 else match chk pV x.Codes 0 with
  | some y=>y
  | none=>match chk pE x.Elements 0 with
   | some y=>y
   | none=>match chk (pP b) x.Elements 0 with
    | some y=>y
    | none=>0
section
variable {x:Entry} (hc:x.Codes.length≤2000) (he:x.Elements.length≤2000)
include hc in
theorem eL0:zE (fun (v:Int)=>jM x v) 0=some (toS (chk pV x.Codes 0)):=by refine j7 x.Codes _ (fun k h=>?_) (fun k h=>?_);simp only [jM,yV h,cond_true,zU h,zA,zPK,zO (k:=k) (by omega),pV];cases vld x.Codes[k] <;> rfl;simp only [jM,kO h,cond_false]
include he in
theorem eL1:zE (fun (v:Int)=>xD x v) 0=some (toS (chk pE x.Elements 0)):=by refine j7 x.Elements _ (fun k h=>?_) (fun k h=>?_);simp only [xD,yV h,cond_true,zU h,zA,yGA,zO (k:=k) (by omega),pE];by_cases hq:elE x.Elements[k]=0 <;> simp [hq,stp];simp only [xD,kO h,cond_false]
include he in
theorem eL2 (b:Int):zE (fun (v:Int)=>jN x b v) 0=some (toS (chk (pP b) x.Elements 0)):=by refine j7 x.Elements _ (fun k h=>?_) (fun k h=>?_);simp only [jN,yV h,cond_true,zU h,zA,zO (k:=k) (by omega),pP];by_cases hq:b≤(x.Elements[k]).Primary <;> simp [hq,stp];simp only [jN,kO h,cond_false]
theorem yL7:zFI=jM:=rfl
theorem yL8 (c:Collation):(fun v=>zFJ x c v)=fun v=>jN x c.Base v:=rfl
include he in
theorem yN0:zE (fun (v:Int)=>zCK x v) 0=some (toS (chk pE x.Elements 0)):=by refine j7 x.Elements _ (fun k h=>?_) (fun k h=>?_);simp only [zCK,yV h,cond_true,zU h,zA,z4W,zO (k:=k) (by omega),pE];by_cases hq:elE x.Elements[k]=0 <;> simp [hq,stp];simp only [zCK,kO h,cond_false]
theorem szc:(((decide ((x.Codes.length:Int) < 1) ||decide (8 < (x.Codes.length:Int))) ||decide (16 < (x.Elements.length:Int))))=decide (x.Codes.length < 1∨8 < x.Codes.length∨16 < x.Elements.length):=by rw [Bool.eq_iff_iff];simp only [Bool.or_eq_true,decide_eq_true_eq];omega
include hc he in
theorem yCA (b:Int):uA x b=some (enE x b):=by
 unfold uA enE;simp only [zQ,szc];by_cases hz:x.Codes.length < 1∨8 < x.Codes.length∨16 < x.Elements.length;simp only [hz,decide_true,cond_true,if_true];simp only [hz,decide_false,cond_false,if_false];rw [eL0 hc,zA,jR];cases chk pV x.Codes 0 with
 | some y=>rfl
 | none=>
  simp only [];rw [eL1 he,zA,jR];cases chk pE x.Elements 0 with
  | some y=>rfl
  | none=>
   simp only [];rw [eL2 he,zA,jR];cases chk (pP b) x.Elements 0 <;> rfl
end
def wY (a b:List Int):Int:=match chk (fun _ (p:Int×Int)=>if p.1=p.2 then none else some (if p.1 < p.2 then (-1:Int) else 1)) (a.zip b) 0 with
 | some y=>y
 | none=>if a.length < b.length then -1 else if b.length < a.length then 1 else 0
section
variable {a b:List Int} (ha:a.length≤4611686018427387904) (hb:b.length≤2000)
theorem z84 (x y:Int):jV x y=some (if x < y then -1 else if y < x then 1 else 0):=by unfold jV zEK;simp only [zA,decide_true,Bool.not_true,cond_false];by_cases h1:x < y;simp [h1];by_cases h2:y < x <;> simp [h1,h2]
include ha in
theorem cL0:zE (fun (v:Int)=>wD a b v) 0=some (toS (chk (fun _ (p:Int×Int)=>if p.1=p.2 then none else some (if p.1 < p.2 then (-1:Int) else 1)) (a.zip b) 0)):=by
 refine j7 (a.zip b) _ (fun k h=>?_) (fun k h=>?_);have hk:=h;rw [List.length_zip] at hk;have h1:k < a.length:=by omega
 have h2:k < b.length:=by omega
 have e1:decide ((k:Int) < min (a.length:Int) (b.length:Int))=true:=by simp;omega
 simp only [wD,e1,cond_true,zU h1,zU h2,zA,z84,zO (k:=k) (by omega),List.getElem_zip];by_cases hq:a[k]=b[k];simp [hq,stp];simp only [hq,decide_false,Bool.not_false,cond_true,if_false,stp];by_cases hl:a[k] < b[k];simp [hl];have:b[k] < a[k]:=by omega
 simp [hl,this];rw [List.length_zip] at h;have e1:decide ((k:Int) < min (a.length:Int) (b.length:Int))=false:=by simp;omega
 simp only [wD,e1,cond_false]
include ha in
theorem yN1:zE (fun (v:Int)=>zAG a b v) 0=some (toS (chk (fun _ (p:Int×Int)=>if p.1=p.2 then none else some (if p.1 < p.2 then (-1:Int) else 1)) (a.zip b) 0)):=by
 refine j7 (a.zip b) _ (fun k h=>?_) (fun k h=>?_);have hk:=h;rw [List.length_zip] at hk;have h1:k < a.length:=by omega
 have h2:k < b.length:=by omega
 simp only [zAG,yV h1,yV h2,zQ,Bool.and_self,cond_true,zU h1,zU h2,zA,zO (k:=k) (by omega),List.getElem_zip];by_cases hl:a[k] < b[k];have:¬a[k]=b[k]:=by omega
 simp [hl,this,stp];by_cases hr:b[k] < a[k];have:¬a[k]=b[k]:=by omega
 simp [hl,hr,this,stp];have:a[k]=b[k]:=by omega
 simp [this,stp];rw [List.length_zip] at h;have e1:(decide ((k:Int) < (a.length:Int))&&decide ((k:Int) < (b.length:Int)))=false:=by
  rw [Bool.and_eq_false_iff];simp;omega
 simp only [zAG,zQ,e1,cond_false]
include ha in
theorem zEZ:kP a b=some (wY a b):=by
 unfold kP wY;rw [cL0 ha,zA,jR];cases chk (fun _ (p:Int×Int)=>if p.1=p.2 then none else some (if p.1 < p.2 then (-1:Int) else 1)) (a.zip b) 0 with
 | some y=>rfl
 | none=>
  simp only [z84,zA];congr 1;by_cases h1:a.length < b.length;have:(a.length:Int) < b.length:=by omega
  simp [h1,this];have h1':¬(a.length:Int) < b.length:=by omega
  by_cases h2:b.length < a.length;have:(b.length:Int) < a.length:=by omega
  simp [h1,h1',h2,this];have h2':¬(b.length:Int) < a.length:=by omega
  simp [h1,h1',h2,h2']
include ha in
theorem zJ1:zBL a b=some (wY a b):=by
 unfold zBL wY;rw [yN1 ha,zA,jR];cases chk (fun _ (p:Int×Int)=>if p.1=p.2 then none else some (if p.1 < p.2 then (-1:Int) else 1)) (a.zip b) 0 with
 | some y=>rfl
 | none=>
  simp only [];by_cases h1:a.length < b.length;have:(a.length:Int) < b.length:=by omega
  simp [h1,this];have h1':¬(a.length:Int) < b.length:=by omega
  by_cases h2:b.length < a.length;have:(b.length:Int) < a.length:=by omega
  simp [h1,h1',h2,this];have h2':¬(b.length:Int) < a.length:=by omega
  simp [h1,h1',h2,h2']
end
end Go.M
namespace Go.M
open Go.AV
structure Sm (c:Collation):Prop where
 en:c.Entries.length≤12
 gr:c.Groups.length≤8
 co:∀x∈c.Entries,x.Codes.length≤16
 el:∀x∈c.Entries,x.Elements.length≤20
def smB (c:Collation):Bool:=if 12 < c.Entries.length∨8 < c.Groups.length then false else match chk (fun _ (x:Entry)=>if 10 < x.Codes.length∨20 < x.Elements.length then some false else none) c.Entries 0 with
 | some y=>y
 | none=>true
theorem zMS {A Y:Type} {p:Nat→A→Option Y}:∀{l:List A} {k:Nat},chk p l k=none→∀j (h:j < l.length),p (k+j) l[j]=none
 | [],_,_,j,h=>by simp at h
 | x::xs,k,hc,j,h=>by
  simp only [chk] at hc;cases hp:p k x with
  | some y=>rw [hp] at hc;cases hc
  | none=>
   rw [hp] at hc;cases j with
   | zero=>simpa using hp
   | succ j=>
    have:=zMS hc j (by simp at h;omega)
    rw [show k+1+j=k+(j+1) by omega] at this;simpa using this
theorem zHH {A Y:Type} {p:Nat→A→Option Y} {P:Y→Prop} (hp:∀k x y,p k x=some y→P y):∀{l:List A} {k:Nat} {y:Y},chk p l k=some y→P y
 | [],_,_,h=>by cases h
 | x::xs,k,y,h=>by
  simp only [chk] at h;cases hq:p k x with
  | some y'=>rw [hq] at h;cases h;exact hp _ _ _ hq
  | none=>rw [hq] at h;exact zHH hp h
theorem yCB (c:Collation):zG0 c=some (smB c):=by
 unfold zG0 smB;simp only [zQ];by_cases hz:12 < c.Entries.length∨8 < c.Groups.length;have:(decide (12 < (c.Entries.length:Int)) ||decide (8 < (c.Groups.length:Int)))=true:=by simp only [Bool.or_eq_true,decide_eq_true_eq];omega
 simp only [this,cond_true,hz,if_true];have h0:(decide (12 < (c.Entries.length:Int)) ||decide (8 < (c.Groups.length:Int)))=false:=by simp only [Bool.or_eq_false_iff,decide_eq_false_iff_not];omega
 have hl:zE (fun (v:Int)=>zBZ c v) 0=some (toS (chk (fun _ (x:Entry)=>if 10 < x.Codes.length∨20 < x.Elements.length then some false else none) c.Entries 0)):=by
  refine j7 c.Entries _ (fun k h=>?_) (fun k h=>?_);simp only [zBZ,yV h,cond_true,zU h,zA,zQ,zO (k:=k) (by omega)];by_cases h1:10 < (c.Entries[k]).Codes.length;have h1':(10:Int) < (c.Entries[k]).Codes.length:=by omega
  simp [h1,h1',vB,zA,stp];have h1':¬(10:Int) < (c.Entries[k]).Codes.length:=by omega
  by_cases h2:20 < (c.Entries[k]).Elements.length;have h2':(20:Int) < (c.Entries[k]).Elements.length:=by omega
  simp [h1,h1',h2,h2',xC,zA,stp];have h2':¬(20:Int) < (c.Entries[k]).Elements.length:=by omega
  simp [h1,h1',h2,h2',xC,zA,stp];simp only [zBZ,kO h,cond_false]
 simp only [h0,cond_false,hz,if_false];rw [hl,zA,jR];cases chk (fun _ (x:Entry)=>if 10 < x.Codes.length∨20 < x.Elements.length then some false else none) c.Entries 0 <;> rfl
theorem yJU {c:Collation} (h:smB c=true):Sm c:=by
 unfold smB at h;split at h;cases h;rename_i hz;cases hc:chk (fun _ (x:Entry)=>if 10 < x.Codes.length∨20 < x.Elements.length then some false else none) c.Entries 0 with
 | some y=>
  exfalso;rw [hc] at h;have h':y=true:=h;subst h';have:=zHH (P:=fun y=>y=false) (fun k x y hy=>by
   split at hy;cases hy;rfl;cases hy) hc
  cases this
 | none=>
  have hn:=zMS hc;have hq:∀x∈c.Entries,¬(10 < x.Codes.length∨20 < x.Elements.length):=by
   intro x hx;obtain ⟨j,hj,rfl⟩:=List.getElem_of_mem hx;have this:(if 10 < (c.Entries[j]).Codes.length∨20 < (c.Entries[j]).Elements.length then some false else none)=none:=hn j hj;split at this;cases this;assumption
  exact ⟨by omega,by omega,fun x hx=>by have:=hq x hx;omega,fun x hx=>by have:=hq x hx;omega⟩
def pK (c:Collation) (k:Nat) (x:Entry):Option Int:=
 if enE x c.Base≠0 then some (enE x c.Base) else if 0 < k∧0≤wY (c.Entries.getD (k - 1) default).Codes x.Codes then some 4 else none
def wOk (w:Int):Bool:=decide (1≤w)&&decide (w≤65535)
def ckE (c:Collation):Int:=
 if c.Base < 1∨65502 < c.Base∨wOk c.Second=false∨wOk c.Third=false then 1
 else if z1W c≠0 then z1W c
 else match chk (pK c) c.Entries 0 with
  | some y=>y
  | none=>0
section
variable {c:Collation} (hs:Sm c) (hn:∀g∈c.Groups,g.Name.length≤MX)
include hs
theorem kL0:zE (fun (v:Int)=>vE c v) 0=some (toS (chk (pK c) c.Entries 0)):=by
 refine j7 c.Entries _ (fun k h=>?_) (fun k h=>?_);have hx:=List.getElem_mem h;have h12:=hs.en;simp only [vE,yV h,cond_true,zU h,zA,zQ,yCA (Nat.le_trans (hs.co _ hx) (by omega)) (Nat.le_trans (hs.el _ hx) (by omega)),zO (k:=k) (by omega),pK];by_cases he:enE c.Entries[k] c.Base=0;simp only [he,decide_true,Bool.not_true,cond_false,ne_eq,not_true,if_false];cases k with
 | zero=>simp [vB,zA,stp]
 | succ k=>
  have hk:k < c.Entries.length:=by omega
  have e1:wi (((k+1:Nat):Int) - 1)=(k:Int):=zCX (by omega);have e2:decide ((0:Int) < ((k+1:Nat):Int))=true:=by simp
  have e3:c.Entries.getD (k+1 - 1) default=c.Entries[k]:=by simp [hk]
  rw [e2,xC,e1,zU hk,zA,xC,zEZ (Nat.le_trans (hs.co _ (List.getElem_mem hk)) (by omega)),zA,e3];by_cases hq:0≤wY (c.Entries[k]).Codes (c.Entries[k+1]).Codes <;> simp [hq,stp]
 simp [he,stp];simp only [vE,kO h,cond_false]
theorem z85 {k:Nat} (h:k < c.Entries.length):zG9 c (k:Int)=some (match pK c k c.Entries[k] with | some y=>y | none=>0):=by
  have hx:=List.getElem_mem h;have h12:=hs.en;have hc:=Nat.le_trans (hs.co _ hx) (by omega:16≤2000);have he:=Nat.le_trans (hs.el _ hx) (by omega:20≤2000);unfold zG9;simp only [zU h,zA,zQ,szc,yL7,yL8];unfold pK enE;by_cases hz:(c.Entries[k]).Codes.length < 1∨8 < (c.Entries[k]).Codes.length∨16 < (c.Entries[k]).Elements.length
  · simp only [hz,decide_true,cond_true,if_true]
    rfl
  · simp only [hz,decide_false,cond_false,if_false]
    rw [eL0 hc,zA,jR];cases h1:chk pV (c.Entries[k]).Codes 0 with
    | some y=>
      have hy:y≠0:=zHH (P:=fun y=>y≠0) (fun k x y hy=>by
            unfold pV at hy;split at hy
            · first | (cases hy;done) | (cases hy;decide) | (cases hy;assumption)
            · first | (cases hy;done) | (cases hy;decide) | (cases hy;assumption)) h1
      simp [hy]
    | none=>
      simp only [];rw [yN0 he,zA,jR];cases h2:chk pE (c.Entries[k]).Elements 0 with
      | some y=>
        have hy:y≠0:=zHH (P:=fun y=>y≠0) (fun k x y hy=>by
            unfold pE at hy;split at hy
            · first | (cases hy;done) | (cases hy;decide) | (cases hy;assumption)
            · first | (cases hy;done) | (cases hy;decide) | (cases hy;assumption)) h2
        simp [hy]
      | none=>
        simp only [];rw [eL2 he,zA,jR];cases h3:chk (pP c.Base) (c.Entries[k]).Elements 0 with
        | some y=>
          have hy:y≠0:=zHH (P:=fun y=>y≠0) (fun k x y hy=>by
            unfold pP at hy;split at hy
            · first | (cases hy;done) | (cases hy;decide) | (cases hy;assumption)
            · first | (cases hy;done) | (cases hy;decide) | (cases hy;assumption)) h3
          simp [hy]
        | none=>
          simp only [ne_eq,not_true,if_false];cases k with
          | zero=>simp [vB,zA]
          | succ k=>
            have hk:k < c.Entries.length:=by omega
            have e1:wi (((k+1:Nat):Int) - 1)=(k:Int):=zCX (by omega);have e2:decide ((0:Int) < ((k+1:Nat):Int))=true:=by simp
            have e3:c.Entries.getD (k+1 - 1) default=c.Entries[k]:=by simp [hk]
            rw [e2,xC,e1,zU hk,zA,xC,zJ1 (Nat.le_trans (hs.co _ (List.getElem_mem hk)) (by omega)),zA,e3];by_cases hq:0≤wY (c.Entries[k]).Codes (c.Entries[k+1]).Codes <;> simp [hq]
theorem yN2:zE (fun (v:Int)=>zCL c v) 0=some (toS (chk (pK c) c.Entries 0)):=by
 refine j7 c.Entries _ (fun k h=>?_) (fun k h=>?_);have h12:=hs.en;simp only [zCL,yV h,cond_true,z85 hs h,zA,zO (k:=k) (by omega)];have hnz:∀y,pK c k c.Entries[k]=some y→y≠0:=by
  intro y hy;unfold pK at hy;split at hy;cases hy;assumption;split at hy;cases hy;decide;cases hy
 cases hp:pK c k c.Entries[k] with
 | some y=>simp [hnz y hp,stp]
 | none=>simp [stp]
 simp only [zCL,kO h,cond_false]
omit hs in
theorem isW (w:Int):zAM w=some (wOk w):=rfl
omit hs in
theorem yN3 (w:Int):zFG w=some (wOk w):=rfl
include hn in
theorem yCD:zAW c=some (ckE c):=by unfold zAW ckE;simp only [zQ,isW];by_cases h1:c.Base < 1;simp [h1,vB,zA];by_cases h2:65502 < c.Base;simp [h1,h2,vB,zA];by_cases h3:wOk c.Second=false;simp [h1,h2,h3,xC,vB,zA];by_cases h4:wOk c.Third=false;simp [h1,h2,h3,h4,xC,zA];simp only [Bool.not_eq_false] at h3 h4;simp only [h1,h2,h3,h4,decide_false,Bool.or_self,Bool.not_false,xC,zA,Bool.not_true,cond_false,or_self,Bool.true_eq_false,if_false];rw [z83 (Nat.le_trans hs.gr (by omega)) hn,zA];by_cases hz:z1W c=0;simp only [hz,decide_true,Bool.not_true,cond_false,ne_eq,not_true,if_false];rw [kL0 hs,zA,jR];cases chk (pK c) c.Entries 0 <;> rfl;simp [hz]
include hn in
theorem z1X:zHA c=some (ckE c):=by unfold zHA ckE;simp only [zQ,yN3];by_cases h1:c.Base < 1;simp [h1,vB,zA];by_cases h2:65502 < c.Base;simp [h1,h2,vB,zA];by_cases h3:wOk c.Second=false;simp [h1,h2,h3,xC,vB,zA];by_cases h4:wOk c.Third=false;simp [h1,h2,h3,h4,xC,zA];simp only [Bool.not_eq_false] at h3 h4;simp only [h1,h2,h3,h4,decide_false,Bool.or_self,Bool.not_false,xC,zA,Bool.not_true,cond_false,or_self,Bool.true_eq_false,if_false];rw [zYN (Nat.le_trans hs.gr (by omega)) hn,zA];by_cases hz:z1W c=0;simp only [hz,decide_true,Bool.not_true,cond_false,ne_eq,not_true,if_false];rw [yN2 hs,zA,jR];cases chk (pK c) c.Entries 0 <;> rfl;simp [hz]
end
theorem zYO {c:Collation} (h:zGX c):∀g∈c.Groups,g.Name.length≤MX:=fun g hg=>(h.2.1.2 g hg).1
end Go.M
namespace Go.M
open Go.AV
def lx:List Int→List Int→Prop
 | [],[]=>False
 | [],_::_=>True
 | _::_,[]=>False
 | x::a,y::b=>x < y∨(x=y∧lx a b)
theorem zPL:∀{a b c:List Int},lx a b→lx b c→lx a c
 | [],[],_,h,_=>h.elim
 | [],_::_,[],_,h=>h.elim
 | [],_::_,_::_,_,_=>trivial
 | _::_,[],_,h,_=>h.elim
 | _::_,_::_,[],_,h=>h.elim
 | x::a,y::b,z::c,h1,h2=>by
  rcases h1 with h1 | ⟨rfl,h1⟩;rcases h2 with h2 | ⟨rfl,_⟩;exact .inl (by omega);exact .inl h1;rcases h2 with h2 | ⟨rfl,h2⟩;exact .inl h2;exact .inr ⟨rfl,zPL h1 h2⟩
theorem zWV:∀{a:List Int},¬lx a a
 | [],h=>h
 | x::a,h=>by
  rcases h with h | ⟨_,h⟩;omega;exact zWV h
def pC (_:Nat) (p:Int×Int):Option Int:=if p.1=p.2 then none else some (if p.1 < p.2 then (-1:Int) else 1)
def zT4 (a b:List Int) (k:Nat):Int:=match chk pC (a.zip b) k with
 | some y=>y
 | none=>if a.length < b.length then -1 else if b.length < a.length then 1 else 0
theorem zKH:∀(a b:List Int) (k:Nat),(zT4 a b k < 0↔lx a b)∧(zT4 a b k=0↔a=b)
  | [],[],k=>by simp [zT4,chk,lx]
  | [],y::b,k=>by simp [zT4,chk,lx]
  | x::a,[],k=>by simp [zT4,chk,lx]
  | x::a,y::b,k=>by
    have ih:=zKH a b (k+1);by_cases he:x=y
    · subst he
      have e1:zT4 (x::a) (x::b) k=zT4 a b (k+1):=by
        simp only [zT4,List.zip_cons_cons,chk,pC,if_true,List.length_cons];cases chk pC (a.zip b) (k+1) with
        | some y=>rfl
        | none=>
          simp only [];by_cases h1:a.length < b.length
          · simp [h1]
          · by_cases h2:b.length < a.length <;> simp [h1,h2]
      rw [e1];refine ⟨ih.1.trans ?_,ih.2.trans ?_⟩
      · simp [lx]
      · simp
    · have e1:zT4 (x::a) (y::b) k=if x < y then -1 else 1:=by
        simp only [zT4,List.zip_cons_cons,chk,pC,he,if_false]
      rw [e1];by_cases hl:x < y
      · simp [hl,lx,he]
      · simp [hl,lx,he]
theorem zYP (a b:List Int):wY a b=zT4 a b 0:=rfl
def zQK (a:List Int):A9Int:={x0:=a.length,x1:=cpA a 0 0,x2:=cpA a 1 0,x3:=cpA a 2 0,x4:=cpA a 3 0,x5:=cpA a 4 0,x6:=cpA a 5 0,x7:=cpA a 6 0,x8:=cpA a 7 0}
theorem z1Y (a:List Int):zC3 a=some (zQK a):=rfl
theorem yCE {a b:List Int} (ha:a.length≤8) (h:zQK a=zQK b):a=b:=by
 unfold zQK at h;simp only [A9Int.mk.injEq] at h;obtain ⟨hl,h1,h2,h3,h4,h5,h6,h7,h8⟩:=h;have hl:a.length=b.length:=by omega
 apply List.ext_getElem hl;intro i hi hi';have key:∀j,j < a.length→cpA a j 0=cpA b j 0→a.getD j 0=b.getD j 0:=fun j _ h=>by simpa [cpA,List.getD_eq_getElem?_getD] using h
 have:a.getD i 0=b.getD i 0:=by
  have hi8:i < 8:=by omega
  match i,hi8 with
  | 0,_=>exact key 0 hi h1
  | 1,_=>exact key 1 hi h2
  | 2,_=>exact key 2 hi h3
  | 3,_=>exact key 3 hi h4
  | 4,_=>exact key 4 hi h5
  | 5,_=>exact key 5 hi h6
  | 6,_=>exact key 6 hi h7
  | 7,_=>exact key 7 hi h8
 simpa [List.getD_eq_getElem?_getD,hi,hi'] using this
def yT (c:Collation):Collation:=if ckE c=0 then c else {Entries:=[],Groups:=[],Base:=64448,Second:=32,Third:=2}
def z86 (es:List Entry) (m:List (A9Int×List Element)):List (A9Int×List Element):=es.foldl (fun m x=>zAV m (zQK x.Codes) x.Elements) m
def zPM (es:List Entry) (n:Int):Int:=es.foldl (fun n x=>max n (x.Codes.length:Int)) n
def zQL (c:Collation):Colltable_table:={c:=yT c,entries:=z86 (yT c).Entries [],longest:=zPM (yT c).Entries 0,classes:=[],top:=0}
theorem zWW (y:(List Entry)×(List Group)×Int×Int×Int) (hl:y.1.length≤2000):∀(n k:Nat) (m:List (A9Int×List Element)) (q:Int),y.1.length - k=n→
  zE (fun (x:Int×(List (A9Int×(List Element)))×Int)=>xQ y x.1 x.2.1 x.2.2) ((k:Int),m,q)=some (z86 (y.1.drop k) m,zPM (y.1.drop k) q):=by
 intro n
 induction n with
 | zero=>
  intro k m q hk;have hk':y.1.length≤k:=by omega
  rw [jU,List.drop_of_length_le hk'];simp only [xQ,kO hk',cond_false];rfl
 | succ n ih=>
  intro k m q hk;have hlt:k < y.1.length:=by omega
  rw [jU,List.drop_eq_getElem_cons hlt];simp only [xQ,yV hlt,cond_true,zU hlt,zA,z1Y,zO (k:=k) (by omega)];exact ih (k+1) _ _ (by omega)
theorem yGB {c:Collation} (hs:Sm c) (hn:∀g∈c.Groups,g.Name.length≤MX):zDR c=some (zQL c):=by
 unfold zDR;have hc:zAW {Entries:=c.Entries,Groups:=c.Groups,Base:=c.Base,Second:=c.Second,Third:=c.Third}=some (ckE c):=yCD hs hn;rw [hc,zA];unfold zQL yT;have h12:=hs.en;by_cases hz:ckE c=0;simp only [hz,decide_true,Bool.not_true,cond_false,if_true,zA];have:=zWW (c.Entries,c.Groups,c.Base,c.Second,c.Third) (by show c.Entries.length≤2000;omega) c.Entries.length 0 [] 0 (by show c.Entries.length - 0=_;omega)
 have h0:zE (fun (x:Int×(List (A9Int×(List Element)))×Int)=>xQ (c.Entries,c.Groups,c.Base,c.Second,c.Third) x.1 x.2.1 x.2.2) (0,[],0)=some (z86 c.Entries [],zPM c.Entries 0):=by simpa using this
 rw [h0];rfl;simp only [hz,decide_false,Bool.not_false,cond_true,if_false,zA];have:=zWW (([]:List Entry),([]:List Group),64448,32,2) (by simp) 0 0 [] 0 (by simp);have h0:zE (fun (x:Int×(List (A9Int×(List Element)))×Int)=>xQ (([]:List Entry),([]:List Group),64448,32,2) x.1 x.2.1 x.2.2) (0,[],0)=some (z86 [] [],zPM [] 0):=by simpa using this
 rw [h0];rfl
structure Vd (es:List Entry):Prop where
 lo:∀x∈es,1≤x.Codes.length
 hi:∀x∈es,x.Codes.length≤8
 el:∀x∈es,x.Elements.length≤20
 ne:es.Pairwise fun x y=>x.Codes≠y.Codes
theorem z4X {c:Collation} (hs:Sm c):Vd (yT c).Entries:=by
 unfold yT;by_cases hz:ckE c=0;simp only [hz,if_true];have hk:chk (pK c) c.Entries 0=none:=by
  unfold ckE at hz;split at hz;cases hz;split at hz;rename_i hg;exact absurd hz hg;cases hc:chk (pK c) c.Entries 0 with
  | none=>rfl
  | some y=>
   rw [hc] at hz;have hy:y≠0:=zHH (P:=fun y=>y≠0) (fun k x y hy=>by
    unfold pK at hy;split at hy;cases hy;assumption;split at hy;cases hy;decide;cases hy) hc
   exact absurd hz hy
 have hn:=zMS hk;have hen:∀j (h:j < c.Entries.length),enE c.Entries[j] c.Base=0∧(0 < j→lx (c.Entries.getD (j - 1) default).Codes (c.Entries[j]).Codes):=by
  intro j h;have:=hn j h;rw [Nat.zero_add] at this;unfold pK at this;split at this;cases this;rename_i h1;split at this;cases this;rename_i h2;refine ⟨by simpa using h1,fun hj=>?_⟩;have h3:¬0≤wY (c.Entries.getD (j - 1) default).Codes (c.Entries[j]).Codes:=fun h=>h2 ⟨hj,h⟩;exact ((zKH _ _ 0).1).1 (by rw [←zYP];omega)
 have hsz:∀j (h:j < c.Entries.length),1≤(c.Entries[j]).Codes.length∧(c.Entries[j]).Codes.length≤8:=by
  intro j h;have:=(hen j h).1;unfold enE at this;split at this;cases this;omega
 have hlt:∀n i (h:i+n+1 < c.Entries.length),lx (c.Entries[i]).Codes (c.Entries[i+n+1]).Codes:=by
  intro n
  induction n with
  | zero=>
   intro i h;have:=(hen (i+1) (by omega)).2 (by omega);have e1:c.Entries.getD (i+1 - 1) default=c.Entries[i]:=by
    have:i < c.Entries.length:=by omega
    simp [this]
   rw [e1] at this;exact this
  | succ n ih=>
   intro i h;have h1:=ih i (by omega);have h2:=(hen (i+(n+1)+1) (by omega)).2 (by omega);have e1:c.Entries.getD (i+(n+1)+1 - 1) default=c.Entries[i+n+1]:=by
    have:i+n+1 < c.Entries.length:=by omega
    rw [show i+(n+1)+1 - 1=i+n+1 by omega];simp [this]
   rw [e1] at h2;exact zPL h1 h2
 refine ⟨fun x hx=>?_,fun x hx=>?_,hs.el,?_⟩;obtain ⟨j,hj,rfl⟩:=List.getElem_of_mem hx;exact (hsz j hj).1;obtain ⟨j,hj,rfl⟩:=List.getElem_of_mem hx;exact (hsz j hj).2;rw [List.pairwise_iff_getElem];intro i j hi hj hij he;have:=hlt (j - i - 1) i (by omega);have e1:i+(j - i - 1)+1=j:=by omega
 simp only [e1] at this;rw [he] at this;exact zWV this;simp only [hz,if_false];exact ⟨by simp,by simp,by simp,by simp⟩
theorem wH {κ ν:Type} [DecidableEq κ] (m:List (κ×ν)) (k k': κ) (v: ν):mget (zAV m k v) k'=if k'=k then some v else mget m k':=by
 induction m with
 | nil=>simp only [zAV,mget]
 | cons p m ih=>
  obtain ⟨q,u⟩:=p;simp only [zAV];by_cases hq:k=q;subst hq;simp only [if_true,mget];by_cases h:k'=k <;> simp [h];simp only [hq,if_false,mget];by_cases h:k'=q;subst h;have:¬k'=k:=fun e=>hq e.symm;simp [this];simp only [h,if_false];exact ih
theorem z58 (codes:List Int) (hc:codes.length≤8):∀(es:List Entry) (m:List (A9Int×List Element)),(∀x∈es,x.Codes.length≤8)→es.Pairwise (fun x y=>x.Codes≠y.Codes)→
    mget (z86 es m) (zQK codes)=match es.find? (fun x=>decide (x.Codes=codes)) with | some x=>some x.Elements | none=>mget m (zQK codes)
  | [],m,_,_=>rfl
  | x::es,m,h8,hp=>by
    rw [List.pairwise_cons] at hp;have ih:=z58 codes hc es (zAV m (zQK x.Codes) x.Elements) (fun y hy=>h8 y (by simp [hy])) hp.2;show mget (z86 es (zAV m (zQK x.Codes) x.Elements)) (zQK codes)=_;rw [ih,wH];by_cases he:x.Codes=codes
    · have hno:es.find? (fun x=>decide (x.Codes=codes))=none:=by
        rw [List.find?_eq_none];intro y hy;have:=hp.1 y hy;simp only [decide_eq_true_eq];intro e;exact this (he.trans e.symm)
      simp [hno,he]
    · have hk:¬zQK codes=zQK x.Codes:=fun e=>he (yCE hc e).symm
      simp [he,hk]
theorem zYQ:∀(es:List Entry) (n:Int),n≤zPM es n∧∀x∈es,(x.Codes.length:Int)≤zPM es n
 | [],n=>⟨by show n≤n;omega,by simp⟩
 | x::es,n=>by
  have ih:=zYQ es (max n (x.Codes.length:Int));show n≤zPM es (max n (x.Codes.length:Int))∧∀y∈x::es,(y.Codes.length:Int)≤zPM es (max n (x.Codes.length:Int));refine ⟨by omega,fun y hy=>?_⟩;rcases List.mem_cons.1 hy with rfl | hy
  omega;exact ih.2 y hy
theorem yCF:∀(es:List Entry) (n:Int),(∀x∈es,x.Codes.length≤8)→n≤8→zPM es n≤8
 | [],n,_,h=>h
 | x::es,n,h8,h=>yCF es (max n (x.Codes.length:Int)) (fun y hy=>h8 y (by simp [hy])) (by have:=h8 x (by simp);omega)
def zD9 (es:List Entry) (codes:List Int):List Element×Bool:=match es.find? (fun x=>decide (x.Codes=codes)) with
 | some x=>(x.Elements,true)
 | none=>([],false)
theorem yGC {c:Collation} (hs:Sm c) {codes:List Int}:jQ (zQL c) codes=some (zD9 (yT c).Entries codes):=by
  have hv:=z4X hs;unfold jQ;simp only [zQ,z1Y,zA];have hlon:=zYQ (yT c).Entries 0;have hlb:=yCF (yT c).Entries 0 hv.hi (by omega);by_cases h0:codes.length=0∨zPM (yT c).Entries 0 < (codes.length:Int)
  · have e1:(decide ((codes.length:Int)=0) ||decide ((zQL c).longest < (codes.length:Int)))=true:=by
      simp only [Bool.or_eq_true,decide_eq_true_eq];rcases h0 with h | h
      · left;omega
      · right;exact h
    rw [e1,cond_true];have hno:(yT c).Entries.find? (fun x=>decide (x.Codes=codes))=none:=by
      rw [List.find?_eq_none];intro x hx;simp only [decide_eq_true_eq];intro e;have h1:=hv.lo x hx;have h2:=hlon.2 x hx;rw [e] at h1 h2;rcases h0 with h | h <;> omega
    simp only [zD9,hno]
  · have e1:(decide ((codes.length:Int)=0) ||decide ((zQL c).longest < (codes.length:Int)))=false:=by
      simp only [Bool.or_eq_false_iff,decide_eq_false_iff_not];refine ⟨by omega,fun h=>h0 (.inr h)⟩
    rw [e1,cond_false];have hg:=z58 codes (by omega) (yT c).Entries [] hv.hi hv.ne;have hg2:mget (zQL c).entries (zQK codes)=match (yT c).Entries.find? (fun x=>decide (x.Codes=codes)) with | some x=>some x.Elements | none=>none:=hg
    simp only [zAT,zC1,hg2,zD9];cases (yT c).Entries.find? (fun x=>decide (x.Codes=codes)) <;> rfl
end Go.M
namespace Go.M
open Go.AV
theorem yJV {α:Type} {l:List α} (h:l.length≤2000):app [] l=some l:=by
 rw [xN (by simp;omega)]
 rfl
theorem zT5 {c:Collation} (hs:Sm c) (hn:∀g∈c.Groups,g.Name.length≤MX):zF4 c=some (yT c):=by unfold zF4 yT;rw [z1X hs hn,zA];by_cases hz:ckE c=0 <;> simp [hz]
theorem zPN {a b:List Int} (ha:a.length≤4611686018427387904):u2 a b=some (decide (a=b)):=by unfold u2;rw [zJ1 ha,zA,zYP];congr 1;rw [Bool.eq_iff_iff];simp only [decide_eq_true_eq];exact (zKH a b 0).2
theorem z1Z (codes:List Int):∀(es:List Entry) (k:Nat),chk (fun _ (x:Entry)=>if x.Codes=codes then some (true,x.Elements) else none) es k=(es.find? (fun x=>decide (x.Codes=codes))).map fun x=>(true,x.Elements)
 | [],_=>rfl
 | x::es,k=>by
  simp only [chk,List.find?_cons];by_cases h:x.Codes=codes;simp [h];simp only [h,if_false,decide_false];exact z1Z codes es (k+1)
theorem z4Y {es:List Entry} (hv:Vd es) (hl:es.length≤2000) {d:Collation} (hd:d.Entries=es) (codes:List Int):zDX d codes=some (zD9 es codes):=by
 have hloop:zE (fun (v:Int)=>zDE d codes v) 0=some (toS (chk (fun _ (x:Entry)=>if x.Codes=codes then some (true,x.Elements) else none) es 0)):=by
  subst hd;refine j7 d.Entries _ (fun k h=>?_) (fun k h=>?_);have hx:=List.getElem_mem h;have e8:=hv.hi _ hx;simp only [zDE,yV h,cond_true,zU h,zA,zPN (Nat.le_trans e8 (by omega)),zO (k:=k) (by omega)];by_cases hq:(d.Entries[k]).Codes=codes;rw [yJV (Nat.le_trans (hv.el _ hx) (by omega))];simp [hq,stp,zA];simp [hq,stp];simp only [zDE,kO h,cond_false]
 unfold zDX zD9;rw [hloop,zA,jR,z1Z];cases es.find? (fun x=>decide (x.Codes=codes)) <;> rfl
theorem yGD {c:Collation} (hs:Sm c):(yT c).Entries.length≤2000:=by unfold yT;have:=hs.en;by_cases hz:ckE c=0;simp only [hz,if_true];omega;simp [hz]
theorem yGE {es:List Entry} (hv:Vd es) (codes:List Int):(zD9 es codes).1.length≤2000:=by
 unfold zD9;cases h:es.find? (fun x=>decide (x.Codes=codes)) with
 | none=>simp
 | some x=>exact Nat.le_trans (hv.el x (List.mem_of_find?_eq_some h)) (by omega)
def zVK (d:Collation) (code:Int):List Element:=if vld code=true then
 [({Primary:=wi (d.Base+wi (code.tdiv 32768)),Secondary:=d.Second,Tertiary:=d.Third,Variable:=false}:Element),({Primary:=wi (32768+code.tmod 32768),Secondary:=0,Tertiary:=0,Variable:=false}:Element)] else []
theorem z10 (c:Collation) (code:Int):j6 (zQL c) code=some (zVK (yT c) code):=by unfold j6 zVK;rw [zPK,zA];cases vld code <;> simp [zL7,zI2,zQL]
theorem zMT {c:Collation} (hs:Sm c) (hn:∀g∈c.Groups,g.Name.length≤MX) (code:Int):zDY c code=some (zVK (yT c) code):=by unfold zDY zVK;rw [zE5,zA,zT5 hs hn];cases vld code <;> simp [zL7,zI2]
theorem yGF (d:Collation) (code:Int):(zVK d code).length≤2000:=by unfold zVK;cases vld code <;> simp
end Go.M
namespace Go.M
open Go.AV
def nth {α:Type} [Inhabited α] (l:List α) (k:Nat): α:=l.getD k default
theorem z5 {α:Type} [Inhabited α] {l:List α} {k:Nat} (h:k < l.length):z7 l (k:Int)=some (nth l k):=by rw [zU h];simp [nth,h]
theorem w7 {α:Type} [Inhabited α] {l:List α} {k:Nat} (h:k < l.length):nth l k∈l:=by simp [nth,h]
theorem zCN {α:Type} [Inhabited α] {l:List α} {k:Nat} (h:k < l.length):nth l k=l[k]:=by simp [nth,h]
theorem zCY {α:Type} [Inhabited α] {l:List α} {p: α→Prop}:(∀k,k < l.length→p (nth l k))↔∀x∈l,p x:=by
 constructor;intro h x hx;obtain ⟨k,hk,rfl⟩:=List.getElem_of_mem hx;have:=h k hk
 rwa [zCN hk] at this
 intro h k hk;exact h _ (w7 hk)
def Ver (m:Option Int) (p:Prop):Prop:= ∃e,m=some e∧(e=0↔p)
theorem z11 {Y:Type} {body:Int→Option (Stp Int (Unit⊕Y))} (N:Nat) (P:Nat→Prop) (Q:Y→Prop) (s:Nat)
    (hb:∀k,s≤k→k < N→(P k∧body (k:Int)=some (.next ((k+1:Nat):Int)))∨(¬P k∧∃y,Q y∧body (k:Int)=some (.done (.inr y))))
    (he:∀k,N≤k→body (k:Int)=some (.done (.inl ()))):
    ∀(n k:Nat),N - k=n→s≤k→(zE body (k:Int)=some (.inl ())∧∀j,k≤j→j < N→P j)∨(∃y,Q y∧zE body (k:Int)=some (.inr y)∧¬∀j,k≤j→j < N→P j):=by
  intro n
  induction n with
  | zero=>
    intro k hk _;refine .inl ⟨zL (he k (by omega)),fun j h1 h2=>by omega⟩
  | succ n ih=>
    intro k hk hs;rcases hb k hs (by omega) with ⟨hp,h⟩ | ⟨hp,y,hy,h⟩
    · rw [zR h]
      rcases ih (k+1) (by omega) (by omega) with ⟨h1,h2⟩ | ⟨y,hy,h1,h2⟩
      · refine .inl ⟨h1,fun j hj1 hj2=>?_⟩
        by_cases e:j=k
        · subst e;exact hp
        · exact h2 j (by omega) hj2
      · exact .inr ⟨y,hy,h1,fun hh=>h2 fun j hj1 hj2=>hh j (by omega) hj2⟩
    · exact .inr ⟨y,hy,zL h,fun hh=>hp (hh k (Nat.le_refl _) (by omega))⟩
theorem zAQ {X Y:Type} {P:Prop} {b:Bool} {k':X} {y:Y} {Q:Y→Prop} (hb:b=true↔¬P) (hy:Q y):(P∧(cond b (some (Stp.done (Sum.inr y))) (some (.next k')):Option (Stp X (Unit⊕Y)))=some (.next k'))∨(¬P∧∃y',Q y'∧(cond b (some (Stp.done (Sum.inr y))) (some (.next k')):Option (Stp X (Unit⊕Y)))=some (.done (.inr y'))):=by
 cases b with
 | true=>exact .inr ⟨hb.1 rfl,y,hy,rfl⟩
 | false=>exact .inl ⟨Classical.byContradiction (fun h=>Bool.noConfusion (hb.2 h)),rfl⟩
theorem jC {Y:Type} {body:Int→Option (Stp Int (Unit⊕Y))} (N:Nat) (P:Nat→Prop) (Q:Y→Prop)
    (hb:∀k,k < N→(P k∧body (k:Int)=some (.next ((k+1:Nat):Int)))∨(¬P k∧∃y,Q y∧body (k:Int)=some (.done (.inr y))))
    (he:∀k,N≤k→body (k:Int)=some (.done (.inl ()))):
    (zE body 0=some (.inl ())∧∀j,j < N→P j)∨(∃y,Q y∧zE body 0=some (.inr y)∧¬∀j,j < N→P j):=by
  rcases z11 N P Q 0 (fun k _ h=>hb k h) he N 0 (by omega) (by omega) with ⟨h1,h2⟩ | ⟨y,hy,h1,h2⟩
  · exact .inl ⟨h1,fun j hj=>h2 j (by omega) hj⟩
  · exact .inr ⟨y,hy,h1,fun hh=>h2 fun j _ hj=>hh j hj⟩
theorem zNA {Y:Type} {body:Int→Option (Stp Int (Unit⊕Y))} (N:Nat) (P:Nat→Prop) (Q:Y→Prop)
    (hb:∀k,k+1 < N→(P k∧body ((k+1:Nat):Int)=some (.next ((k+2:Nat):Int)))∨(¬P k∧∃y,Q y∧body ((k+1:Nat):Int)=some (.done (.inr y))))
    (he:∀k,N≤k→body (k:Int)=some (.done (.inl ()))):
    (zE body 1=some (.inl ())∧∀j,j+1 < N→P j)∨(∃y,Q y∧zE body 1=some (.inr y)∧¬∀j,j+1 < N→P j):=by
  have:=z11 N (fun k=>P (k - 1)) Q 1 (fun k h1 h2=>by
    cases k with
    | zero=>omega
    | succ k=>exact hb k h2) he (N - 1) 1 (by omega) (by omega)
  rcases this with ⟨h1,h2⟩ | ⟨y,hy,h1,h2⟩
  · exact .inl ⟨h1,fun j hj=>h2 (j+1) (by omega) hj⟩
  · refine .inr ⟨y,hy,h1,fun hh=>h2 fun j hj1 hj2=>?_⟩
    cases j with
    | zero=>omega
    | succ j=>exact hh j hj2
def spOk (s:Span):Prop:=0≤s.Lo∧s.Hi≤1114111∧s.Lo≤s.Hi∧1≤s.Value∧s.Value≤254
def adOk (a b:Span):Prop:=a.Hi < b.Lo∧¬(b.Lo=a.Hi+1∧b.Value=a.Value)
def hgOk (s:Span):Prop:= ¬(s.Lo≤4370∧4352≤s.Hi)∧¬(s.Lo≤4469∧4449≤s.Hi)∧¬(s.Lo≤4546∧4520≤s.Hi)∧¬(s.Lo≤55203∧44032≤s.Hi)
structure CV (l:List Span):Prop where
 sp:∀k,k < l.length→spOk (nth l k)
 ad:∀k,k+1 < l.length→adOk (nth l k) (nth l (k+1))
 hg:∀k,k < l.length→hgOk (nth l k)
theorem yL9 (s:Span):(zE (fun (x:Int)=>xR ({x0:=({Lo:=4352,Hi:=4370}:Range),x1:=({Lo:=4449,Hi:=4469}:Range),x2:=({Lo:=4520,Hi:=4546}:Range),x3:=({Lo:=44032,Hi:=55203}:Range)}:A4Range) s x) 0=some (.inl ())∧hgOk s)∨(zE (fun (x:Int)=>xR ({x0:=({Lo:=4352,Hi:=4370}:Range),x1:=({Lo:=4449,Hi:=4469}:Range),x2:=({Lo:=4520,Hi:=4546}:Range),x3:=({Lo:=44032,Hi:=55203}:Range)}:A4Range) s x) 0=some (.inr 11)∧¬hgOk s):=by
  have h:=jC (body:=fun (x:Int)=>xR ({x0:=({Lo:=4352,Hi:=4370}:Range),x1:=({Lo:=4449,Hi:=4469}:Range),x2:=({Lo:=4520,Hi:=4546}:Range),x3:=({Lo:=44032,Hi:=55203}:Range)}:A4Range) s x) 4
    (fun k=> ¬(s.Lo≤(nth [({Lo:=4352,Hi:=4370}:Range),{Lo:=4449,Hi:=4469},{Lo:=4520,Hi:=4546},{Lo:=44032,Hi:=55203}] k).Hi∧(nth [({Lo:=4352,Hi:=4370}:Range),{Lo:=4449,Hi:=4469},{Lo:=4520,Hi:=4546},{Lo:=44032,Hi:=55203}] k).Lo≤s.Hi)) (fun y=>y=11) (fun k hk=>?_) (fun k hk=>?_)
  · have e:(∀j,j < 4→¬(s.Lo≤(nth [({Lo:=4352,Hi:=4370}:Range),{Lo:=4449,Hi:=4469},{Lo:=4520,Hi:=4546},{Lo:=44032,Hi:=55203}] j).Hi∧(nth [({Lo:=4352,Hi:=4370}:Range),{Lo:=4449,Hi:=4469},{Lo:=4520,Hi:=4546},{Lo:=44032,Hi:=55203}] j).Lo≤s.Hi))↔hgOk s:=by
      unfold hgOk;constructor
      · intro h;exact ⟨h 0 (by omega),h 1 (by omega),h 2 (by omega),h 3 (by omega)⟩
      · rintro ⟨h0,h1,h2,h3⟩ j hj
        match j,hj with
        | 0,_=>exact h0
        | 1,_=>exact h1
        | 2,_=>exact h2
        | 3,_=>exact h3
    rw [e] at h;rcases h with h | ⟨y,rfl,h⟩
    · exact .inl h
    · exact .inr h
  · have hi:z7 [({Lo:=4352,Hi:=4370}:Range),{Lo:=4449,Hi:=4469},{Lo:=4520,Hi:=4546},{Lo:=44032,Hi:=55203}] (k:Int)=some (nth [({Lo:=4352,Hi:=4370}:Range),{Lo:=4449,Hi:=4469},{Lo:=4520,Hi:=4546},{Lo:=44032,Hi:=55203}] k):=z5 (by simpa using hk)
    have hd:decide ((k:Int) < 4)=true:=by simp;omega
    simp only [xR,hd,cond_true,hi,zA,zQ,zO (k:=k) (by omega)];generalize nth [({Lo:=4352,Hi:=4370}:Range),{Lo:=4449,Hi:=4469},{Lo:=4520,Hi:=4546},{Lo:=44032,Hi:=55203}] k=q;by_cases h1:s.Lo≤q.Hi <;> by_cases h2:q.Lo≤s.Hi <;> simp [h1,h2]
  · have hd:decide ((k:Int) < 4)=false:=by simp;omega
    simp only [xR,hd,cond_false]
theorem z12 {l:List Span} (hl:l.length≤2000) (hok:∀x∈l,okSpan x):Ver (zB1 l) (CV l):=by
 have h0:=jC (body:=fun (x:Int)=>uK l x) l.length (fun k=>spOk (nth l k)) (fun y=>y≠0) (fun k hk=>by
  simp only [uK,yV hk,cond_true,z5 hk,zA,zQ,zO (k:=k) (by omega),spOk];generalize nth l k=q;by_cases h1:q.Lo < 0 <;> by_cases h2:1114111 < q.Hi <;> by_cases h3:q.Hi < q.Lo <;> by_cases h4:q.Value < 1 <;> by_cases h5:254 < q.Value <;> simp [h1,h2,h3,h4,h5] <;> omega) (fun k hk=>by simp only [uK,kO hk,cond_false])
 unfold zB1 Ver;rcases h0 with ⟨h0,p0⟩ | ⟨y,hy,h0,p0⟩
 rw [h0];simp only [zA,Sum.elim_inl];have h1:=zNA (body:=fun (x:Int)=>uL l x) l.length (fun k=>adOk (nth l k) (nth l (k+1))) (fun y=>y≠0) (fun k hk=>by
  have hk':k < l.length:=by omega
  have w:=(p0 k hk').2.1;have w0:=(p0 k hk').1;have w1:=(p0 k hk').2.2.1;simp only [uL,yV hk,cond_true,z5 hk,zA,zQ,zO (k:=k+1) (by omega),zCX (k:=k) (by omega),z5 hk',adOk];rw [xS (n:=(nth l k).Hi+1) (by omega) (by omega)];generalize nth l k=q at*;generalize nth l (k+1)=q' at*;exact zAQ (by simp only [Bool.or_eq_true,Bool.and_eq_true,decide_eq_true_eq];omega) (by decide)) (fun k hk=>by simp only [uL,kO hk,cond_false])
 rcases h1 with ⟨h1,p1⟩ | ⟨y,hy,h1,p1⟩;rw [h1];simp only [zA,Sum.elim_inl];have h2:=jC (body:=fun (x:Int)=>uM l x) l.length (fun k=>hgOk (nth l k)) (fun y=>y≠0) (fun k hk=>by
  simp only [uM,yV hk,cond_true,z5 hk,zA,zQ,zO (k:=k) (by omega)];rcases yL9 (nth l k) with ⟨h,p⟩ | ⟨h,p⟩
  rw [h];exact .inl ⟨p,rfl⟩;rw [h];exact .inr ⟨p,11,by decide,rfl⟩) (fun k hk=>by simp only [uM,kO hk,cond_false])
 rcases h2 with ⟨h2,p2⟩ | ⟨y,hy,h2,p2⟩;rw [h2];exact ⟨0,rfl,by simp only [true_iff];exact ⟨p0,p1,p2⟩⟩
 rw [h2];exact ⟨y,rfl,by simp only [hy,false_iff];exact fun h=>p2 h.hg⟩
 rw [h1];exact ⟨y,rfl,by simp only [hy,false_iff];exact fun h=>p1 h.ad⟩
 rw [h0];exact ⟨y,rfl,by simp only [hy,false_iff];exact fun h=>p0 h.sp⟩
end Go.M
namespace Go.M
open Go.AV
theorem yCH:∀(x y:Str),Op.bytesLess x y=decide (x < y)
 | [],[]=>by simp [Op.bytesLess]
 | _::_,[]=>by simp [Op.bytesLess]
 | [],_::_=>by simp [Op.bytesLess]
 | a::x,b::y=>by
  rw [Op.bytesLess,yCH x y];rw [Bool.eq_iff_iff];simp [List.cons_lt_cons_iff]
theorem z4Z (s:Str) (hs:s.length≤MX):zE (fun (x:Int)=>uN s x) 0=some (toS (chk (fun _ (b:UInt8)=>if zGI (b.toNat:Int) then none else some false) s 0)):=by
 refine j7 s _ (fun k h=>?_) (fun k h=>?_);simp only [uN,yV h,cond_true,z1V h,zA,zQ,zO (k:=k) (by unfold MX at hs;omega)]
 have e:(((!(decide ((65:Int)≤(s[k].toNat:Int))&&decide ((s[k].toNat:Int)≤90) ||decide ((97:Int)≤(s[k].toNat:Int))&&decide ((s[k].toNat:Int)≤122)))&& !(decide ((48:Int)≤(s[k].toNat:Int))&&decide ((s[k].toNat:Int)≤57)))&& !decide ((s[k].toNat:Int)=95))= !zGI (s[k].toNat:Int):=by
  unfold zGI;generalize (decide ((65:Int)≤(s[k].toNat:Int))&&decide ((s[k].toNat:Int)≤90) ||decide ((97:Int)≤(s[k].toNat:Int))&&decide ((s[k].toNat:Int)≤122))=A;generalize (decide ((48:Int)≤(s[k].toNat:Int))&&decide ((s[k].toNat:Int)≤57))=B;generalize decide ((s[k].toNat:Int)=95)=C;cases A <;> cases B <;> cases C <;> rfl
 rw [e];cases zGI (s[k].toNat:Int) <;> rfl;simp only [uN,kO h,cond_false]
theorem yCI {s:Str} (hs:s.length≤MX):zDS s=some (zMR s):=by
 unfold zDS;rw [zQ];cases s with
 | nil=>rfl
 | cons x l=>
  have h1:((x::l:Str)== [])=false:=rfl;rw [h1,Bool.false_or];by_cases h2:32 < (x::l).length
  ·
   have:decide ((32:Int) < ((x::l).length:Int))=true:=by simp at h2 ⊢;omega
   rw [this,cond_true];unfold zMR;cases hc:chk (fun _ (b:UInt8)=>if zGI (b.toNat:Int) then none else some false) (x::l) 0 with
   | none=>
    have:decide ((x::l).length≤32)=false:=by simp at h2 ⊢;omega
    simp only [this,Bool.and_false]
   | some y=>
    have:y=false:=zHH (P:=fun y=>y=false) (fun k b y h=>by split at h <;> simp_all) hc
    simp [this]
  ·
   have:decide ((32:Int) < ((x::l).length:Int))=false:=by simp at h2 ⊢;omega
   rw [this,cond_false,z4Z _ hs,zA,jR];unfold zMR;cases chk (fun _ (b:UInt8)=>if zGI (b.toNat:Int) then none else some false) (x::l) 0 with
   | none=>simp at h2 ⊢;omega
   | some y=>rfl
def codesOk (m:Mapping):Prop:=vld m.From=true∧∀c∈m.To,vld c=true
def tagOk (m:Mapping):Prop:=m.Tag= []∨zMR m.Tag=true
def mlt (a b:Mapping):Prop:=a.From < b.From∨(a.From=b.From∧a.Tag < b.Tag)
structure MV (l:List Mapping):Prop where
 co:∀m∈l,codesOk m
 sz:∀m∈l,m.To.length≤64
 tg:∀m∈l,tagOk m
 lt:∀k,k+1 < l.length→mlt (nth l k) (nth l (k+1))
theorem yCJ {body:Int→Option (Stp Int (Unit⊕Int))} {P:Prop} (h:(zE body 0=some (.inl ())∧P)∨(∃y,y≠0∧zE body 0=some (.inr y)∧¬P)) {f:Unit→Option Int} {R:Prop} (hf:P→Ver (f ()) R) (hR:R→P):
    Ver ((zE body 0).bind fun y=>y.elim f fun y=>some y) R:=by
  rcases h with ⟨h,p⟩ | ⟨y,hy,h,p⟩
  · rw [h];exact hf p
  · rw [h];exact ⟨y,rfl,by simp only [hy,false_iff];exact fun r=>p (hR r)⟩
section
variable {l:List Mapping} (hl:l.length≤2000) (hto:∀m∈l,m.To.length≤2000) (htg:∀m∈l,m.Tag.length≤MX)
include hl hto htg
theorem yCK:Ver (zEL l) ((∀m∈l,codesOk m)∧(∀m∈l,m.To.length≤64)∧∀m∈l,tagOk m):=by
  unfold zEL;refine yCJ (P:= ∀m∈l,codesOk m) ?_ (fun p0=>?_) (fun r=>r.1)
  · have h:=jC (body:=fun (x:Int)=>zAB l x) l.length (fun k=>codesOk (nth l k)) (fun y=>y≠0) (fun k hk=>?_) (fun k hk=>by simp only [zAB,kO hk,cond_false])
    · rw [zCY (p:=codesOk)] at h;exact h
    · simp only [zAB,yV hk,cond_true,z5 hk,zA,zPK,zO (k:=k) (by omega)]
      by_cases hv:vld (nth l k).From=true
      · have h2:=jC (body:=fun (x:Int)=>zAA (nth l k) x) (nth l k).To.length (fun j=>vld (nth (nth l k).To j)=true) (fun y=>y≠0) (fun j hj=>by
          simp only [zAA,yV hj,cond_true,z5 hj,zA,zPK,zO (k:=j) (by have:=hto _ (w7 hk);omega)]
          exact zAQ (by simp) (by decide)) (fun j hj=>by simp only [zAA,kO hj,cond_false])
        rw [zCY (p:=fun c=>vld c=true)] at h2;simp only [hv,Bool.not_true,cond_false];rcases h2 with ⟨h2,p⟩ | ⟨y,hy,h2,p⟩
        · rw [h2];exact .inl ⟨⟨hv,p⟩,rfl⟩
        · rw [h2];exact .inr ⟨fun q=>p q.2,y,hy,rfl⟩
      · simp only [Bool.not_eq_true] at hv
        simp only [hv,Bool.not_false,cond_true];exact .inr ⟨fun q=>(by rw [q.1] at hv;cases hv),1,by decide,rfl⟩
  · refine yCJ (P:= ∀m∈l,m.To.length≤64) ?_ (fun p1=>?_) (fun r=>r.2.1)
    · have h:=jC (body:=fun (x:Int)=>zAC l x) l.length (fun k=>(nth l k).To.length≤64) (fun y=>y≠0) (fun k hk=>by
        simp only [zAC,yV hk,cond_true,z5 hk,zA,zO (k:=k) (by omega)];exact zAQ (by simp only [decide_eq_true_eq];omega) (by decide)) (fun k hk=>by simp only [zAC,kO hk,cond_false])
      rw [zCY (p:=fun (m:Mapping)=>m.To.length≤64)] at h;exact h
    · refine yCJ (P:= ∀m∈l,tagOk m) ?_ (fun p2=>⟨0,rfl,by simp only [true_iff];exact ⟨p0,p1,p2⟩⟩) (fun r=>r.2.2)
      have h:=jC (body:=fun (x:Int)=>zAD l x) l.length (fun k=>tagOk (nth l k)) (fun y=>y≠0) (fun k hk=>by
        simp only [zAD,yV hk,cond_true,z5 hk,zA,zQ,zO (k:=k) (by omega),tagOk];have hb:((nth l k).Tag== [])=decide ((nth l k).Tag= []):=by cases (nth l k).Tag <;> rfl
        rw [hb];by_cases ht:(nth l k).Tag= []
        · simp only [ht,decide_true,Bool.not_true,vB,zA,Bool.false_and,cond_false]
          exact .inl ⟨.inl trivial,trivial⟩
        · simp only [ht,decide_false,Bool.not_false,xC,yCI (htg _ (w7 hk)),zA,Bool.true_and,false_or]
          exact zAQ (by simp) (by decide)) (fun k hk=>by simp only [zAD,kO hk,cond_false])
      rw [zCY (p:=tagOk)] at h;exact h
omit hl hto htg in
theorem yH9 (a b:Int):zFY [a,b]=some (if a=0 then b else a):=by have e0:decide ((0:Int) < (([a,b]:List Int).length:Int))=true:=rfl;have e1:decide ((1:Int) < (([a,b]:List Int).length:Int))=true:=rfl;have e2:decide ((2:Int) < (([a,b]:List Int).length:Int))=false:=rfl;unfold zFY;rw [jU];simp only [zC8,e0,cond_true,yB8,zA];by_cases ha:a=0;subst ha;simp only [decide_true,Bool.not_true,cond_false,if_true];have w1:wi (0+1)=1:=xS (by omega) (by omega);rw [w1,jU];simp only [zC8,e1,cond_true];have:z7 ([0,b]:List Int) 1=some b:=rfl;rw [this];simp only [zA];by_cases hb:b=0;subst hb;simp only [decide_true,Bool.not_true,cond_false];have w2:wi (1+1)=2:=xS (by omega) (by omega);rw [w2,jU];simp only [zC8,e2,cond_false];rfl;simp [hb];simp [ha]
omit hl hto htg in
theorem yN4 (x y:Str):zAN x y=some (if x < y then -1 else if y < x then 1 else 0):=by
  unfold zAN zB2;simp only [zA,beq_self_eq_true,Bool.not_true,cond_false,yCH];by_cases h:x < y
  · simp [h]
  · by_cases h2:x=y
    · subst h2;simp [h]
    · have h3:y < x:=by
        by_cases h3:y < x
        · exact h3
        · exact absurd (List.le_antisymm (List.not_lt.1 h3) (List.not_lt.1 h)) h2
      have hb:(x==y)=false:=by simpa using h2
      simp [h,h3,hb]
omit hl hto htg in
theorem yN5 (a b:Mapping):∃e,zC4 a b=some e∧(0≤e↔¬mlt a b):=by
 unfold zC4;simp only [z84,yN4,zA,yH9];refine ⟨_,rfl,?_⟩;unfold mlt;by_cases h1:a.From < b.From;simp [h1];by_cases h2:b.From < a.From;have:¬a.From=b.From:=by omega
 simp [h1,h2,this];have:a.From=b.From:=by omega
 by_cases h3:a.Tag < b.Tag;simp [this,h3];by_cases h4:b.Tag < a.Tag <;> simp [this,h3,h4]
omit hto htg in
theorem yGG:∀(n k:Nat) (b:Bool),l.length - k=n→1≤k→∃r,zE (fun (x:Bool×Int)=>vF l x.1 x.2) (b,(k:Int))=some r∧(r=true↔b=true∧∀j,k≤j+1→j+1 < l.length→mlt (nth l j) (nth l (j+1))):=by
 intro n
 induction n with
 | zero=>
  intro k b hk h1;refine ⟨b,?_,?_⟩;rw [jU];simp only [vF,kO (show l.length≤k by omega),cond_false];exact ⟨fun h=>⟨h,fun j h2 h3=>by omega⟩,fun h=>h.1⟩
 | succ n ih=>
  intro k b hk h1;obtain ⟨k,rfl⟩:∃k',k=k'+1:=⟨k - 1,by omega⟩;have hlt:k+1 < l.length:=by omega
  obtain ⟨e,he,hp⟩:=yN5 (nth l k) (nth l (k+1));obtain ⟨r,hr,hq⟩:=ih (k+2) (cond (decide (0≤e)) false b) (by omega) (by omega);refine ⟨r,?_,?_⟩;rw [jU];simp only [vF,yV hlt,cond_true,zCX (k:=k) (by omega),z5 (show k < l.length by omega),z5 hlt,zA,he,zO (k:=k+1) (by omega)];rw [←hr];cases decide (0≤e) <;> rfl;rw [hq];by_cases hm:mlt (nth l k) (nth l (k+1));have:decide (0≤e)=false:=by simp only [decide_eq_false_iff_not];exact fun h=>hp.1 h hm
  rw [this,cond_false];constructor
  rintro ⟨a,c⟩
  refine ⟨a,fun j h2 h3=>?_⟩;by_cases ej:j=k;subst ej;exact hm;exact c j (by omega) h3
  rintro ⟨a,c⟩;exact ⟨a,fun j h2 h3=>c j (by omega) h3⟩
  have:decide (0≤e)=true:=by simp only [decide_eq_true_eq];exact hp.2 hm
  rw [this,cond_true];constructor
  rintro ⟨a,_⟩;cases a
  rintro ⟨_,c⟩;exact absurd (c k (by omega) hlt) hm
omit hto htg in
theorem yJW:∀(n k:Nat) (m:List (Mapping_key×Bool)),l.length - k=n→∃r,zE (fun (x:Int×(List (Mapping_key×Bool)))=>vG l x.1 x.2) ((k:Int),m)=some r∧(r= .inl ()∨r= .inr 5):=by
 intro n
 induction n with
 | zero=>
  intro k m hk;refine ⟨.inl (),?_,.inl rfl⟩;rw [jU];simp only [vG,kO (show l.length≤k by omega),cond_false]
 | succ n ih=>
  intro k m hk;have hlt:k < l.length:=by omega
  rw [jU];simp only [vG,yV hlt,cond_true,z5 hlt,zA,zEM,zO (k:=k) (by omega)];cases zAT m ({from_:=(nth l k).From,tag:=(nth l k).Tag}:Mapping_key) false with
  | true=>exact ⟨.inr 5,rfl,.inr rfl⟩
  | false=>exact ih (k+1) _ (by omega)
theorem yJX:Ver (zEN l) (MV l):=by
 obtain ⟨e,he,hp⟩:=yCK hl hto htg;unfold zEN;rw [he,zA];by_cases h0:e=0;subst h0;simp only [decide_true,Bool.not_true,cond_false];obtain ⟨p0,p1,p2⟩:=hp.1 rfl;obtain ⟨r,hr,hq⟩:=yGG hl (l.length - 1) 1 true rfl (by omega);have hr':zE (fun (x:Bool×Int)=>vF l x.1 x.2) (true,1)=some r:=hr;rw [hr',zA];cases r with
 | true=>exact ⟨0,rfl,by simp only [true_iff];exact ⟨p0,p1,p2,fun k hk=>(hq.1 rfl).2 k (by omega) hk⟩⟩
 | false=>
  have hno:¬MV l:=fun h=>by have:=hq.2 ⟨rfl,fun j _ hj=>h.lt j hj⟩;cases this
  obtain ⟨r,hr,hrr⟩:=yJW hl l.length 0 [] (by omega);have hr':zE (fun (x:Int×(List (Mapping_key×Bool)))=>vG l x.1 x.2) (0,[])=some r:=hr;simp only [cond_false];rw [hr',zA];rcases hrr with rfl | rfl;exact ⟨4,rfl,by simp only [show ((4:Int)=0)=False by simp,false_iff];exact hno⟩
  exact ⟨5,rfl,by simp only [show ((5:Int)=0)=False by simp,false_iff];exact hno⟩
 have:(!decide (e=0))=true:=by simp [h0]
 rw [this,cond_true];exact ⟨e,rfl,by simp only [h0,false_iff];exact fun h=>h0 (hp.2 ⟨h.co,h.sz,h.tg⟩)⟩
end
end Go.M
namespace Go.M
open Go.AV
section
variable {α:Type} (lt: α→α→Bool)
def vU:List α→α→List α→List α
 | [],x,s=>x::s
 | y::r,x,s=>if lt x y then vU r x (y::s) else (y::r).reverse++x::s
def wJ (l:List α) (p:List α):List α:=l.foldl (fun p x=>vU lt p.reverse x []) p
theorem z13:∀(r:List α) (x: α) (s t:List α),vU lt r x (s++t)=vU lt r x s++t
 | [],x,s,t=>rfl
 | y::r,x,s,t=>by
  unfold vU;split;exact z13 r x (y::s) t;simp
theorem zQM:∀(r:List α) (x: α) (s:List α),(vU lt r x s).Perm (r.reverse++x::s)
 | [],x,s=> .refl _
 | y::r,x,s=>by
  unfold vU;split
  ·
   refine (zQM r x (y::s)).trans ?_;simp only [List.reverse_cons,List.append_assoc,List.singleton_append];exact List.Perm.append_left _ (List.Perm.swap y x s)
  · exact .refl _
theorem zT6 (r:List α) (x: α) (s:List α):(vU lt r x s).length=r.length+1+s.length:=by rw [(zQM lt r x s).length_eq];simp;omega
theorem zIV:∀(l p:List α),(wJ lt l p).Perm (p++l)
 | [],p=>by simp [wJ]
 | x::l,p=>by
  have h:=zIV l (vU lt p.reverse x []);refine h.trans ?_;have h2:=zQM lt p.reverse x [];rw [List.reverse_reverse] at h2;have h3:=List.Perm.append_right l h2;simpa using h3
variable (tr:∀a b c,lt b a=false→lt c b=false→lt c a=false) (asy:∀a b,lt a b=true→lt b a=false)
abbrev LeB (a b: α):Prop:=lt b a=false
include tr asy
theorem zRF:∀(r:List α) (x: α) (s:List α),(r.reverse++s).Pairwise (LeB lt)→(∀y∈s,LeB lt x y)→(vU lt r x s).Pairwise (LeB lt)
 | [],x,s,h,hx=>by simpa [vU] using ⟨hx,h⟩
 | y::r,x,s,h,hx=>by
  unfold vU;split;rename_i hlt;refine zRF r x (y::s) (by simpa using h) ?_;intro z hz;rcases List.mem_cons.1 hz with rfl | hz
  exact asy _ _ hlt;exact hx z hz;rename_i hlt;have hyx:LeB lt y x:=by simpa using hlt
  rw [List.pairwise_append] at h ⊢;refine ⟨h.1,List.pairwise_cons.2 ⟨hx,h.2.1⟩,?_⟩;intro a ha b hb;have hay:LeB lt a y∨a=y:=by
   have h1:=h.1;rw [List.reverse_cons,List.pairwise_append] at h1;rw [List.reverse_cons,List.mem_append] at ha;rcases ha with ha | ha
   exact .inl (h1.2.2 a ha y (by simp));exact .inr (by simpa using ha)
  rcases List.mem_cons.1 hb with rfl | hb;rcases hay with hay | rfl;exact tr _ _ _ hay hyx;exact hyx;exact h.2.2 a ha b hb
theorem zK7:∀(l p:List α),p.Pairwise (LeB lt)→(wJ lt l p).Pairwise (LeB lt)
 | [],p,h=>h
 | x::l,p,h=>zK7 l _ (zRF lt tr asy p.reverse x [] (by simpa using h) (by simp))
omit tr asy in
theorem z14:∀(l p:List α),(p++l).Pairwise (LeB lt)→wJ lt l p=p++l
 | [],p,_=>by simp [wJ]
 | x::l,p,h=>by
  have e:vU lt p.reverse x []=p++ [x]:=by
   cases hp:p.reverse with
   | nil=>
    have:p= []:=by simpa using hp
    subst this;rfl
   | cons y r=>
    unfold vU;have hp':p=r.reverse++ [y]:=by have:=congrArg List.reverse hp;simpa using this
    have:lt x y=false:=by
     rw [hp',List.pairwise_append] at h;exact h.2.2 y (by simp) x (by simp)
    rw [this];simp [hp']
  show wJ lt l (vU lt p.reverse x [])=_;rw [e,z14 l (p++ [x]) (by simpa using h)];simp
end
def rlt (a b:Range):Bool:=decide (a.Lo < b.Lo) ||(decide (a.Lo=b.Lo)&&decide (a.Hi < b.Hi))
theorem yN6 (a b:Range):∃e,zBA a b=some e∧(e < 0↔rlt a b=true):=by
 unfold zBA;simp only [z84,zA,yH9];refine ⟨_,rfl,?_⟩;unfold rlt;by_cases h1:a.Lo < b.Lo;simp [h1];by_cases h2:b.Lo < a.Lo;have:¬a.Lo=b.Lo:=by omega
 simp [h1,h2,this];have:a.Lo=b.Lo:=by omega
 by_cases h3:a.Hi < b.Hi;simp [this,h3];by_cases h4:b.Hi < a.Hi <;> simp [this,h3,h4]
theorem wT {α:Type} {p s:List α} {x: α} {k:Nat} (h:k=p.length):z7 (p++x::s) (k:Int)=some x:=by subst h;rw [zU (by simp)];simp
theorem uZ {α:Type} {p s:List α} {x y: α} {k:Nat} (h:k=p.length):u7 (p++x::s) (k:Int) y=some (p++y::s):=by subst h;rw [zFQ (by simp)];simp
section
variable {f:Range→Range→Option Int} {lt:Range→Range→Bool} (hf:∀a b,∃e,f a b=some e∧(e < 0↔lt a b=true))
include hf
theorem yIA:∀(r:List Range) (x:Range) (s:List Range),r.length≤2000→zE (fun (q:Int×List Range)=>yQ 0 f q.1 q.2) ((r.length:Int),r.reverse++x::s)=some (vU lt r x s)
 | [],x,s,_=>by
  rw [jU];simp only [yQ,List.length_nil,zQ];have:decide ((0:Int) < ((0:Nat):Int))=false:=rfl;rw [this];simp [vB,vU]
 | y::r,x,s,hr=>by
  simp only [List.length_cons] at hr ⊢;have hd:decide ((0:Int) < ((r.length+1:Nat):Int))=true:=by simp <;> omega
  have hl:(y::r).reverse++x::s=r.reverse++y::(x::s):=by simp
  have hw:wi (((r.length+1:Nat):Int) - 1)=(r.length:Int):=zCX (by omega);have i1:z7 ((y::r).reverse++x::s) ((r.length+1:Nat):Int)=some x:=wT (by simp);have i0:z7 ((y::r).reverse++x::s) (r.length:Int)=some y:=by rw [hl];exact wT (by simp)
  obtain ⟨e,he,hp⟩:=hf x y;rw [jU];simp only [yQ,hd,zQ,xC,i1,hw,i0,zA,he,Bool.true_and];unfold vU;by_cases hx:lt x y=true;have hd2:decide (e < 0)=true:=by simpa using hp.2 hx
  have s1:u7 ((y::r).reverse++x::s) ((r.length+1:Nat):Int) y=some ((y::r).reverse++y::s):=uZ (by simp);have hl2:(y::r).reverse++y::s=r.reverse++y::(y::s):=by simp
  have i2:z7 ((y::r).reverse++y::s) (r.length:Int)=some y:=by rw [hl2];exact wT (by simp)
  have s2:u7 ((y::r).reverse++y::s) (r.length:Int) x=some (r.reverse++x::(y::s)):=by rw [hl2];exact uZ (by simp)
  simp only [hd2,cond_true,s1,zA,i2,s2,hx,if_true];exact yIA r x (y::s) (by omega);have hd2:decide (e < 0)=false:=by simp only [decide_eq_false_iff_not];exact fun h=>hx (hp.1 h)
  simp only [hd2,cond_false,hx];rfl
theorem yCL:∀(l p:List Range),1≤p.length→p.length+l.length≤2000→zE (fun (q:Int×List Range)=>yC ((p.length+l.length:Nat):Int) 0 f q.1 q.2) ((p.length:Int),p++l)=some (wJ lt l p)
 | [],p,_,_=>by
  rw [jU];simp only [yC,List.length_nil,Nat.add_zero,kO (Nat.le_refl _),cond_false,List.append_nil];rfl
 | x::l,p,h1,h2=>by
  simp only [List.length_cons] at h2 ⊢;have hin:=yIA hf p.reverse x l (by simp;omega)
  rw [List.length_reverse,List.reverse_reverse] at hin;rw [jU];simp only [yC,yV (show p.length < p.length+(l.length+1) by omega),cond_true];rw [hin,zA];have e1:vU lt p.reverse x l=vU lt p.reverse x []++l:=by
   have:=z13 lt p.reverse x [] l;simpa using this
  have hlen:(vU lt p.reverse x []).length=p.length+1:=by rw [zT6];simp
  have ih:=yCL l (vU lt p.reverse x []) (by omega) (by omega);rw [hlen] at ih;have e3:((p.length+1+l.length:Nat):Int)=((p.length+(l.length+1):Nat):Int):=by congr 1;omega
  rw [e3] at ih;rw [e1,zO (by omega)];exact ih
theorem yGH (l:List Range) (h:l.length≤2000):kX l 0 (l.length:Int) f=some (wJ lt l []):=by
 unfold kX;have hw:wi (0+1)=((1:Nat):Int):=xS (by omega) (by omega);rw [hw];cases l with
 | nil=>
  rw [jU];simp only [yC,kO (show ([]:List Range).length≤1 by simp),cond_false];rfl
 | cons x l=>
  have:=yCL hf l [x] (by simp) (by simp at h ⊢;omega)
  have e:((([x]:List Range).length+l.length:Nat):Int)=((x::l).length:Int):=by simp;omega
  rw [e] at this;have e2:(([x]:List Range).length:Int)=((1:Nat):Int):=rfl;rw [e2] at this;rw [show ([x]++l:List Range)=x::l from rfl] at this;rw [this];rfl
end
theorem yGI:∀n:Fin 13,∃e,zEO (wu ((n.val:Nat):Int))=some e:=by
 intro n;have:∀n:Fin 13,(zEO (wu ((n.val:Nat):Int))).isSome=true:=by decide
 exact Option.isSome_iff_exists.1 (this n)
theorem yGJ {l:List Range} (h:l.length≤12):k5 l (fun a b=>zBA a b)=some (wJ rlt l []):=by
 unfold k5 xE;obtain ⟨e,he⟩:=yGI ⟨l.length,by omega⟩;rw [he,zA];have hb:kR (l.length:Int) 0 l (fun a b=>zBA a b) e=some (.done (wJ rlt l [])):=by
  unfold kR;have hw:wi ((l.length:Int) - 0)=(l.length:Int):=xS (by omega) (by omega);have hd:decide ((l.length:Int)≤12)=true:=by simp;omega
  rw [hw,hd,cond_true,yGH (lt:=rlt) yN6 l (by omega)];rfl
 rw [zL (body:=fun (_:Unit)=>kR (l.length:Int) 0 l (fun a b=>zBA a b) e) hb];rfl
theorem yJY (a b c:Range) (h1:rlt b a=false) (h2:rlt c b=false):rlt c a=false:=by unfold rlt at*;simp only [Bool.or_eq_false_iff,Bool.and_eq_false_iff,decide_eq_false_iff_not] at*;omega
theorem yGK (a b:Range) (h1:rlt a b=true):rlt b a=false:=by unfold rlt at*;simp only [Bool.or_eq_false_iff,Bool.and_eq_false_iff,decide_eq_false_iff_not,Bool.or_eq_true,Bool.and_eq_true,decide_eq_true_eq] at*;omega
end Go.M
namespace Go.M
open Go.AV
def zCZ (r:Range):Prop:=0≤r.Lo∧r.Lo≤r.Hi∧r.Hi≤1114111
def Can:List Range→Prop
 | []=>True
 | [r]=>zCZ r
 | r::q::l=>zCZ r∧r.Hi+1 < q.Lo∧Can (q::l)
theorem Can.head {r:Range} {l:List Range} (h:Can (r::l)):zCZ r:=by
 cases l with
 | nil=>exact h
 | cons q l=>exact h.1
theorem Can.tail {r:Range} {l:List Range} (h:Can (r::l)):Can l:=by
 cases l with
 | nil=>trivial
 | cons q l=>exact h.2.2
theorem Can.ok:∀{l:List Range},Can l→∀r∈l,zCZ r
 | [],_,r,hr=>by cases hr
 | q::l,h,r,hr=>by
  rcases List.mem_cons.1 hr with rfl | hr;exact h.head;exact Can.ok h.tail r hr
theorem Can.gap:∀{l:List Range} {r:Range},Can (r::l)→∀q∈l,r.Hi+1 < q.Lo
 | [],_,_,q,hq=>by cases hq
 | a::l,r,h,q,hq=>by
  rcases List.mem_cons.1 hq with rfl | hq;exact h.2.1;have h1:=Can.gap h.2.2 q hq;have h2:=(h.2.2.head);have h3:=h.2.1;unfold zCZ at h2;omega
theorem Can.sorted:∀{l:List Range},Can l→l.Pairwise (LeB rlt)
 | [],_=> .nil
 | r::l,h=>by
  refine List.pairwise_cons.2 ⟨fun q hq=>?_,Can.sorted h.tail⟩;have h1:=Can.gap h q hq;have h2:=h.head;unfold zCZ at h2;unfold LeB rlt;simp only [Bool.or_eq_false_iff,Bool.and_eq_false_iff,decide_eq_false_iff_not];omega
def zYR (r:Range):Range:={Lo:=max r.Lo 0,Hi:=min r.Hi 1114111}
def zE6 (l:List Range):List Range:=(l.map zYR).filter fun r=>decide (r.Lo≤r.Hi)
theorem zT7 (x:Range) (l:List Range):zE6 (x::l)=(if (zYR x).Lo≤(zYR x).Hi then [zYR x] else [])++zE6 l:=by unfold zE6;rw [List.map_cons,List.filter_cons];by_cases h:(zYR x).Lo≤(zYR x).Hi <;> simp [h]
theorem z15 (x:Range) (l:List Range):zE6 (x::l)=(if max x.Lo 0≤min x.Hi 1114111 then [({Lo:=max x.Lo 0,Hi:=min x.Hi 1114111}:Range)] else [])++zE6 l:=zT7 x l
theorem z16 (l:List Range):∀r∈zE6 l,zCZ r:=by intro r hr;unfold zE6 at hr;rw [List.mem_filter,List.mem_map] at hr;obtain ⟨⟨q,_,rfl⟩,h⟩:=hr;simp only [decide_eq_true_eq] at h;unfold zYR at h ⊢;unfold zCZ;simp only at h ⊢;omega
theorem yCM {l:List Range} (h:∀r∈l,zCZ r):zE6 l=l:=by
 induction l with
 | nil=>rfl
 | cons x l ih=>
  have hx:=h x (by simp);have:zYR x=x:=by
   unfold zCZ at hx;unfold zYR;cases x;simp only [Range.mk.injEq] at hx ⊢;omega
  rw [zT7,this,if_pos hx.2.1,ih fun r hr=>h r (by simp [hr])];rfl
theorem zWX (l:List Range):(zE6 l).length≤l.length:=by unfold zE6;exact Nat.le_trans (List.length_filter_le _ _) (by simp)
theorem yN7 {l:List Range} (hl:l.length≤2000):∀(n k:Nat) (o:List Range),l.length - k=n→k≤l.length→o.length≤k→zE (fun (x:Int×(List Range))=>zBI l x.1 x.2) ((k:Int),o)=some (o++zE6 (l.drop k)):=by
 intro n
 induction n with
 | zero=>
  intro k o h1 h2 h3;rw [jU];simp only [zBI,kO (show l.length≤k by omega),cond_false];rw [List.drop_of_length_le (by omega)];simp [zE6]
 | succ n ih=>
  intro k o h1 h2 h3;have hlt:k < l.length:=by omega
  rw [jU];simp only [zBI,yV hlt,cond_true,zU hlt,zA,zO (k:=k) (by omega)];rw [List.drop_eq_getElem_cons hlt,z15];by_cases hc:max l[k].Lo 0≤min l[k].Hi 1114111;simp only [hc,decide_true,cond_true,if_true];rw [xN (by simp;omega)]
  simp only [zA];have:=ih (k+1) (o++ [({Lo:=max l[k].Lo 0,Hi:=min l[k].Hi 1114111}:Range)]) (by omega) (by omega) (by simp;omega)
  rw [List.append_assoc] at this;exact this;simp only [hc,decide_false,cond_false,if_false,zA,List.nil_append];exact ih (k+1) o (by omega) (by omega) (by omega)
def mrg:List Range→Range→List Range
 | [],r=>[r]
 | q::l,r=>if r.Lo≤q.Hi+1 then {q with Hi:=max q.Hi r.Hi}::l else r::q::l
theorem zKI (q:Range) (l:List Range) (r:Range):mrg (q::l) r=if r.Lo≤q.Hi+1 then {q with Hi:=max q.Hi r.Hi}::l else r::q::l:=rfl
theorem yGL (o:List Range) (r:Range):(mrg o r).length≤o.length+1:=by
 cases o with
 | nil=>simp [mrg]
 | cons q l=>rw [zKI];split <;> simp
theorem yJZ {o:List Range} {r:Range} (h:∀q∈o,zCZ q) (hr:zCZ r):∀q∈mrg o r,zCZ q:=by
 cases o with
 | nil=>simpa [mrg] using hr
 | cons q l=>
  intro x hx;have hq:=h q (by simp);unfold zCZ at hq hr;rw [zKI] at hx;split at hx;rcases List.mem_cons.1 hx with rfl | hx
  unfold zCZ;simp only;omega;exact h x (by simp [hx]);rcases List.mem_cons.1 hx with rfl | hx
  exact hr;exact h x hx
theorem yN8 {t:List Range} (ht:t.length≤2000) (hok:∀r∈t,zCZ r):∀(n k:Nat) (o:List Range),t.length - k=n→k≤t.length→o.length≤k→(∀r∈o,zCZ r)→zE (fun (x:Int×(List Range))=>zBJ t x.1 x.2) ((k:Int),o.reverse)=some ((t.drop k).foldl mrg o).reverse:=by
 intro n
 induction n with
 | zero=>
  intro k o h1 h2 h3 h4;rw [jU];simp only [zBJ,kO (show t.length≤k by omega),cond_false];rw [List.drop_of_length_le (by omega)];rfl
 | succ n ih=>
  intro k o h1 h2 h3 h4;have hlt:k < t.length:=by omega
  have hr:=hok _ (List.getElem_mem hlt);rw [List.drop_eq_getElem_cons hlt,List.foldl_cons];rw [←ih (k+1) (mrg o t[k]) (by omega) (by omega) (by have:=yGL o t[k];omega) (yJZ h4 hr)]
  rw [jU];simp only [zBJ,yV hlt,cond_true,zU hlt,zA,zQ,zO (k:=k) (by omega)];cases o with
  | nil=>
   have e0:decide ((0:Int) < ((([]:List Range).reverse).length:Int))=false:=rfl;simp only [e0,vB,zA,Bool.false_and,cond_false];rw [xN (by simp)];rfl
  | cons q l=>
   have hq:=h4 q (by simp);unfold zCZ at hq;have hlen:((q::l).reverse).length=l.length+1:=by simp
   simp only [List.length_cons] at h3;have e0:decide ((0:Int) < (((q::l).reverse).length:Int))=true:=by rw [hlen];simp <;> omega
   have e1:wi ((((q::l).reverse).length:Int) - 1)=(l.length:Int):=by rw [hlen];exact zCX (by omega)
   have e2:(q::l).reverse=l.reverse++q:: []:=by simp
   have i1:z7 (q::l).reverse (l.length:Int)=some q:=by rw [e2];exact wT (by simp)
   have e3:wi (q.Hi+1)=q.Hi+1:=xS (by omega) (by omega);simp only [e0,e1,i1,xC,zA,Bool.true_and,e3];rw [zKI];by_cases hc:t[k].Lo≤q.Hi+1;simp only [hc,decide_true,cond_true,if_true];have s1:u7 (q::l).reverse (l.length:Int) ({q with Hi:=max q.Hi t[k].Hi})=some (({q with Hi:=max q.Hi t[k].Hi}::l).reverse):=by
    rw [e2,uZ (by simp)];simp
   rw [s1];rfl;simp only [hc,decide_false,cond_false,if_false];rw [xN (by simp;omega)]
   simp only [zA];congr 2;simp
def mkE (l:List Range):List Range:=((wJ rlt (zE6 l) []).foldl mrg []).reverse
theorem yGM {l:List Range} (hl:l.length≤12):zIH l=some {Ranges:=mkE l}:=by
 unfold zIH;have h0:=yN7 (l:=l) (by omega) l.length 0 [] (by omega) (by omega) (by simp);simp only [List.drop_zero,List.nil_append] at h0;have h0':zE (fun (x:Int×(List Range))=>zBI l x.1 x.2) (0,[])=some (zE6 l):=h0;rw [h0',zA,yGJ (Nat.le_trans (zWX l) hl),zA];have hp:=zIV rlt (zE6 l) [];simp only [List.nil_append] at hp;have h1:=yN8 (t:=wJ rlt (zE6 l) []) (by rw [hp.length_eq];have:=zWX l;omega) (fun r hr=>z16 l r (hp.mem_iff.1 hr)) (wJ rlt (zE6 l) []).length 0 [] (by omega) (by omega) (by simp) (by simp)
 simp only [List.drop_zero] at h1;have h1':zE (fun (x:Int×(List Range))=>zBJ (wJ rlt (zE6 l) []) x.1 x.2) (0,[])=some (mkE l):=h1;rw [h1'];rfl
def CanR:List Range→Prop
 | []=>True
 | [r]=>zCZ r
 | r::q::l=>zCZ r∧q.Hi+1 < r.Lo∧CanR (q::l)
theorem CanR.tail {r:Range} {l:List Range} (h:CanR (r::l)):CanR l:=by
 cases l with
 | nil=>trivial
 | cons q l=>exact h.2.2
theorem CanR.head {r:Range} {l:List Range} (h:CanR (r::l)):zCZ r:=by
 cases l with
 | nil=>exact h
 | cons q l=>exact h.1
theorem zYS:∀(r l:List Range),CanR r→Can l→(∀x y,r.head? =some x→l.head? =some y→x.Hi+1 < y.Lo)→Can (r.reverse++l)
 | [],l,_,h,_=>h
 | x::r,l,hr,hl,hc=>by
  have:=zYS r (x::l) hr.tail (by
   cases l with
   | nil=>exact hr.head
   | cons y l=>exact ⟨hr.head,hc x y rfl rfl,hl⟩) (fun a b ha hb=>by
    cases r with
    | nil=>cases ha
    | cons q r=>simp only [List.head?_cons,Option.some.injEq] at ha hb;subst ha;subst hb;exact hr.2.1)
  simpa using this
theorem z59:∀(t o:List Range),t.Pairwise (LeB rlt)→(∀r∈t,zCZ r)→CanR o→(∀q r,o.head? =some q→r∈t→q.Lo≤r.Lo)→CanR (t.foldl mrg o)
 | [],o,_,_,h,_=>h
 | r::t,o,hs,hok,ho,hlo=>by
  have hs':=List.pairwise_cons.1 hs;have hr:=hok r (by simp);have hrt:∀x∈t,r.Lo≤x.Lo:=fun x hx=>by
   have:=hs'.1 x hx;unfold LeB rlt at this;simp only [Bool.or_eq_false_iff,decide_eq_false_iff_not] at this;omega
  rw [List.foldl_cons];refine z59 t (mrg o r) hs'.2 (fun x hx=>hok x (by simp [hx])) ?_ ?_;cases o with
  | nil=>exact hr
  | cons q l=>
   have hq:=ho.head;have hql:=hlo q r rfl (by simp);rw [zKI];split;rename_i hc;unfold zCZ at hq hr;cases l with
   | nil=>show zCZ _;unfold zCZ;simp only;omega
   | cons z l=>exact ⟨by unfold zCZ;simp only;omega,ho.2.1,ho.2.2⟩
   rename_i hc;exact ⟨hr,by omega,ho⟩
  intro q' x hq' hx;cases o with
  | nil=>simp only [mrg,List.head?_cons,Option.some.injEq] at hq';subst hq';exact hrt x hx
  | cons q l=>
   rw [zKI] at hq';split at hq';simp only [List.head?_cons,Option.some.injEq] at hq';subst hq';exact hlo q x rfl (by simp [hx]);simp only [List.head?_cons,Option.some.injEq] at hq';subst hq';exact hrt x hx
theorem yGN (l:List Range):Can (mkE l):=by have hp:=zIV rlt (zE6 l) [];simp only [List.nil_append] at hp;have h:=z59 (wJ rlt (zE6 l) []) [] (zK7 rlt yJY yGK _ _ .nil) (fun r hr=>z16 l r (hp.mem_iff.1 hr)) trivial (fun _ _ h=>by cases h);have:=zYS _ [] h trivial (fun _ _ _ h=>by cases h);simpa [mkE] using this
theorem yCN:∀(t o:List Range),Can (o.reverse++t)→t.foldl mrg o=t.reverse++o
 | [],o,_=>by simp
 | r::t,o,h=>by
  rw [List.foldl_cons];have e:mrg o r=r::o:=by
   cases o with
   | nil=>rfl
   | cons q l=>
    rw [zKI];have:Can (q::r::t):=by
     have h':Can (l.reverse++(q::r::t)):=by simpa using h
     clear h;generalize l.reverse=z at h'
     induction z with
     | nil=>exact h'
     | cons a z ih=>exact ih h'.tail
    have:=this.2.1;rw [if_neg (by omega)]
  rw [e,yCN t (r::o) (by simpa using h)];simp
theorem yJ0 {l:List Range} (h:Can l):mkE l=l:=by unfold mkE;rw [yCM h.ok,z14 rlt l [] (by simpa using h.sorted)];simp only [List.nil_append];rw [yCN l [] (by simpa using h)];simp
theorem yGO (l:List Range):mkE l=l↔Can l:=⟨fun h=>h▸yGN l,yJ0⟩
theorem yCO {s:Set} (hl:s.Ranges.length≤12):∃b,zG1 s=some b∧(b=true↔Can s.Ranges):=by
 unfold zG1;rw [yGM hl,zA,←yGO];by_cases hlen:(mkE s.Ranges).length=s.Ranges.length;have e0:(!decide (((mkE s.Ranges).length:Int)=(s.Ranges.length:Int)))=false:=by simp [hlen]
 simp only [e0,cond_false];have h:=jC (body:=fun (x:Int)=>zB3 {Ranges:=mkE s.Ranges} s x) (mkE s.Ranges).length (fun k=>nth (mkE s.Ranges) k=nth s.Ranges k) (fun y=>y=false) (fun k hk=>by
  have hk2:k < s.Ranges.length:=by omega
  simp only [zB3,yV hk,cond_true,z5 hk,z5 hk2,zA,zO (k:=k) (by omega)];exact zAQ (by simp) rfl) (fun k hk=>by simp only [zB3,kO hk,cond_false])
 have e:(∀j,j < (mkE s.Ranges).length→nth (mkE s.Ranges) j=nth s.Ranges j)↔mkE s.Ranges=s.Ranges:=by
  constructor;intro h;refine List.ext_getElem hlen fun j h1 h2=>?_;have:=h j h1
  rwa [zCN h1,zCN h2] at this
  intro h j _;rw [h]
 rw [e] at h;rcases h with ⟨h,p⟩ | ⟨y,rfl,h,p⟩
 rw [h];exact ⟨true,rfl,by simp [p]⟩;rw [h];exact ⟨false,rfl,by simp [p]⟩;have e0:(!decide (((mkE s.Ranges).length:Int)=(s.Ranges.length:Int)))=true:=by simp;omega
 simp only [e0,cond_true];exact ⟨false,rfl,by simp only [Bool.false_eq_true,false_iff];exact fun h=>hlen (by rw [h])⟩
end Go.M
namespace Go.M
open Go.AV
def hkE (c:Int):Int:=if 4352≤c∧c < 4371 then 1 else if 4449≤c∧c < 4470 then 2 else if 4520≤c∧c < 4547 then 3 else if c < 44032∨55204≤c then 0 else if (c - 44032) % 28=0 then 4 else 5
theorem zNB (c:Int):zDT c=some (hkE c):=by
 unfold zDT hkE;simp only [zQ];by_cases h1:4352≤c∧c < 4371;simp [h1];by_cases h2:4449≤c∧c < 4470;have:¬c < 4371:=by omega
 simp [h2,this];by_cases h3:4520≤c∧c < 4547;have a1:¬c < 4371:=by omega
 have a2:¬c < 4470:=by omega
 simp [h3,a1,a2];have e1:(decide (4352≤c)&&decide (c < 4371))=false:=by simp only [Bool.and_eq_false_iff,decide_eq_false_iff_not];omega
 have e2:(decide (4449≤c)&&decide (c < 4470))=false:=by simp only [Bool.and_eq_false_iff,decide_eq_false_iff_not];omega
 have e3:(decide (4520≤c)&&decide (c < 4547))=false:=by simp only [Bool.and_eq_false_iff,decide_eq_false_iff_not];omega
 simp only [e1,e2,e3,cond_false,h1,h2,h3,if_false];by_cases h4:c < 44032∨55204≤c;have e4:(decide (c < 44032) ||decide (55204≤c))=true:=by simpa using h4
 simp only [e4,cond_true,h4,if_true];have e4:(decide (c < 44032) ||decide (55204≤c))=false:=by simp only [Bool.or_eq_false_iff,decide_eq_false_iff_not];omega
 simp only [e4,cond_false,h4,if_false];rw [xS (by omega) (by omega)];unfold zI2;rw [if_neg (by omega),zA];have:(c - 44032).tmod 28=(c - 44032) % 28:=Int.tmod_eq_emod_of_nonneg (by omega);rw [this];by_cases h5:(c - 44032) % 28=0 <;> simp [h5]
def syl (c:Int):Bool:=decide (44032≤c)&&decide (c≤55203)
theorem zH4 (c:Int):syl c=true↔4≤hkE c:=by
 unfold syl hkE;simp only [Bool.and_eq_true,decide_eq_true_eq]
 repeat' split
 all_goals omega
def hdE (c:Int):List Int:=if syl c=true then [4352+(c - 44032) / 28 / 21,4449+(c - 44032) / 28 % 21]++(if 0 < (c - 44032) % 28 then [4520+(c - 44032) % 28 - 1] else []) else [c]
theorem zT8 {c e:Int} (hc:syl c=true) (he:e∈hdE c):syl e=false∧hkE e≠0:=by
 unfold hdE at he;rw [if_pos hc] at he;unfold syl at hc;simp only [Bool.and_eq_true,decide_eq_true_eq] at hc;have key:(4352≤e∧e < 4371)∨(4449≤e∧e < 4470)∨(4520≤e∧e < 4547):=by
  simp only [List.mem_append,List.mem_cons,List.not_mem_nil,or_false] at he;rcases he with (rfl | rfl) | he
  left;omega;right;left;omega;split at he;simp only [List.mem_singleton] at he;right;right;omega;simp at he
 constructor;unfold syl;simp only [Bool.and_eq_false_iff,decide_eq_false_iff_not];omega;unfold hkE;rcases key with h | h | h
 rw [if_pos h];decide;rw [if_neg (by omega),if_pos h];decide;rw [if_neg (by omega),if_neg (by omega),if_pos h];decide
theorem zOD (c:Int):(hdE c).length≤3∧1≤(hdE c).length:=by unfold hdE;split;split <;> simp;simp
theorem z6A {c:Int} (hc:syl c=true):zB4 c=some (hdE c):=by
 have hk:=(zH4 c).1 hc;have hc':=hc;unfold syl at hc';simp only [Bool.and_eq_true,decide_eq_true_eq] at hc';unfold zB4 zHZ;rw [zNB,zA];have e1:decide (hkE c < 4)=false:=by simp;omega
 simp only [e1,cond_false];rw [xS (n:=c - 44032) (by omega) (by omega)];generalize hn:c - 44032=n;have hn0:0≤n∧n < 11172:=by omega
 have d1:n.tdiv 28=n / 28:=Int.tdiv_eq_ediv_of_nonneg (by omega);have d2:(n / 28).tdiv 21=n / 28 / 21:=Int.tdiv_eq_ediv_of_nonneg (by omega);have m1:n.tmod 28=n % 28:=Int.tmod_eq_emod_of_nonneg (by omega);have m2:(n / 28).tmod 21=n / 28 % 21:=Int.tmod_eq_emod_of_nonneg (by omega);simp only [zL7,zI2,show ((28:Int)=0)=False by simp,show ((21:Int)=0)=False by simp,if_false,zA,d1,m1];rw [xS (n:=n / 28) (by omega) (by omega)];simp only [d2,m2];rw [xS (n:=n / 28 / 21) (by omega) (by omega),xS (n:=4352+n / 28 / 21) (by omega) (by omega),xS (n:=4449+n / 28 % 21) (by omega) (by omega),xS (n:=4520+n % 28) (by omega) (by omega),xS (n:=4520+n % 28 - 1) (by omega) (by omega)];unfold hdE;rw [if_pos hc,hn];by_cases h0:0 < n % 28;simp only [h0,decide_true,cond_true,zA,if_true];have a1:decide (({x0:=4352+n / 28 / 21,x1:=4449+n / 28 % 21,x2:=4520+n % 28 - 1}:A3Int)= {x0:=0,x1:=0,x2:=0})=false:=by simp;omega
 have a2:decide ((4520+n % 28 - 1:Int)=0)=false:=by simp;omega
 simp only [a1,a2,cond_false];rfl;simp only [h0,decide_false,cond_false,zA,if_false];have a1:decide (({x0:=4352+n / 28 / 21,x1:=4449+n / 28 % 21,x2:=0}:A3Int)= {x0:=0,x1:=0,x2:=0})=false:=by simp;omega
 simp only [a1,cond_false,decide_true,cond_true];rfl
theorem zMU {lo hi:Nat} (h:lo+hi≤4611686018427387903):wi ((wu (wi ((lo:Int)+(hi:Int)))) / 2 ^ 1)=(((lo+hi) / 2:Nat):Int):=by rw [xS (n:=(lo:Int)+hi) (by omega) (by omega)];have:wu ((lo:Int)+(hi:Int))=(lo:Int)+hi:=IntWalk.u64_in _ (by omega);rw [this,xS (by omega) (by omega)];omega
theorem zSG {n:Nat} (hn:n≤2000) {body:Int×Int→Option (Stp (Int×Int) Int)} (q:Nat→Bool)
    (hend:∀k:Nat,k≤n→body ((k:Int),(k:Int))=some (.done (k:Int)))
    (hstep:∀lo hi:Nat,lo < hi→hi≤n→body ((lo:Int),(hi:Int))=some (.next (if q ((lo+hi) / 2) then ((lo:Int),(((lo+hi) / 2:Nat):Int)) else ((((lo+hi) / 2+1:Nat):Int),(hi:Int)))))
    (mono:∀i j,i≤j→j < n→q i=true→q j=true):
    ∃j,j≤n∧zE body (0,(n:Int))=some (j:Int)∧(∀k,k < j→q k=false)∧(∀k,j≤k→k < n→q k=true):=by
  have key:∀(d lo hi:Nat),hi - lo≤d→lo≤hi→hi≤n→(∀k,k < lo→q k=false)→(∀k,hi≤k→k < n→q k=true)→
      ∃j,j≤n∧zE body ((lo:Int),(hi:Int))=some (j:Int)∧(∀k,k < j→q k=false)∧(∀k,j≤k→k < n→q k=true):=by
    intro d
    induction d with
    | zero=>
      intro lo hi h1 h2 h3 h4 h5;have:lo=hi:=by omega
      subst this;exact ⟨lo,h3,zL (hend lo h3),h4,h5⟩
    | succ d ih=>
      intro lo hi h1 h2 h3 h4 h5;by_cases e:lo=hi
      · subst e
        exact ⟨lo,h3,zL (hend lo h3),h4,h5⟩
      · have hlt:lo < hi:=by omega
        have hmid:(lo+hi) / 2 < n:=by omega
        rw [zR (hstep lo hi hlt h3)];cases hq:q ((lo+hi) / 2) with
        | true=>
          rw [if_pos rfl];exact ih lo ((lo+hi) / 2) (by omega) (by omega) (by omega) h4 (fun k hk hkn=>mono _ _ hk hkn hq)
        | false=>
          rw [if_neg (by simp)];refine ih ((lo+hi) / 2+1) hi (by omega) (by omega) h3 ?_ h5;intro k hk;cases hqk:q k with
          | false=>rfl
          | true=>
            have:=mono k ((lo+hi) / 2) (by omega) hmid hqk;rw [hq] at this;cases this
  exact key n 0 n (by omega) (by omega) (by omega) (by intro k hk;omega) (by intro k hk hkn;omega)
theorem zPO {α:Type} [Inhabited α] {l:List α} {p: α→Bool} {i:Nat} (hi:i < l.length) (h:∀j,j < i→p (nth l j)=false) (hp:p (nth l i)=true):l.find? p=some (nth l i):=by rw [List.find?_eq_some_iff_getElem];refine ⟨hp,i,hi,(zCN hi).symm,fun j hj=>?_⟩;have:=h j hj;rw [zCN (by omega)] at this;simp [this]
theorem zYT {α:Type} [Inhabited α] {l:List α} {p: α→Bool} (h:∀j,j < l.length→p (nth l j)=false):l.find? p=none:=by rw [List.find?_eq_none];intro x hx;obtain ⟨k,hk,rfl⟩:=List.getElem_of_mem hx;have:=h k hk;rw [zCN hk] at this;simp [this]
def zR5 (c:Int) (s:Span):Bool:=decide (s.Lo≤c)&&decide (c≤s.Hi)
def clE (l:List Span) (c:Int):Int:=match l.find? (zR5 c) with
 | some s=>s.Value
 | none=>0
theorem CV.mono {l:List Span} (h:CV l):∀(d i:Nat),i+d+1 < l.length→(nth l i).Hi < (nth l (i+d+1)).Lo
 | 0,i,hi=>(h.ad i hi).1
 | d+1,i,hi=>by
  have h1:=CV.mono h d i (by omega);have h2:=h.sp (i+d+1) (by omega);have h3:=(h.ad (i+d+1) (by omega)).1;unfold spOk at h2;have:i+(d+1)+1=i+d+1+1:=by omega
  rw [this];omega
theorem CV.lt {l:List Span} (h:CV l) {i j:Nat} (hij:i < j) (hj:j < l.length):(nth l i).Hi < (nth l j).Lo:=by
 have:=CV.mono h (j - i - 1) i (by omega)
 rwa [show i+(j - i - 1)+1=j by omega] at this
theorem CV.hi {l:List Span} (h:CV l) {i j:Nat} (hij:i≤j) (hj:j < l.length):(nth l i).Hi≤(nth l j).Hi:=by rcases Nat.lt_or_eq_of_le hij with h1 | rfl;have:=h.lt h1 hj;have h2:=h.sp j hj;unfold spOk at h2;omega;exact Int.le_refl _
theorem yIB {l:List Span} (h:CV l) {c:Int} {i:Nat} (hi:i≤l.length) (hl:∀j,j < i→(nth l j).Hi < c) (hr:∀j,i≤j→j < l.length→c≤(nth l j).Hi):
    clE l c=if i < l.length∧(nth l i).Lo≤c then (nth l i).Value else 0:=by
  unfold clE;by_cases hc:i < l.length∧(nth l i).Lo≤c
  · have hf:=zPO (p:=zR5 c) hc.1 (fun j hj=>by
      unfold zR5;have:=hl j hj;simp only [Bool.and_eq_false_iff,decide_eq_false_iff_not];omega) (by
      unfold zR5;simp only [Bool.and_eq_true,decide_eq_true_eq];exact ⟨hc.2,hr i (Nat.le_refl _) hc.1⟩)
    rw [if_pos hc,hf]
  · have hf:=zYT (l:=l) (p:=zR5 c) (fun j hj=>by
      unfold zR5;simp only [Bool.and_eq_false_iff,decide_eq_false_iff_not];by_cases hji:j < i
      · have:=hl j hji;omega
      · by_cases e:j=i
        · subst e;left;exact fun hh=>hc ⟨hj,hh⟩
        · have h1:=h.lt (show i < j by omega) hj
          have h2:=hr i (Nat.le_refl _) (by omega);left;omega)
    rw [if_neg hc,hf]
theorem zIW {l:List Span} (h:CV l) (hl:l.length≤2000) (c:Int):kZ l c=some (clE l c):=by
 obtain ⟨j,hj,hr,hlo,hhi⟩:=zSG (n:=l.length) hl (body:=fun (x:Int×Int)=>z9 l (fun x0 x1=>zAE x0 x1) c x.1 x.2) (fun k=>decide (c≤(nth l k).Hi))
  (fun k _=>by simp only [z9,kO (Nat.le_refl _),cond_false])
  (fun lo hi h1 h2=>by
   have hm:(lo+hi) / 2 < l.length:=by omega
   simp only [z9,yV h1,cond_true,zMU (show lo+hi≤4611686018427387903 by omega),z5 hm,zA,zAE,zO (k:=(lo+hi) / 2) (by omega)];by_cases hc:(nth l ((lo+hi) / 2)).Hi < c;have:¬c≤(nth l ((lo+hi) / 2)).Hi:=by omega
   simp [hc,this];have:c≤(nth l ((lo+hi) / 2)).Hi:=by omega
   by_cases hc2:c < (nth l ((lo+hi) / 2)).Lo <;> simp [hc,hc2,this])
  (fun i j hij hj hi=>by
   have:=h.hi hij hj;simp only [decide_eq_true_eq] at hi ⊢;omega)
 simp only [decide_eq_false_iff_not,decide_eq_true_eq] at hlo hhi;unfold kZ kW;rw [hr,yIB h hj (fun k hk=>by have:=hlo k hk;omega) hhi]
 simp only [zA,zQ];by_cases hn:j < l.length;have h2:=hhi j (Nat.le_refl _) hn;simp only [yV hn,xC,z5 hn,zA,zAE,Bool.true_and,hn,true_and];have e1:decide ((nth l j).Hi < c)=false:=by simp;omega
 simp only [e1,cond_false];by_cases hc2:c < (nth l j).Lo;have:¬(nth l j).Lo≤c:=by omega
 simp [hc2,this];have:(nth l j).Lo≤c:=by omega
 simp [hc2,this,z5 hn];simp only [kO (show l.length≤j by omega),vB,zA,Bool.false_and,Bool.not_false,cond_true,hn,false_and,if_false]
theorem zWY {l:List Span} (hl:l.length≤2000) (hok:∀x∈l,okSpan x) (h:CV l):zAX l=some l:=by obtain ⟨e,he,hp⟩:=z12 hl hok;unfold zAX;rw [he,zA,hp.2 h];rfl
end Go.M
namespace Go.M
open Go.AV
theorem z17 {α:Type} {l r:List α} {x: α} {k:Nat} (h:l.drop k=x::r):l[k]? =some x∧l.drop (k+1)=r∧k+1≤l.length:=by
 have hk:k < l.length:=by
  rcases Nat.lt_or_ge k l.length with h1 | h1;exact h1;rw [List.drop_of_length_le h1] at h;cases h
 rw [List.drop_eq_getElem_cons hk] at h;injection h with h1 h2;exact ⟨by rw [List.getElem?_eq_getElem hk,h1],h2,hk⟩
theorem yIC {α:Type} [DecidableEq α] {items:List α} {k:Nat} {x: α} (h:items[k]? =some x):yM items k x=some ():=by unfold yM;rw [if_pos h]
theorem z6B {α:Type} {items:List α} {k:Nat} (h:items.drop k= []) (hk:k≤items.length):zTL items k=some ():=by unfold zTL;rw [if_pos];have:=congrArg List.length h;simp at this;omega
section
variable {l:List Span} (h:CV l) (hl:l.length≤2000) {text:List Int} (ht:text.length≤2000) {st:Int→Bool} (hst:∀c,st c=decide (clE l c=0)) {items:List Range}
include h hl ht hst
theorem z88:∀(n i:Nat) (s:Int) (k:Nat),text.length - i=n→i≤text.length→items.drop k=xB st (text.drop i) (i:Int) s→k≤items.length→
    ∃s' k',zE (fun (x:Int×Int×Nat)=>kT text l items x.1 x.2.1 x.2.2) (s,(i:Int),k)=some (.inl (s',k'))∧items.drop k'=xB st [] (text.length:Int) s'∧k'≤items.length:=by
  intro n
  induction n with
  | zero=>
    intro i s k h1 h2 h3 h4;have:i=text.length:=by omega
    subst this;refine ⟨s,k,?_,by rw [h3,List.drop_length],h4⟩;rw [jU];simp only [kT,kO (Nat.le_refl _),cond_false]
  | succ n ih=>
    intro i s k h1 h2 h3 h4;have hi:i < text.length:=by omega
    rw [List.drop_eq_getElem_cons hi] at h3;simp only [xB] at h3;have hs:=hst text[i];have ec:((i:Int)+1)=((i+1:Nat):Int):=by omega
    rw [ec] at h3;have step:∀s' k',kT text l items s (i:Int) k=some (.next (s',((i+1:Nat):Int),k'))→items.drop k'=xB st (text.drop (i+1)) ((i+1:Nat):Int) s'→k'≤items.length→
        ∃s' k',zE (fun (x:Int×Int×Nat)=>kT text l items x.1 x.2.1 x.2.2) (s,(i:Int),k)=some (.inl (s',k'))∧items.drop k'=xB st [] (text.length:Int) s'∧k'≤items.length:=by
      intro s' k' hb g2 g3;rw [zR (body:=fun (x:Int×Int×Nat)=>kT text l items x.1 x.2.1 x.2.2) (x:=(s,(i:Int),k)) hb];exact ih (i+1) s' k' (by omega) (by omega) g2 g3
    by_cases hc:clE l text[i]=0
    · rw [hs] at h3
      simp only [hc,decide_true,Bool.not_true,Bool.false_and,Bool.false_eq_true,if_false,Bool.true_and] at h3;by_cases h0:0≤s
      · simp only [h0,decide_true,if_true] at h3
        obtain ⟨g1,g2,g3⟩:=z17 h3;refine step (-1) (k+1) ?_ g2 g3;simp only [kT,yV hi,cond_true,zU hi,zA,zIW h hl,zQ,zO (k:=i) (by omega),hc,decide_true,Bool.not_true,Bool.false_and,cond_false,Bool.true_and,h0,yIC g1,Sum.elim_inl]
      · simp only [h0,decide_false,Bool.false_eq_true,if_false] at h3
        refine step s k ?_ h3 h4;simp only [kT,yV hi,cond_true,zU hi,zA,zIW h hl,zQ,zO (k:=i) (by omega),hc,decide_true,Bool.not_true,Bool.false_and,cond_false,Bool.true_and,h0,decide_false,Sum.elim_inl]
    · rw [hs] at h3
      simp only [hc,decide_false,Bool.not_false,Bool.true_and,Bool.false_and,Bool.false_eq_true,if_false] at h3;by_cases h0:s < 0
      · simp only [h0,decide_true,if_true] at h3
        refine step (i:Int) k ?_ h3 h4;simp only [kT,yV hi,cond_true,zU hi,zA,zIW h hl,zQ,zO (k:=i) (by omega),hc,decide_false,Bool.not_false,Bool.true_and,h0,decide_true,Sum.elim_inl]
      · simp only [h0,decide_false,Bool.false_eq_true,if_false] at h3
        refine step s k ?_ h3 h4;simp only [kT,yV hi,cond_true,zU hi,zA,zIW h hl,zQ,zO (k:=i) (by omega),hc,decide_false,Bool.not_false,Bool.true_and,h0,cond_false,Bool.false_and,Sum.elim_inl]
theorem z18 (hit:items=xB st text 0 (-1)):zAY items text l=some ():=by
 obtain ⟨s,k,h1,h2,h3⟩:=z88 h hl ht hst (items:=items) text.length 0 (-1) 0 (by omega) (by omega) (by rw [List.drop_zero,List.drop_zero];exact hit) (Nat.zero_le _)
 unfold zAY;have h1':zE (fun (x:Int×Int×Nat)=>kT text l items x.1 x.2.1 x.2.2) (-1,0,0)=some (.inl (s,k)):=h1;rw [h1'];simp only [zA,Sum.elim_inl];unfold xB at h2;by_cases h0:0≤s;rw [if_pos h0] at h2;obtain ⟨g1,g2,g3⟩:=z17 h2;simp only [h0,decide_true,cond_true,yIC g1,zA];exact z6B g2 g3;rw [if_neg h0] at h2;simp only [h0,decide_false,cond_false];exact z6B h2 h3
omit h hl ht hst in
theorem zK9:∀(t:List Int) (i s:Int),(xB st t i s).length≤t.length+1
 | [],i,s=>by unfold xB;split <;> simp
 | c::t,i,s=>by
  unfold xB;split;have:=zK9 t (i+1) i;simp;omega;split;have:=zK9 t (i+1) (-1);simp;omega;have:=zK9 t (i+1) s;simp;omega
omit h hl ht hst in
theorem zLA:∀(t:List Int) (i s:Int),0≤i→(xB st t i s= []↔s < 0∧∀c∈t,st c=true)
 | [],i,s,hi=>by
  unfold xB;split;simp;omega;simp;omega
 | c::t,i,s,hi=>by
  unfold xB;cases hc:st c with
  | true=>
   simp only [Bool.not_true,Bool.false_and,Bool.false_eq_true,if_false,Bool.true_and];by_cases h0:0≤s;simp [h0];omega;simp only [h0,decide_false,Bool.false_eq_true,if_false];rw [zLA t (i+1) s (by omega)];simp [hc]
  | false=>
   simp only [Bool.not_false,Bool.true_and,Bool.false_and,Bool.false_eq_true,if_false];by_cases h0:s < 0;simp only [h0,decide_true,if_true];rw [zLA t (i+1) i (by omega)];simp [hc];omega;simp only [h0,decide_false,Bool.false_eq_true,if_false];rw [zLA t (i+1) s (by omega)];simp [hc,h0]
end
theorem yGP {l:List Span} (h:CV l) (hl:l.length≤2000) (hok:∀x∈l,okSpan x) {text:List Int} (ht:text.length≤2000):
    ∃r,zEP l text=some r∧(r= []↔∀c∈text,clE l c=0):=by
  have hst:∀c,(kZ l c==some 0)=decide (clE l c=0):=fun c=>by
    rw [zIW h hl,Bool.eq_iff_iff];simp
  unfold zEP;rw [zWY hl hok h,zA,z18 h hl ht hst rfl,zA];have hlen:=zK9 (st:=fun c=>kZ l c==some 0) text 0 (-1);refine ⟨_,by unfold yJF;rw [if_pos (by unfold LIM;omega)],?_⟩
  rw [zLA _ _ _ (by omega)];simp only [hst,decide_eq_true_eq];constructor
  · exact fun h=>h.2
  · exact fun h=>⟨by omega,h⟩
structure DS (l:List Mapping):Prop where
 asc:∀k,k+1 < l.length→(nth l k).From < (nth l (k+1)).From
 hk:∀m∈l,hkE m.From=0
 len:∀m∈l,m.To.length≤2000
theorem DS.mono {l:List Mapping} (h:DS l):∀(d i:Nat),i+d+1 < l.length→(nth l i).From < (nth l (i+d+1)).From
 | 0,i,hi=>h.asc i hi
 | d+1,i,hi=>by
  have h1:=DS.mono h d i (by omega);have h3:=h.asc (i+d+1) (by omega);have:i+(d+1)+1=i+d+1+1:=by omega
  rw [this];omega
theorem DS.lt {l:List Mapping} (h:DS l) {i j:Nat} (hij:i < j) (hj:j < l.length):(nth l i).From < (nth l j).From:=by
 have:=DS.mono h (j - i - 1) i (by omega)
 rwa [show i+(j - i - 1)+1=j by omega] at this
def isF (c:Int) (m:Mapping):Bool:=decide (m.From=c)
theorem z6C {l:List Mapping} (h:DS l) (hl:l.length≤2000) (c:Int):∃i:Nat,yH l c (fun x0 x1=>vH x0 x1)=some ((i:Int),(l.find? (isF c)).isSome)∧∀m,l.find? (isF c)=some m→i < l.length∧nth l i=m:=by
  have hc1:∀m,vH m c=some (if m.From < c then -1 else if c < m.From then 1 else 0):=fun m=>by
    unfold vH;rw [z84];rfl
  obtain ⟨j,hj,hr,hlo,hhi⟩:=zSG (n:=l.length) hl (body:=fun (x:Int×Int)=>z4 l (fun x0 x1=>vH x0 x1) c x.1 x.2) (fun k=>decide (c≤(nth l k).From))
    (fun k _=>by simp only [z4,kO (Nat.le_refl _),cond_false])
    (fun lo hi h1 h2=>by
      have hm:(lo+hi) / 2 < l.length:=by omega
      simp only [z4,yV h1,cond_true,zMU (show lo+hi≤4611686018427387903 by omega),z5 hm,zA,hc1,zO (k:=(lo+hi) / 2) (by omega)];by_cases hc:(nth l ((lo+hi) / 2)).From < c
      · have:¬c≤(nth l ((lo+hi) / 2)).From:=by omega
        simp [hc,this]
      · have:c≤(nth l ((lo+hi) / 2)).From:=by omega
        by_cases hc2:c < (nth l ((lo+hi) / 2)).From <;> simp [hc,hc2,this])
    (fun i j hij hj hi=>by
      simp only [decide_eq_true_eq] at hi ⊢;rcases Nat.lt_or_eq_of_le hij with h1 | rfl
      · have:=h.lt h1 hj;omega
      · exact hi)
  simp only [decide_eq_false_iff_not,decide_eq_true_eq] at hlo hhi;refine ⟨j,?_⟩;unfold yH;rw [hr];simp only [zA,zQ];by_cases hn:j < l.length∧(nth l j).From=c
  · have hf:=zPO (p:=isF c) hn.1 (fun k hk=>by
      have:=hlo k hk;unfold isF;simp only [decide_eq_false_iff_not];omega) (by unfold isF;simpa using hn.2)
    rw [hf];simp only [yV hn.1,xC,z5 hn.1,zA,hc1,Bool.true_and,hn.2];refine ⟨by simp,fun m hm=>?_⟩;injection hm with hm;exact ⟨hn.1,hm⟩
  · have hf:=zYT (l:=l) (p:=isF c) (fun k hk=>by
      unfold isF;simp only [decide_eq_false_iff_not];intro e;by_cases hkj:k < j
      · have:=hlo k hkj;omega
      · by_cases e2:k=j
        · subst e2;exact hn ⟨hk,e⟩
        · have h1:=h.lt (show j < k by omega) hk
          have h2:=hhi j (Nat.le_refl _) (by omega);omega)
    rw [hf];refine ⟨?_,fun m hm=>by cases hm⟩;by_cases hj2:j < l.length
    · have h2:=hhi j (Nat.le_refl _) hj2
      have h3:¬(nth l j).From=c:=fun e=>hn ⟨hj2,e⟩;have h4:c < (nth l j).From:=by omega
      have h5:¬(nth l j).From < c:=by omega
      simp only [yV hj2,xC,z5 hj2,zA,hc1,h4,h5,if_true,if_false,Bool.true_and];rfl
    · simp only [kO (show l.length≤j by omega),vB,zA,Bool.false_and]
      rfl
def dep (l:List Mapping) (c:Int):List Int:=if syl c=true then hdE c else match l.find? (isF c) with
 | some m=>m.To
 | none=>[]
def fnd (l:List Mapping) (c:Int):Bool:=syl c ||(l.find? (isF c)).isSome
theorem yGQ {l:List Mapping} {c:Int} (h:fnd l c=false):dep l c= []:=by
 unfold fnd at h;simp only [Bool.or_eq_false_iff] at h;unfold dep;rw [if_neg (by simp [h.1])];cases hf:l.find? (isF c) with
 | none=>rfl
 | some m=>rw [hf] at h;simp at h
theorem z6D {n:Norm} (h:DS n.Decomp) (hl:n.Decomp.length≤2000) (c:Int):uB n c true=some (dep n.Decomp c,fnd n.Decomp c):=by
 unfold uB dep fnd;rw [zNB,zA];by_cases hs:syl c=true;have e:decide (4≤hkE c)=true:=by simpa using (zH4 c).1 hs
 simp only [e,cond_true,z6A hs,zA,hs,if_true,Bool.true_or];have e:decide (4≤hkE c)=false:=by simp only [decide_eq_false_iff_not];exact fun hh=>hs ((zH4 c).2 hh)
 simp only [Bool.not_eq_true] at hs;simp only [e,cond_false,hs,Bool.false_eq_true,if_false,Bool.false_or];obtain ⟨i,hb,hp⟩:=z6C h hl c;rw [hb];simp only [zA,zQ];cases hf:n.Decomp.find? (isF c) with
 | none=>simp [vB]
 | some m=>
  obtain ⟨h1,h2⟩:=hp m hf;simp [xC,z5 h1,h2]
theorem zYU {l:List Mapping} (h:DS l) {c e:Int} (hc:syl c=true) (he:e∈dep l c):dep l e= []:=by
 unfold dep at he;rw [if_pos hc] at he;obtain ⟨h1,h2⟩:=zT8 hc he;unfold dep;rw [if_neg (by simp [h1])];cases hf:l.find? (isF e) with
 | none=>rfl
 | some m=>
  exfalso;have h3:=List.mem_of_find?_eq_some hf;have h4:=List.find?_some hf;unfold isF at h4;simp only [decide_eq_true_eq] at h4;exact h2 (h4▸h.hk m h3)
theorem z6E {l:List Mapping} (h:DS l) (c:Int):(dep l c).length≤2000:=by
 unfold dep;split;have:=(zOD c).1;omega;cases hf:l.find? (isF c) with
 | none=>simp
 | some m=>exact h.len m (List.mem_of_find?_eq_some hf)
theorem z19 {l:List Mapping} (h:DS l) {m:Mapping} (hm:m∈l):dep l m.From=m.To:=by
 have h0:=h.hk m hm;have hs:syl m.From=false:=by
  cases hs:syl m.From with
  | false=>rfl
  | true=>have:=(zH4 _).1 hs;omega
 unfold dep;rw [if_neg (by simp [hs])];obtain ⟨k,hk,rfl⟩:=List.getElem_of_mem hm;rw [←zCN hk];rw [zPO (p:=isF (nth l k).From) hk (fun j hj=>by
  have:=h.lt hj hk;unfold isF;simp only [decide_eq_false_iff_not];omega) (by simp [isF])]
theorem z40 {l:List Mapping} {c:Int} (h:dep l c≠[]) (hs:syl c=false):∃m∈l,m.From=c:=by
 unfold dep at h;rw [if_neg (by simp [hs])] at h;cases hf:l.find? (isF c) with
 | none=>rw [hf] at h;exact absurd rfl h
 | some m=>
  have h4:=List.find?_some hf;unfold isF at h4;exact ⟨m,List.mem_of_find?_eq_some hf,by simpa using h4⟩
end Go.M
namespace Go.M
open Go.AV
def EE (l:List Mapping):Nat→Int→Prop
 | 0,_=>False
 | k+1,c=> ∀e∈dep l c,EE l k e
def WW (l:List Mapping) (c:Int):Prop:= ∃k,EE l k c
theorem z6F {l:List Mapping}:∀{k:Nat} {c:Int},EE l k c→EE l (k+1) c
 | 0,_,h=>h.elim
 | k+1,_,h=>fun e he=>z6F (h e he)
theorem yCP {l:List Mapping} {c:Int} {k j:Nat} (h:k≤j) (hk:EE l k c):EE l j c:=by
 induction h with
 | refl=>exact hk
 | step _ ih=>exact z6F ih
theorem yCQ {l:List Mapping}:∀{L:List Int},(∀e∈L,WW l e)→∃k,∀e∈L,EE l k e
 | [],_=>⟨0,fun e he=>by cases he⟩
 | x::L,h=>by
  obtain ⟨a,ha⟩:=h x (by simp);obtain ⟨b,hb⟩:=yCQ (L:=L) fun e he=>h e (by simp [he]);refine ⟨max a b,fun e he=>?_⟩;rcases List.mem_cons.1 he with rfl | he;exact yCP (by omega) ha;exact yCP (by omega) (hb e he)
theorem z2A {l:List Mapping} {c:Int} (h:∀e∈dep l c,WW l e):WW l c:=by obtain ⟨k,hk⟩:=yCQ h;exact ⟨k+1,hk⟩
theorem zYV {l:List Mapping} {c:Int} (h:dep l c= []):WW l c:=z2A (by rw [h];intro e he;cases he)
theorem yJ1 {l:List Mapping} (hd:DS l) {c:Int} (h:syl c=true):WW l c:=z2A fun _ he=>zYV (zYU hd h he)
theorem zPP (m:List (Int×Int)) (c v k:Int):zC1 (zAV m c v) k=(decide (k=c) ||zC1 m k):=by unfold zC1;rw [wH];by_cases h:k=c <;> simp [h]
def pot (l:List Mapping) (m:List (Int×Int)):Nat:=l.countP fun x=>!zC1 m x.From
theorem yJ3 {l:List Mapping} {m m':List (Int×Int)} (h:∀k,zC1 m k=true→zC1 m' k=true):pot l m'≤pot l m:=by
 refine List.countP_mono_left fun x _ hx=>?_;cases hm:zC1 m x.From with
 | false=>rfl
 | true=>rw [h _ hm] at hx;exact hx
theorem zQN {α:Type} {p q: α→Bool}:∀{l:List α},(∀x∈l,p x=true→q x=true)→(∃x∈l,q x=true∧p x=false)→l.countP p+1≤l.countP q
 | [],_,⟨x,hx,_⟩=>by cases hx
 | y::l,h,⟨x,hx,h1,h2⟩=>by
  have hle:=List.countP_mono_left (l:=l) fun z hz=>h z (by simp [hz]);rw [List.countP_cons,List.countP_cons];rcases List.mem_cons.1 hx with rfl | hx
  simp [h1,h2];omega;have ih:=zQN (l:=l) (fun z hz=>h z (by simp [hz])) ⟨x,hx,h1,h2⟩;have hy:=h y (by simp);cases hp:p y with
  | false=>simp;omega
  | true=>simp [hy hp];omega
theorem z6G {l:List Mapping} {m:List (Int×Int)} {c v:Int} (hc:∃x∈l,x.From=c) (hm:zC1 m c=false):pot l (zAV m c v)+1≤pot l m:=by refine zQN (fun x _ hx=>?_) ?_;rw [zPP] at hx;simp only [Bool.not_or,Bool.and_eq_true] at hx;exact hx.2;obtain ⟨x,hx,rfl⟩:=hc;refine ⟨x,hx,by rw [hm];rfl,by rw [zPP];simp⟩
section
variable {n:Norm} (hd:DS n.Decomp) (hl:n.Decomp.length≤2000)
include hd hl
noncomputable abbrev zT9 (L:List Int×Bool) (rec:Int→Norm→(List (Int×Int))→Bool→Bool→Option (Int×Bool×Bool×(List (Int×Int)))) (n:Norm):Int×Int×Bool×Bool×(List (Int×Int))→Option (Stp (Int×Int×Bool×Bool×(List (Int×Int))) (Int×Bool×Bool×(List (Int×Int)))):=
 fun x=>jG L rec n x.1 x.2.1 x.2.2.1 x.2.2.2.1 x.2.2.2.2
theorem z6H {rec:Int→Norm→(List (Int×Int))→Bool→Bool→Option (Int×Bool×Bool×(List (Int×Int)))} {c:Int} {m:List (Int×Int)} {cy lo:Bool} (h:dep n.Decomp c= []):k9 rec c n m cy lo=some (1,cy,lo,m):=by unfold k9;rw [z6D hd hl,zA,zQ];simp [h]
theorem yID {rec:Int→Norm→(List (Int×Int))→Bool→Bool→Option (Int×Bool×Bool×(List (Int×Int)))} {c:Int} {m:List (Int×Int)} {cy lo:Bool} (h:dep n.Decomp c≠[]):
  k9 rec c n m cy lo=cond (zC1 m c) (some (max (zAT m c 0) 1,(cy ||decide (zAT m c 0= -1)),lo,m)) ((zE (zT9 (dep n.Decomp c,true) rec n) (0,0,cy,lo,zAV m c (-1))).bind fun y=>some (y.1,y.2.1,(y.2.2.1 ||decide (64 < y.1)),zAV y.2.2.2 c y.1)):=by
 have hf:fnd n.Decomp c=true:=by
  cases hf:fnd n.Decomp c with
  | true=>rfl
  | false=>exact absurd (yGQ hf) h
 unfold k9;rw [z6D hd hl,zA,zQ,hf];have hlen:decide (((dep n.Decomp c).length:Int)=0)=false:=by
  simp only [decide_eq_false_iff_not];have:(dep n.Decomp c).length≠0:=fun e=>h (List.eq_nil_of_length_eq_zero e);omega
 simp only [Bool.not_true,Bool.false_or,hlen,cond_false];rfl
structure MOk (l:List Mapping) (m:List (Int×Int)) (cy:Bool):Prop where
 bd:∀k v,mget m k=some v→ -1≤v∧v≤65
 ww:cy=false→∀k v,mget m k=some v→v≠ -1→WW l k
def zVL (l:List Mapping) (f:Nat) (c:Int) (m:List (Int×Int)):Prop:=pot l m+3≤f∨(syl c=true∧2≤f)∨(dep l c= []∧1≤f)
omit hd hl in
theorem zWZ {l:List Mapping} {f:Nat} {c:Int} {m m':List (Int×Int)} (h:∀k,zC1 m k=true→zC1 m' k=true) (hn:zVL l f c m):zVL l f c m':=by
 rcases hn with hn | hn;exact .inl (by have:=yJ3 (l:=l) h;omega)
 exact .inr hn
def yIE (l:List Mapping) (c:Int) (m:List (Int×Int)) (cy:Bool) (r:Int×Bool×Bool×(List (Int×Int))):Prop:=
 (1≤r.1∧r.1≤65)∧MOk l r.2.2.2 r.2.1∧(∀k,zC1 m k=true→zC1 r.2.2.2 k=true)∧(r.2.1=false→cy=false∧WW l c)
omit hl in
theorem yJ4 {f:Nat} (ih:∀c m cy lo,MOk n.Decomp m cy→zVL n.Decomp f c m→∃r,yB f c n m cy lo=some r∧yIE n.Decomp c m cy r) (c:Int):
    ∀(d i:Nat) (s:Int) (cy lo:Bool) (m:List (Int×Int)),(dep n.Decomp c).length - i=d→i≤(dep n.Decomp c).length→0≤s→s≤65→MOk n.Decomp m cy→(∀e∈dep n.Decomp c,zVL n.Decomp f e m)→
      ∃r,zE (zT9 (dep n.Decomp c,true) (yB f) n) (s,(i:Int),cy,lo,m)=some r∧(s≤r.1∧r.1≤65)∧(i < (dep n.Decomp c).length→1≤r.1)∧MOk n.Decomp r.2.2.2 r.2.1∧(∀k,zC1 m k=true→zC1 r.2.2.2 k=true)∧(r.2.1=false→cy=false∧∀e∈(dep n.Decomp c).drop i,WW n.Decomp e):=by
  have hL:=z6E hd c;generalize dep n.Decomp c=L at*;intro d
  induction d with
  | zero=>
    intro i s cy lo m h1 h2 h3 h4 h5 h6;refine ⟨(s,cy,lo,m),?_,⟨Int.le_refl _,h4⟩,fun h=>by omega,h5,fun _ h=>h,fun h=>⟨h,?_⟩⟩
    · refine zL ?_
      simp only [jG,kO (show L.length≤i by omega),cond_false]
    · rw [List.drop_of_length_le (by omega)];intro e he;cases he
  | succ d ihd=>
    intro i s cy lo m h1 h2 h3 h4 h5 h6;have hi:i < L.length:=by omega
    obtain ⟨r,hr,⟨r1,r2⟩,r3,r4,r5⟩:=ih L[i] m cy lo h5 (h6 _ (List.getElem_mem hi));have hb:zT9 (L,true) (yB f) n (s,(i:Int),cy,lo,m)=some (.next (min (s+r.1) 65,((i+1:Nat):Int),r.2.1,r.2.2.1,r.2.2.2)):=by
      simp only [jG,yV hi,cond_true,zU hi,zA,hr,zO (k:=i) (by omega)];rw [xS (n:=s+r.1) (by omega) (by omega)]
    rw [zR hb];obtain ⟨q,hq,⟨q1,q2⟩,q3,q4,q5,q6⟩:=ihd (i+1) (min (s+r.1) 65) r.2.1 r.2.2.1 r.2.2.2 (by omega) (by omega) (by omega) (by omega) r3 (fun e he=>zWZ r4 (h6 e he));refine ⟨q,hq,⟨by omega,q2⟩,fun _=>by omega,q4,fun k hk=>q5 k (r4 k hk),fun hqc=>?_⟩;obtain ⟨a1,a2⟩:=q6 hqc;obtain ⟨b1,b2⟩:=r5 a1;refine ⟨b1,?_⟩;rw [List.drop_eq_getElem_cons hi];intro e he;rcases List.mem_cons.1 he with rfl | he
    · exact b2
    · exact a2 e he
theorem yCR:∀(f:Nat) (c:Int) (m:List (Int×Int)) (cy lo:Bool),MOk n.Decomp m cy→zVL n.Decomp f c m→∃r,yB f c n m cy lo=some r∧yIE n.Decomp c m cy r:=by
 intro f
 induction f with
 | zero=>
  intro c m cy lo hm hn;exfalso;rcases hn with h | h | h <;> omega
 | succ f ih=>
  intro c m cy lo hm hn;show ∃r,k9 (yB f) c n m cy lo=some r∧_;by_cases h0:dep n.Decomp c= [];rw [z6H hd hl h0];exact ⟨_,rfl,⟨by show (1:Int)≤1;decide,by show (1:Int)≤65;decide⟩,hm,fun _ h=>h,fun h=>⟨h,zYV h0⟩⟩
  rw [yID hd hl h0];cases hh:zC1 m c with
  | true=>
   obtain ⟨v,hv⟩:=Option.isSome_iff_exists.1 hh;have hg:zAT m c 0=v:=by unfold zAT;rw [hv];rfl
   have hb:=hm.bd c v hv;rw [hg,cond_true];refine ⟨_,rfl,⟨by show 1≤max v 1;omega,by show max v 1≤65;omega⟩,⟨hm.bd,fun h=>hm.ww ?_⟩,fun _ h=>h,fun h=>?_⟩
   exact (Bool.or_eq_false_iff.1 h).1;obtain ⟨h1,h2⟩:=Bool.or_eq_false_iff.1 h;exact ⟨h1,hm.ww h1 c v hv (by simpa using h2)⟩
  | false=>
   have hok:MOk n.Decomp (zAV m c (-1)) cy:=by
    refine ⟨fun k v hk=>?_,fun hc k v hk hne=>?_⟩;rw [wH] at hk;split at hk;cases hk;omega;exact hm.bd k v hk;rw [wH] at hk;split at hk;cases hk;exact absurd rfl hne;exact hm.ww hc k v hk hne
   have hgrow:∀k,zC1 m k=true→zC1 (zAV m c (-1)) k=true:=fun k hk=>by rw [zPP,hk];simp
   have hnd:∀e∈dep n.Decomp c,zVL n.Decomp f e (zAV m c (-1)):=by
    intro e he;cases hs:syl c with
    | true=>
     refine .inr (.inr ⟨zYU hd hs he,?_⟩);rcases hn with h | h | h
     omega;omega;exact absurd h.1 h0
    | false=>
     rcases hn with h | h | h;refine .inl ?_;have:=z6G (l:=n.Decomp) (v:= -1) (z40 h0 hs) hh;omega;rw [hs] at h;cases h.1;exact absurd h.1 h0
   obtain ⟨q,hq,⟨q1,q2⟩,q3,q4,q5,q6⟩:=yJ4 hd ih c (dep n.Decomp c).length 0 0 cy lo (zAV m c (-1)) (by omega) (by omega) (by omega) (by omega) hok hnd;have hq':zE (zT9 (dep n.Decomp c,true) (yB f) n) (0,0,cy,lo,zAV m c (-1))=some q:=hq;have hpos:0 < (dep n.Decomp c).length:=List.length_pos_iff.2 h0;have q3':=q3 hpos;simp only [cond_false];rw [hq'];refine ⟨_,rfl,⟨q3',q2⟩,⟨fun k v hk=>?_,fun hc k v hk hne=>?_⟩,fun k hk=>?_,fun hc=>?_⟩;have hk':mget (zAV q.2.2.2 c q.1) k=some v:=hk;rw [wH] at hk';split at hk';cases hk';omega;exact q4.bd k v hk';have hk':mget (zAV q.2.2.2 c q.1) k=some v:=hk;obtain ⟨_,a2⟩:=q6 hc;rw [wH] at hk';split at hk';rename_i e;rw [e];exact z2A (by simpa using a2);exact q4.ww hc k v hk' hne;show zC1 (zAV q.2.2.2 c q.1) k=true;rw [zPP,q5 k (hgrow k hk)];simp;obtain ⟨a1,a2⟩:=q6 hc;exact ⟨a1,z2A (by simpa using a2)⟩
theorem zRG (hp:n.Decomp.length≤90):∃r:Bool×Bool,decompose_measure n=some r∧(r.1=false→∀x∈n.Decomp,WW n.Decomp x.From):=by
  have key:∀(d i:Nat) (cy lo:Bool) (m:List (Int×Int)),n.Decomp.length - i=d→i≤n.Decomp.length→MOk n.Decomp m cy→
      ∃r:Bool×Bool,zE (fun (x:Int×Bool×Bool×(List (Int×Int)))=>kV n x.1 x.2.1 x.2.2.1 x.2.2.2) ((i:Int),cy,lo,m)=some r∧(r.1=false→cy=false∧∀x∈n.Decomp.drop i,WW n.Decomp x.From):=by
    intro d
    induction d with
    | zero=>
      intro i cy lo m h1 h2 h3;refine ⟨(cy,lo),?_,fun h=>⟨h,?_⟩⟩
      · refine zL ?_
        simp only [kV,kO (show n.Decomp.length≤i by omega),cond_false]
      · rw [List.drop_of_length_le (by omega)];intro e he;cases he
    | succ d ih=>
      intro i cy lo m h1 h2 h3;have hi:i < n.Decomp.length:=by omega
      have hpot:pot n.Decomp m≤n.Decomp.length:=List.countP_le_length;obtain ⟨r,hr,_,r3,_,r5⟩:=yCR hd hl 100 n.Decomp[i].From m cy lo h3 (.inl (by omega));rw [zR (x':=(((i+1:Nat):Int),r.2.1,r.2.2.1,r.2.2.2)) (by
        simp only [kV,yV hi,cond_true,zU hi,zA,hr,zO (k:=i) (by omega)])]
      obtain ⟨q,hq,q1⟩:=ih (i+1) r.2.1 r.2.2.1 r.2.2.2 (by omega) (by omega) r3;refine ⟨q,hq,fun hc=>?_⟩;obtain ⟨a1,a2⟩:=q1 hc;obtain ⟨b1,b2⟩:=r5 a1;refine ⟨b1,?_⟩;rw [List.drop_eq_getElem_cons hi];intro e he;rcases List.mem_cons.1 he with rfl | he
      · exact b2
      · exact a2 e he
  obtain ⟨r,hr,h1⟩:=key n.Decomp.length 0 false false [] (by omega) (by omega) ⟨fun k v h=>(by cases h),fun _ k v h=>(by cases h)⟩;unfold decompose_measure;have hr':zE (fun (x:Int×Bool×Bool×(List (Int×Int)))=>kV n x.1 x.2.1 x.2.2.1 x.2.2.2) (0,false,false,[])=some r:=hr;rw [hr'];exact ⟨r,rfl,fun h=>by have:=(h1 h).2;simpa using this⟩
end
end Go.M
namespace Go.M
open Go.AV
structure NSm (n:Norm):Prop where
 cl:n.Classes.length≤40
 de:n.Decomp.length≤40
 to:∀m∈n.Decomp,m.To.length≤70
 tg:∀m∈n.Decomp,m.Tag.length≤40
 ex:n.Excluded.Ranges.length≤12
theorem yGR (l:List Mapping):∃b,zGY l=some b∧(b=true→l.length≤20∧(∀m∈l,m.To.length≤65)∧∀m∈l,m.Tag.length≤40):=by
 unfold zGY;have h:=jC (body:=fun (x:Int)=>zBY l x) (min l.length 30) (fun k=>(nth l k).To.length≤65∧(nth l k).Tag.length≤40) (fun y=>y=false) (fun k hk=>by
  have hk1:k < l.length:=by omega
  have e30:decide ((k:Int) < 30)=true:=by simp;omega
  simp only [zBY,zQ,yV hk1,e30,Bool.and_self,cond_true,z5 hk1,zA,zO (k:=k) (by omega)];by_cases h1:65 < (nth l k).To.length;have:decide ((65:Int) < ((nth l k).To.length:Int))=true:=by simp;omega
  simp only [this,Bool.not_true,vB,zA,Bool.true_or,cond_true];exact .inr ⟨by omega,false,rfl,rfl⟩;have:decide ((65:Int) < ((nth l k).To.length:Int))=false:=by simp;omega
  simp only [this,Bool.not_false,xC,zA,Bool.false_or];exact zAQ (by simp only [decide_eq_true_eq];omega) rfl) (fun k hk=>by
  have:(decide ((k:Int) < (l.length:Int))&&decide ((k:Int) < 30))=false:=by
   simp only [Bool.and_eq_false_iff,decide_eq_false_iff_not];omega
  simp only [zBY,zQ,this,cond_false])
 rcases h with ⟨h,p⟩ | ⟨y,rfl,h,p⟩;rw [h];refine ⟨_,rfl,fun hb=>?_⟩;have hl:l.length≤20:=by simp only [decide_eq_true_eq] at hb;omega
 rw [Nat.min_eq_left (by omega)] at p;have p':=(zCY (l:=l) (p:=fun m:Mapping=>m.To.length≤65∧m.Tag.length≤40)).1 p;exact ⟨hl,fun m hm=>(p' m hm).1,fun m hm=>(p' m hm).2⟩;rw [h];exact ⟨false,rfl,fun h=>by cases h⟩
theorem yGS (n:Norm):∃b,zGZ n=some b∧(b=true→NSm n):=by
 obtain ⟨b,hb,hp⟩:=yGR n.Decomp;unfold zGZ zJD zJE;simp only [zA,zQ,hb];by_cases h1:n.Classes.length≤16;have e1:decide ((n.Classes.length:Int)≤16)=true:=by simp;omega
 simp only [e1,xC,zA,Bool.true_and];cases b with
 | false=>simp only [vB,zA,Bool.false_and];exact ⟨false,rfl,fun h=>by cases h⟩
 | true=>
  simp only [xC,zA,Bool.true_and];refine ⟨_,rfl,fun h=>?_⟩;simp only [decide_eq_true_eq] at h;obtain ⟨a,b,c⟩:=hp rfl;exact ⟨by omega,by omega,fun m hm=>by have:=b m hm;omega,c,by omega⟩
 have e1:decide ((n.Classes.length:Int)≤16)=false:=by simp;omega
 simp only [e1,vB,zA,Bool.false_and];exact ⟨false,rfl,fun h=>by cases h⟩
structure VD0 (n:Norm):Prop where
 cv:CV n.Classes
 mv:MV n.Decomp
 ca:Can n.Excluded.Ranges
 ne:∀k,k+1 < n.Decomp.length→(nth n.Decomp (k+1)).From≠(nth n.Decomp k).From
 kd:∀m∈n.Decomp,m.Tag= []→m.To.length=1∨m.To.length=2
 hk:∀m∈n.Decomp,hkE m.From=0
 tc:∀m∈n.Decomp,m.Tag≠[]→clE n.Classes m.From=0
 ms:decompose_measure n=some (false,false)
theorem yMA {n:Norm} (hl:n.Decomp.length≤2000):∀(d i:Nat) (tg:List Int),n.Decomp.length - i=d→i≤n.Decomp.length→tg.length≤i→
    (zE (fun (x:Int×(List Int))=>yU n x.1 x.2) ((i:Int),tg)=some (.inl (tg++((n.Decomp.drop i).filter fun m=>!(m.Tag== [])).map (·.From)))∧∀m∈n.Decomp.drop i,hkE m.From=0)∨
    (zE (fun (x:Int×(List Int))=>yU n x.1 x.2) ((i:Int),tg)=some (.inr 11)∧¬∀m∈n.Decomp.drop i,hkE m.From=0):=by
  intro d
  induction d with
  | zero=>
    intro i tg h1 h2 h3;rw [List.drop_of_length_le (by omega)];refine .inl ⟨zL ?_,fun m hm=>by cases hm⟩;simp only [yU,kO (show n.Decomp.length≤i by omega),cond_false];simp
  | succ d ih=>
    intro i tg h1 h2 h3;have hi:i < n.Decomp.length:=by omega
    rw [List.drop_eq_getElem_cons hi];by_cases h0:hkE n.Decomp[i].From=0
    · have conv:∀tg',(∃z:Unit,True)→yU n (i:Int) tg=some (.next (((i+1:Nat):Int),tg'))→tg'.length≤i+1→tg'++((n.Decomp.drop (i+1)).filter fun m=>!(m.Tag== [])).map (·.From)=tg++((n.Decomp[i]::n.Decomp.drop (i+1)).filter fun m=>!(m.Tag== [])).map (·.From)→
          (zE (fun (x:Int×(List Int))=>yU n x.1 x.2) ((i:Int),tg)=some (.inl (tg++((n.Decomp[i]::n.Decomp.drop (i+1)).filter fun m=>!(m.Tag== [])).map (·.From)))∧∀m∈n.Decomp[i]::n.Decomp.drop (i+1),hkE m.From=0)∨
          (zE (fun (x:Int×(List Int))=>yU n x.1 x.2) ((i:Int),tg)=some (.inr 11)∧¬∀m∈n.Decomp[i]::n.Decomp.drop (i+1),hkE m.From=0):=by
        intro tg' _ hb hlen he;rw [zR (body:=fun (x:Int×(List Int))=>yU n x.1 x.2) (x:=((i:Int),tg)) hb];rcases ih (i+1) tg' (by omega) (by omega) hlen with ⟨a,b⟩ | ⟨a,b⟩
        · refine .inl ⟨by rw [a,he],fun m hm=>?_⟩
          rcases List.mem_cons.1 hm with rfl | hm
          · exact h0
          · exact b m hm
        · exact .inr ⟨a,fun hh=>b fun m hm=>hh m (List.mem_cons_of_mem _ hm)⟩
      cases ht:(n.Decomp[i].Tag== []) with
      | true=>
        refine conv tg ⟨(),trivial⟩ ?_ (by omega) ?_
        · simp only [yU,yV hi,cond_true,zU hi,zA,zNB,h0,decide_true,Bool.not_true,cond_false,ht,zO (k:=i) (by omega),Sum.elim_inl]
        · rw [List.filter_cons,ht];rfl
      | false=>
        refine conv (tg++ [n.Decomp[i].From]) ⟨(),trivial⟩ ?_ (by simp;omega) ?_
        · simp only [yU,yV hi,cond_true,zU hi,zA,zNB,h0,decide_true,Bool.not_true,cond_false,ht,Bool.not_false,xN (show tg.length+ [n.Decomp[i].From].length≤4294967296 by simp;omega),zO (k:=i) (by omega),Sum.elim_inl]
        · rw [List.filter_cons,ht,List.append_assoc];rfl
    · refine .inr ⟨zL ?_,fun hh=>h0 (hh _ List.mem_cons_self)⟩
      have:(!decide (hkE n.Decomp[i].From=0))=true:=by simp [h0]
      simp only [yU,yV hi,cond_true,zU hi,zA,zNB,this,Sum.elim_inr]
theorem yCS {n:Norm} (hs:NSm n) (hok:vZ n):Ver (zAZ n) (VD0 n):=by
 obtain ⟨e1,he1,p1⟩:=z12 (l:=n.Classes) (by have:=hs.cl;omega) hok.1.2
 obtain ⟨e2,he2,p2⟩:=yJX (l:=n.Decomp) (by have:=hs.de;omega) (fun m hm=>by have:=hs.to m hm;omega) (fun m hm=>by have:=hs.tg m hm;unfold MX;omega)
 obtain ⟨e3,he3,p3⟩:=yCO (s:=n.Excluded) hs.ex;have hde:=hs.de;unfold zAZ;rw [he1,zA];by_cases h1:e1=0
 case neg=>
  have:(!decide (e1=0))=true:=by simp [h1]
  rw [this,cond_true];exact ⟨e1,rfl,by simp only [h1,false_iff];exact fun h=>h1 (p1.2 h.cv)⟩
 rw [h1];simp only [decide_true,Bool.not_true,cond_false];have cv:=p1.1 h1;rw [he2,zA];by_cases h2:e2=0
 case neg=>
  have:(!decide (e2=0))=true:=by simp [h2]
  rw [this,cond_true];exact ⟨e2,rfl,by simp only [h2,false_iff];exact fun h=>h2 (p2.2 h.mv)⟩
 rw [h2];simp only [decide_true,Bool.not_true,cond_false];have mv:=p2.1 h2;rw [he3,zA];cases e3 with
 | false=>exact ⟨11,rfl,by simp only [show ((11:Int)=0)=False by simp,false_iff];exact fun h=>by have:=p3.2 h.ca;cases this⟩
 | true=>
 have ca:=p3.1 rfl;simp only [Bool.not_true,cond_false];have l0:=zNA (body:=fun (x:Int)=>vI n x) n.Decomp.length (fun k=>(nth n.Decomp (k+1)).From≠(nth n.Decomp k).From) (fun y=>y≠0) (fun k hk=>by
  have hk':k < n.Decomp.length:=by omega
  simp only [vI,yV hk,cond_true,z5 hk,zA,zO (k:=k+1) (by omega),zCX (k:=k) (by omega),z5 hk'];exact zAQ (by simp) (by decide)) (fun k hk=>by simp only [vI,kO hk,cond_false])
 rcases l0 with ⟨l0,ne⟩ | ⟨y,hy,l0,ne⟩
 case inr=>rw [l0];exact ⟨y,rfl,by simp only [hy,false_iff];exact fun h=>ne h.ne⟩
 rw [l0];simp only [zA,Sum.elim_inl];have l1:=jC (body:=fun (x:Int)=>vJ n x) n.Decomp.length (fun k=>(nth n.Decomp k).Tag= []→(nth n.Decomp k).To.length=1∨(nth n.Decomp k).To.length=2) (fun y=>y≠0) (fun k hk=>by
  simp only [vJ,yV hk,cond_true,z5 hk,zA,zQ,zO (k:=k) (by omega)];have hb:((nth n.Decomp k).Tag== [])=decide ((nth n.Decomp k).Tag= []):=by cases (nth n.Decomp k).Tag <;> rfl
  rw [hb];refine zAQ ?_ (by decide);simp only [Bool.and_eq_true,Bool.not_eq_true',decide_eq_true_eq,decide_eq_false_iff_not];constructor
  ·
   rintro ⟨⟨a,b⟩,c⟩ h
   rcases h a with h | h
   · exact b (by omega)
   · exact c (by omega)
  ·
   intro h;refine ⟨⟨?_,?_⟩,?_⟩
   · exact Classical.byContradiction fun a=>h fun a'=>absurd a' a
   · exact fun b=>h fun _=> .inl (by omega)
   · exact fun b=>h fun _=> .inr (by omega)) (fun k hk=>by simp only [vJ,kO hk,cond_false])
 rw [zCY (p:=fun m:Mapping=>m.Tag= []→m.To.length=1∨m.To.length=2)] at l1;rcases l1 with ⟨l1,kd⟩ | ⟨y,hy,l1,kd⟩
 case inr=>rw [l1];exact ⟨y,rfl,by simp only [hy,false_iff];exact fun h=>kd h.kd⟩
 rw [l1];simp only [zA,Sum.elim_inl];have l2:=yMA (n:=n) (by omega) n.Decomp.length 0 [] (by omega) (by omega) (by simp);simp only [List.drop_zero,List.nil_append] at l2;rcases l2 with ⟨l2,hk⟩ | ⟨l2,hk⟩
 case inr=>
  have l2':zE (fun (x:Int×(List Int))=>yU n x.1 x.2) (0,[])=some (.inr 11):=l2;rw [l2'];exact ⟨11,rfl,by simp only [show ((11:Int)=0)=False by simp,false_iff];exact fun h=>hk h.hk⟩
 have l2':zE (fun (x:Int×(List Int))=>yU n x.1 x.2) (0,[])=some (.inl ((n.Decomp.filter fun m=>!(m.Tag== [])).map (·.From))):=l2;rw [l2'];simp only [zA,Sum.elim_inl];obtain ⟨r,hr,pr⟩:=yGP cv (by have:=hs.cl;omega) hok.1.2 (text:=(n.Decomp.filter fun m=>!(m.Tag== [])).map (·.From)) (by
  have:=List.length_filter_le (fun m:Mapping=>!(m.Tag== [])) n.Decomp;simp only [List.length_map];omega)
 rw [hr,zA];have hbt:∀m:Mapping,(m.Tag== [])=decide (m.Tag= []):=fun m=>by cases m.Tag <;> rfl
 have htc:(∀c∈(n.Decomp.filter fun m=>!(m.Tag== [])).map (·.From),clE n.Classes c=0)↔∀m∈n.Decomp,m.Tag≠[]→clE n.Classes m.From=0:=by
  constructor
  ·
   intro h m hm ht;exact h _ (List.mem_map.2 ⟨m,List.mem_filter.2 ⟨hm,by rw [hbt];simpa using ht⟩,rfl⟩)
  ·
   intro h c hc;obtain ⟨m,hm,rfl⟩:=List.mem_map.1 hc;obtain ⟨a,b⟩:=List.mem_filter.1 hm;exact h m a (by rw [hbt] at b;simpa using b)
 rw [htc] at pr;by_cases hrn:r= []
 case neg=>
  have:decide ((0:Int) < (r.length:Int))=true:=by
   have:=List.length_pos_iff.2 hrn;simp only [decide_eq_true_eq];omega
  rw [this,cond_true];exact ⟨11,rfl,by simp only [show ((11:Int)=0)=False by simp,false_iff];exact fun h=>hrn (pr.2 h.tc)⟩
 have:decide ((0:Int) < (r.length:Int))=false:=by rw [hrn];rfl
 rw [this,cond_false];have hds:DS n.Decomp:=⟨fun k hk'=>by
  have a:=mv.lt k hk';have b:=ne k hk';unfold mlt at a;omega,hk,fun m hm=>by have:=mv.sz m hm;omega⟩
 obtain ⟨q,hq,_⟩:=zRG hds (by omega) (by omega);rw [hq,zA];obtain ⟨cy,lo⟩:=q;cases cy with
 | true=>exact ⟨12,rfl,by simp only [show ((12:Int)=0)=False by simp,false_iff];exact fun h=>by have:=h.ms;rw [hq] at this;cases this⟩
 | false=>
  cases lo with
  | true=>exact ⟨13,rfl,by simp only [show ((13:Int)=0)=False by simp,false_iff];exact fun h=>by have:=h.ms;rw [hq] at this;cases this⟩
  | false=>exact ⟨0,rfl,by simp only [true_iff];exact ⟨cv,mv,ca,ne,kd,hk,pr.1 hrn,hq⟩⟩
theorem VD0.ds {n:Norm} (h:VD0 n):DS n.Decomp:=⟨fun k hk'=>by
  have a:=h.mv.lt k hk';have b:=h.ne k hk';unfold mlt at a;omega,h.hk,fun m hm=>by have:=h.mv.sz m hm;omega⟩
end Go.M
namespace Go.M
open Go.AV
def DD (l:List Mapping):Nat→Int→Prop
 | 0,c=>l.find? (isF c)=none
 | k+1,c=> ∀m,l.find? (isF c)=some m→∀e∈m.To,DD l k e
theorem zSH {l:List Mapping} {c:Int} (h:l.find? (isF c)=none):∀k,DD l k c
 | 0=>h
 | k+1=>fun m hm=>by rw [h] at hm;cases hm
theorem zLB {l:List Mapping}:∀{k:Nat} {c:Int},DD l k c→DD l (k+1) c
 | 0,_,h=>zSH h 1
 | _+1,_,h=>fun m hm e he=>zLB (h m hm e he)
theorem zGT {l:List Mapping} {c:Int} {m:Mapping} (h:l.find? (isF c)=some m):m∈l∧m.From=c:=by refine ⟨List.mem_of_find?_eq_some h,?_⟩;have h4:=List.find?_some h;unfold isF at h4;simpa using h4
theorem zUA {l:List Mapping} (hd:DS l) {m:Mapping} (hm:m∈l):syl m.From=false:=by
 cases hs:syl m.From with
 | false=>rfl
 | true=>have:=(zH4 _).1 hs;have:=hd.hk m hm;omega
theorem zEA {l:List Mapping} (hd:DS l) {m:Mapping} (hm:m∈l):l.find? (isF m.From)=some m:=by
 obtain ⟨k,hk,rfl⟩:=List.getElem_of_mem hm;rw [←zCN hk];exact zPO (p:=isF (nth l k).From) hk (fun j hj=>by
  have:=hd.lt hj hk;unfold isF;simp only [decide_eq_false_iff_not];omega) (by simp [isF])
theorem z2B {l:List Mapping} (hd:DS l) {c:Int} (h:syl c=true):l.find? (isF c)=none:=by
 cases hf:l.find? (isF c) with
 | none=>rfl
 | some m=>
  obtain ⟨h1,rfl⟩:=zGT hf;rw [zUA hd h1] at h;cases h
theorem z2C {l:List Mapping} (hd:DS l) {c:Int} {m:Mapping} (h:l.find? (isF c)=some m):dep l c=m.To:=by obtain ⟨h1,rfl⟩:=zGT h;exact z19 hd h1
theorem yIF {l:List Mapping} (hd:DS l):∀{k:Nat} {c:Int},EE l k c→DD l k c
 | 0,_,h=>h.elim
 | _+1,_,h=>fun m hm e he=>yIF hd (h e (by rw [z2C hd hm];exact he))
theorem yCT {l:List Mapping} (hd:DS l) (H:∀m∈l,WW l m.From):∀m∈l,DD l l.length m.From:=by
 classical
 have key:∀k,(∀m∈l,DD l k m.From)∨k≤l.countP (fun m=>decide (DD l k m.From)):=by
  intro k
  induction k with
  | zero=>exact .inr (Nat.zero_le _)
  | succ k ih=>
   rcases ih with ih | ih;exact .inl fun m hm=>zLB (ih m hm);by_cases hst:∀m∈l,DD l (k+1) m.From→DD l k m.From;left;have hall:∀j c,DD l j c→DD l k c:=by
    intro j
    induction j with
    | zero=>intro c h;exact zSH h k
    | succ j ihj=>
     intro c h;cases hf:l.find? (isF c) with
     | none=>exact zSH hf k
     | some m=>
      obtain ⟨h1,h2⟩:=zGT hf;have:=hst m h1 (by
       rw [h2];intro m' hm' e he;exact ihj e (h m' hm' e he))
      rwa [h2] at this
   intro m hm;obtain ⟨j,hj⟩:=H m hm;exact zLB (hall j _ (yIF hd hj));right;have hex:∃m∈l,DD l (k+1) m.From∧¬DD l k m.From:=by
    apply Classical.byContradiction;intro hno;exact hst fun m hm h1=>Classical.byContradiction fun h2=>hno ⟨m,hm,h1,h2⟩
   obtain ⟨m,hm,h1,h2⟩:=hex;have:=zQN (p:=fun m=>decide (DD l k m.From)) (q:=fun m=>decide (DD l (k+1) m.From)) (l:=l) (fun x _ hx=>by simp only [decide_eq_true_eq] at hx ⊢;exact zLB hx) ⟨m,hm,by simpa using h1,by simpa using h2⟩
   omega
 rcases key l.length with h | h;exact h;have hle:l.countP (fun m=>decide (DD l l.length m.From))≤l.length:=List.countP_le_length;have:l.countP (fun m=>decide (DD l l.length m.From))=l.length:=by omega
 intro m hm;have:=List.countP_eq_length.1 this m hm;simpa using this
theorem zUB {l:List Mapping} (hd:DS l) (H:∀m∈l,WW l m.From) (c:Int):DD l l.length c:=by
 cases hf:l.find? (isF c) with
 | none=>exact zSH hf _
 | some m=>
  obtain ⟨h1,h2⟩:=zGT hf;have:=yCT hd H m h1
  rwa [h2] at this
def fnB (l:List Mapping) (b:Bool) (c:Int):Option (List Int):=match l.find? (isF c) with
 | some m=>if (b ||(m.Tag== []))=true then some m.To else none
 | none=>none
theorem zKJ {l:List Mapping} {b:Bool} {c:Int} {to:List Int} (h:fnB l b c=some to):∃m,l.find? (isF c)=some m∧m.To=to∧(b ||(m.Tag== []))=true:=by
 unfold fnB at h;cases hf:l.find? (isF c) with
 | none=>rw [hf] at h;cases h
 | some m=>
  rw [hf] at h;simp only at h;split at h;rename_i hb;injection h with h;exact ⟨m,rfl,h,hb⟩;cases h
theorem zUC (l:List Mapping) (c:Int):fnB l true c=(l.find? (isF c)).map (·.To):=by unfold fnB;cases l.find? (isF c) <;> simp
theorem yJ5 {l:List Mapping} {c:Int} {to:List Int} (h:fnB l false c=some to):fnB l true c=some to:=by obtain ⟨m,h1,h2,_⟩:=zKJ h;rw [zUC,h1,←h2];rfl
def exF (l:List Mapping) (b:Bool):Nat→Int→List Int
 | 0,c=>hdE c
 | k+1,c=>match fnB l b c with
  | some to=>to.flatMap (exF l b k)
  | none=>hdE c
def wtF (l:List Mapping) (b:Bool):Nat→Int→Int
 | 0,c=>((hdE c).length:Int)
 | k+1,c=>match fnB l b c with
  | some to=>min (max (to.map (wtF l b k)).sum 1) 65
  | none=>((hdE c).length:Int)
theorem zOE {f g:Int→List Int}:∀{L:List Int},(∀e∈L,f e=g e)→L.flatMap f=L.flatMap g
 | [],_=>rfl
 | x::L,h=>by rw [List.flatMap_cons,List.flatMap_cons,h x (by simp),zOE fun e he=>h e (by simp [he])]
theorem zIX {l:List Mapping} {b:Bool} {c:Int} (h:l.find? (isF c)=none):fnB l b c=none:=by unfold fnB;rw [h]
theorem yCV {l:List Mapping} {b:Bool}:∀{k:Nat} {c:Int},DD l k c→∀{j:Nat},k≤j→exF l b j c=exF l b k c
 | 0,c,h,j,_=>by
  cases j with
  | zero=>rfl
  | succ j=>show (match fnB l b c with | some to=>to.flatMap (exF l b j) | none=>hdE c)=hdE c;rw [zIX h]
 | k+1,c,h,j,hj=>by
  cases j with
  | zero=>omega
  | succ j=>
   show (match fnB l b c with | some to=>to.flatMap (exF l b j) | none=>hdE c)=(match fnB l b c with | some to=>to.flatMap (exF l b k) | none=>hdE c);cases hf:fnB l b c with
   | none=>rfl
   | some to=>
    obtain ⟨m,h1,rfl,_⟩:=zKJ hf;exact zOE fun e he=>yCV (h m h1 e he) (by omega)
theorem yCW {l:List Mapping} {b:Bool}:∀{k:Nat} {c:Int},DD l k c→∀{j:Nat},k≤j→wtF l b j c=wtF l b k c
 | 0,c,h,j,_=>by
  cases j with
  | zero=>rfl
  | succ j=>show (match fnB l b c with | some to=>min (max (to.map (wtF l b j)).sum 1) 65 | none=>((hdE c).length:Int))=((hdE c).length:Int);rw [zIX h]
 | k+1,c,h,j,hj=>by
  cases j with
  | zero=>omega
  | succ j=>
   show (match fnB l b c with | some to=>min (max (to.map (wtF l b j)).sum 1) 65 | none=>((hdE c).length:Int))=(match fnB l b c with | some to=>min (max (to.map (wtF l b k)).sum 1) 65 | none=>((hdE c).length:Int));cases hf:fnB l b c with
   | none=>rfl
   | some to=>
    obtain ⟨m,h1,rfl,_⟩:=zKJ hf;have:m.To.map (wtF l b j)=m.To.map (wtF l b k):=List.map_congr_left fun e he=>yCW (h m h1 e he) (by omega);simp only [this]
def fu (l:List Mapping) (b:Bool) (c:Int):List Int:=exF l b l.length c
def wt (l:List Mapping) (b:Bool) (c:Int):Int:=wtF l b l.length c
theorem zRH {l:List Mapping} {b:Bool} (hD:∀c,DD l l.length c) (c:Int):fu l b c=match fnB l b c with | some to=>to.flatMap (fu l b) | none=>hdE c:=by unfold fu;rw [←yCV (hD c) (show l.length≤l.length+1 by omega)];rfl
theorem zW0 {l:List Mapping} {b:Bool} (hD:∀c,DD l l.length c) (c:Int):wt l b c=(match fnB l b c with | some to=>(min (max (to.map (wt l b)).sum 1) 65:Int) | none=>((hdE c).length:Int):Int):=by unfold wt;rw [←yCW (hD c) (show l.length≤l.length+1 by omega)];rfl
theorem zNC {l:List Mapping} {b:Bool} (k:Nat) (c:Int):1≤wtF l b k c∧wtF l b k c≤65:=by
 have:=zOD c;cases k with
 | zero=>show 1≤((hdE c).length:Int)∧((hdE c).length:Int)≤65;omega
 | succ k=>
  show 1≤(match fnB l b c with | some to=>min (max (to.map (wtF l b k)).sum 1) 65 | none=>((hdE c).length:Int))∧(match fnB l b c with | some to=>min (max (to.map (wtF l b k)).sum 1) 65 | none=>((hdE c).length:Int))≤65;cases fnB l b c with
  | none=>simp only [];omega
  | some to=>simp only [];omega
theorem zYW {f:Int→Int} (hf:∀e,1≤f e):∀L:List Int,(L.length:Int)≤(L.map f).sum
 | []=>by simp
 | x::L=>by have:=zYW hf L;have:=hf x;simp only [List.map_cons,List.sum_cons,List.length_cons];omega
theorem z6I {f:Int→List Int} {w:Int→Int} (hw:∀e,1≤w e) (N:Int):∀(L:List Int),(∀e∈L,w e≤N→((f e).length:Int)≤w e)→(L.map w).sum≤N→((L.flatMap f).length:Int)≤(L.map w).sum
 | [],_,_=>by simp
 | x::L,h,hs=>by
  have h0:=zYW hw L;have h1:=hw x;simp only [List.map_cons,List.sum_cons] at hs ⊢;have ih:=z6I hw N L (fun e he=>h e (by simp [he])) (by omega);have hx:=h x (by simp) (by omega);rw [List.flatMap_cons,List.length_append];omega
theorem yGT {l:List Mapping} {b:Bool}:∀(k:Nat) (c:Int),wtF l b k c≤64→((exF l b k c).length:Int)≤wtF l b k c:=by
 intro k
 induction k with
 | zero=>intro c _;show ((hdE c).length:Int)≤((hdE c).length:Int);omega
 | succ k ih=>
  intro c;show (match fnB l b c with | some to=>min (max (to.map (wtF l b k)).sum 1) 65 | none=>((hdE c).length:Int))≤64→(((match fnB l b c with | some to=>to.flatMap (exF l b k) | none=>hdE c):List Int).length:Int)≤(match fnB l b c with | some to=>min (max (to.map (wtF l b k)).sum 1) 65 | none=>((hdE c).length:Int));cases fnB l b c with
  | none=>intro _;simp only [];omega
  | some to=>
   simp only [];intro h;have:=z6I (f:=exF l b k) (w:=wtF l b k) (fun e=>(zNC k e).1) 64 to (fun e _ he=>ih e he) (by omega);omega
theorem z6J {l:List Mapping} (hd:DS l):∀(k:Nat) (c:Int),wtF l false k c≤wtF l true k c:=by
 intro k
 induction k with
 | zero=>intro c;exact Int.le_refl _
 | succ k ih=>
  intro c;have hs:∀L:List Int,(L.map (wtF l false k)).sum≤(L.map (wtF l true k)).sum:=by
   intro L
   induction L with
   | nil=>simp
   | cons x L ihL=>have:=ih x;simp only [List.map_cons,List.sum_cons];omega
  show (match fnB l false c with | some to=>min (max (to.map (wtF l false k)).sum 1) 65 | none=>((hdE c).length:Int))≤(match fnB l true c with | some to=>min (max (to.map (wtF l true k)).sum 1) 65 | none=>((hdE c).length:Int));cases hf:fnB l false c with
  | some to=>
   rw [yJ5 hf];have:=hs to;simp only [];omega
  | none=>
   cases ht:fnB l true c with
   | none=>exact Int.le_refl _
   | some to=>
    obtain ⟨m,h1,_,_⟩:=zKJ ht;obtain ⟨h2,rfl⟩:=zGT h1;have:hdE m.From= [m.From]:=by unfold hdE;rw [if_neg (by simp [zUA hd h2])]
    simp only [this,List.length_singleton];omega
theorem yJ6 {l:List Mapping} (hd:DS l) (h:∀c,wt l true c≤64) (b:Bool) (c:Int):(fu l b c).length≤64:=by
 have h1:wtF l b l.length c≤wtF l true l.length c:=by
  cases b with
  | true=>exact Int.le_refl _
  | false=>exact z6J hd _ c
 have h2:wtF l true l.length c≤64:=h c;have:=yGT (l:=l) (b:=b) l.length c (by omega);unfold fu;omega
theorem yCX {l:List Mapping} (hd:DS l) (hD:∀c,DD l l.length c) (c:Int):(dep l c= []→wt l true c=1)∧(dep l c≠[]→wt l true c=min ((dep l c).map (wt l true)).sum 65):=by
 have hp:∀e,1≤wt l true e:=fun e=>(zNC _ e).1;rw [zW0 hD c,zUC];cases hf:l.find? (isF c) with
 | some m=>
  rw [z2C hd hf];simp only [Option.map_some];constructor;intro h;rw [h];rfl;intro h;have:=zYW hp m.To;have:0 < m.To.length:=List.length_pos_iff.2 h;omega
 | none=>
  simp only [Option.map_none];cases hs:syl c with
  | false=>
   have h1:dep l c= []:=by unfold dep;rw [if_neg (by simp [hs]),hf]
   have h2:hdE c= [c]:=by unfold hdE;rw [if_neg (by simp [hs])]
   rw [h1,h2];exact ⟨fun _=>rfl,fun h=>absurd rfl h⟩
  | true=>
   have h1:dep l c=hdE c:=by unfold dep;rw [if_pos hs]
   have hl:=zOD c;have hone:∀e∈hdE c,wt l true e=1:=by
    intro e he;obtain ⟨p1,p2⟩:=zT8 hs he;have hn:l.find? (isF e)=none:=by
     cases hf2:l.find? (isF e) with
     | none=>rfl
     | some m=>obtain ⟨q1,rfl⟩:=zGT hf2;exact absurd (hd.hk m q1) p2
    rw [zW0 hD e,zIX hn];simp only [];unfold hdE;rw [if_neg (by simp [p1])];rfl
   have hsum:∀L:List Int,(∀e∈L,wt l true e=1)→(L.map (wt l true)).sum=(L.length:Int):=by
    intro L
    induction L with
    | nil=>intro _;rfl
    | cons x L ih=>intro h;have:=ih fun e he=>h e (by simp [he]);have:=h x (by simp);simp only [List.map_cons,List.sum_cons,List.length_cons];omega
   rw [h1];constructor;intro h;rw [h] at hl;simp at hl;intro _;rw [hsum _ hone];omega
end Go.M
namespace Go.M
open Go.AV
section
variable {n:Norm} (hd:DS n.Decomp) (hl:n.Decomp.length≤2000) (H:∀m∈n.Decomp,WW n.Decomp m.From)
include hd hl H
structure MeX (l:List Mapping) (m:List (Int×Int)) (lo:Bool):Prop where
 val:∀k v,mget m k=some v→v= -1∨v=wt l true k
 lof:lo=false→∀k v,mget m k=some v→v≠ -1→v≤64
 lot:lo=true→∃x∈l,64 < wt l true x.From
def z41 (l:List Mapping) (m m':List (Int×Int)) (lo':Bool):Prop:=
 MeX l m' lo'∧(∀k v,mget m k=some v→mget m' k=some v)∧∀e,mget m' e=some (-1)→mget m e=some (-1)
omit hd hl H in
theorem z89 {m m':List (Int×Int)} (h:∀k v,mget m k=some v→mget m' k=some v):∀k,zC1 m k=true→zC1 m' k=true:=by intro k hk;obtain ⟨v,hv⟩:=Option.isSome_iff_exists.1 hk;show (mget m' k).isSome=true;rw [h k v hv];rfl
omit H hl in
theorem yGU {f:Nat} (c:Int) (k1:Nat) (ih:∀c m lo,MeX n.Decomp m lo→zVL n.Decomp f c m→(∃k,EE n.Decomp k c∧∀e,mget m e=some (-1)→¬EE n.Decomp k e)→∃lo' m',yB f c n m false lo=some (wt n.Decomp true c,false,lo',m')∧z41 n.Decomp m m' lo'∧(dep n.Decomp c≠[]→mget m' c=some (wt n.Decomp true c))) (hk1:∀e∈dep n.Decomp c,EE n.Decomp k1 e):
  ∀(d i:Nat) (s:Int) (lo:Bool) (m:List (Int×Int)),(dep n.Decomp c).length - i=d→i≤(dep n.Decomp c).length→0≤s→s≤65→MeX n.Decomp m lo→(∀e∈dep n.Decomp c,zVL n.Decomp f e m)→(∀e,mget m e=some (-1)→¬EE n.Decomp k1 e)→
   ∃lo' m',zE (zT9 (dep n.Decomp c,true) (yB f) n) (s,(i:Int),false,lo,m)=some (min (s+(((dep n.Decomp c).drop i).map (wt n.Decomp true)).sum) 65,false,lo',m')∧z41 n.Decomp m m' lo':=by
 have hL:=z6E hd c;generalize dep n.Decomp c=L at*;intro d
 induction d with
 | zero=>
  intro i s lo m h1 h2 h3 h4 h5 h6 h7;refine ⟨lo,m,?_,h5,fun _ _ h=>h,fun _ h=>h⟩;refine zL ?_;rw [List.drop_of_length_le (show L.length≤i by omega)];simp only [jG,kO (show L.length≤i by omega),cond_false,List.map_nil,List.sum_nil,Int.add_zero];rw [Int.min_eq_left h4]
 | succ d ihd=>
  intro i s lo m h1 h2 h3 h4 h5 h6 h7;have hi:i < L.length:=by omega
  have hm:=List.getElem_mem hi;obtain ⟨lo1,m1,hr,⟨r1,r2,r3⟩,_⟩:=ih L[i] m lo h5 (h6 _ hm) ⟨k1,hk1 _ hm,h7⟩;have hp:=zNC (l:=n.Decomp) (b:=true) n.Decomp.length L[i];have hp':1≤wt n.Decomp true L[i]∧wt n.Decomp true L[i]≤65:=hp;have hb:zT9 (L,true) (yB f) n (s,(i:Int),false,lo,m)=some (.next (min (s+wt n.Decomp true L[i]) 65,((i+1:Nat):Int),false,lo1,m1)):=by
   simp only [jG,yV hi,cond_true,zU hi,zA,hr,zO (k:=i) (by omega)];rw [xS (n:=s+wt n.Decomp true L[i]) (by omega) (by omega)]
  rw [zR hb];obtain ⟨lo2,m2,hq,q1,q2,q3⟩:=ihd (i+1) (min (s+wt n.Decomp true L[i]) 65) lo1 m1 (by omega) (by omega) (by omega) (by omega) r1 (fun e he=>zWZ (z89 r2) (h6 e he)) (fun e he=>h7 e (r3 e he));refine ⟨lo2,m2,?_,q1,fun k v h=>q2 k v (r2 k v h),fun e h=>r3 e (q3 e h)⟩;rw [hq,List.drop_eq_getElem_cons hi,List.map_cons,List.sum_cons];have hnn:=zYW (f:=wt n.Decomp true) (fun e=>(zNC _ e).1) (L.drop (i+1));have:min (min (s+wt n.Decomp true L[i]) 65+((L.drop (i+1)).map (wt n.Decomp true)).sum) 65=min (s+(wt n.Decomp true L[i]+((L.drop (i+1)).map (wt n.Decomp true)).sum)) 65:=by omega
  rw [this]
theorem yGV : ∀ (f : Nat) (c : Int) (m : List (Int × Int)) (lo : Bool), MeX n.Decomp m lo → zVL n.Decomp f c m → (∃ k, EE n.Decomp k c ∧ ∀ e, mget m e = some (-1) → ¬ EE n.Decomp k e) →
    ∃ lo' m', yB f c n m false lo = some (wt n.Decomp true c, false, lo', m') ∧ z41 n.Decomp m m' lo' ∧ (dep n.Decomp c ≠ [] → mget m' c = some (wt n.Decomp true c)) := by
  have hD := zUB hd H;intro f
  induction f with
  | zero =>
    intro c m lo _ hn;exfalso;rcases hn with h | h | h <;> omega
  | succ f ih =>
    intro c m lo hm hn hst;show ∃ lo' m', k9 (yB f) c n m false lo = some _ ∧ _;obtain ⟨w0, w1⟩ := yCX hd hD c;have hp' : 1 ≤ wt n.Decomp true c ∧ wt n.Decomp true c ≤ 65 := zNC (l := n.Decomp) (b := true) n.Decomp.length c;by_cases h0 : dep n.Decomp c = []
    · rw [z6H hd hl h0, w0 h0]
      exact ⟨lo, m, rfl, ⟨hm, fun _ _ h => h, fun _ h => h⟩, fun h => absurd h0 h⟩
    · rw [yID hd hl h0]
      obtain ⟨k, hk, hks⟩ := hst;cases hh : zC1 m c with
      | true =>
        obtain ⟨v, hv⟩ := Option.isSome_iff_exists.1 hh;have hg : zAT m c 0 = v := by unfold zAT; rw [hv]; rfl
        have hne : v ≠ -1 := fun e => hks c (by rw [hv, e]) hk;have hvw : v = wt n.Decomp true c := (hm.val c v hv).resolve_left hne;rw [hg, cond_true];have e1 : decide (v = -1) = false := by simpa using hne
        rw [e1];refine ⟨lo, m, ?_, ⟨hm, fun _ _ h => h, fun _ h => h⟩, fun _ => by rw [hv, hvw]⟩;rw [show max v 1 = wt n.Decomp true c by omega];rfl
      | false =>
        have hmin : ∃ k0, EE n.Decomp (k0 + 1) c ∧ ¬ EE n.Decomp k0 c ∧ k0 + 1 ≤ k := by
          clear hks
          induction k with
          | zero => exact hk.elim
          | succ k ihk =>
            by_cases h : EE n.Decomp k c
            · obtain ⟨k0, a, b, e⟩ := ihk h
              exact ⟨k0, a, b, by omega⟩
            · exact ⟨k, hk, h, Nat.le_refl _⟩
        obtain ⟨k0, a, b, e⟩ := hmin;have hgn : mget m c = none := by
          cases hx : mget m c with
          | none => rfl
          | some v => have : zC1 m c = true := by unfold zC1; rw [hx]; rfl
                      rw [hh] at this; cases this
        have hok : MeX n.Decomp (zAV m c (-1)) lo := by
          refine ⟨fun k v hk => ?_, fun hc k v hk hne => ?_, hm.lot⟩
          · rw [wH] at hk
            split at hk
            · cases hk; exact .inl rfl
            · exact hm.val k v hk
          · rw [wH] at hk
            split at hk
            · cases hk; exact absurd rfl hne
            · exact hm.lof hc k v hk hne
        have hnd : ∀ e ∈ dep n.Decomp c, zVL n.Decomp f e (zAV m c (-1)) := by
          intro e he;cases hs : syl c with
          | true =>
            refine .inr (.inr ⟨zYU hd hs he, ?_⟩);rcases hn with h | h | h
            · omega
            · omega
            · exact absurd h.1 h0
          | false =>
            rcases hn with h | h | h
            · refine .inl ?_
              have := z6G (l := n.Decomp) (v := -1) (z40 h0 hs) hh;omega
            · rw [hs] at h; cases h.1
            · exact absurd h.1 h0
        obtain ⟨lo1, m1, hq, q1, q2, q3⟩ := yGU hd c k0 ih (fun e he => a e he) (dep n.Decomp c).length 0 0 lo (zAV m c (-1)) (by omega) (by omega) (by omega) (by omega) hok hnd (fun e' he' => by
          rw [wH] at he';split at he'
          · rename_i hx; rw [hx]; exact b
          · exact fun h => hks e' he' (yCP (by omega) h))
        rw [List.drop_zero, Int.zero_add, ← w1 h0] at hq;have hq' : zE (zT9 (dep n.Decomp c, true) (yB f) n) (0, 0, false, lo, zAV m c (-1)) = some (wt n.Decomp true c, false, lo1, m1) := hq;simp only [cond_false];rw [hq'];refine ⟨(lo1 || decide (64 < wt n.Decomp true c)), zAV m1 c (wt n.Decomp true c), rfl, ⟨⟨fun k v hk => ?_, fun hc k v hk hne => ?_, fun hc => ?_⟩, fun k v hk => ?_, fun e' he' => ?_⟩, fun _ => by rw [wH, if_pos rfl]⟩
        · rw [wH] at hk
          split at hk
          · rename_i hx; cases hk; rw [hx]; exact .inr rfl
          · exact q1.val k v hk
        · rw [Bool.or_eq_false_iff] at hc
          rw [wH] at hk;split at hk
          · cases hk; have := hc.2; simp only [decide_eq_false_iff_not] at this; omega
          · exact q1.lof hc.1 k v hk hne
        · rcases Bool.or_eq_true_iff.1 hc with h | h
          · exact q1.lot h
          · simp only [decide_eq_true_eq] at h
            cases hs : syl c with
            | true =>
              have : wt n.Decomp true c ≤ 3 := by
                rw [zW0 hD c, zIX (z2B hd hs)];have := zOD c;simp only []; omega
              omega
            | false => obtain ⟨x, hx, rfl⟩ := z40 h0 hs; exact ⟨x, hx, h⟩
        · rw [wH]
          split
          · rename_i hx; rw [hx, hgn] at hk; cases hk
          · rename_i hx
            exact q2 k v (by rw [wH, if_neg hx]; exact hk)
        · rw [wH] at he'
          split at he'
          · injection he' with he'; omega
          · rename_i hx
            have := q3 e' he';rw [wH, if_neg hx] at this;exact this
theorem zUD (hp:n.Decomp.length≤90):∃lo,decompose_measure n=some (false,lo)∧(lo=false↔∀x∈n.Decomp,wt n.Decomp true x.From≤64):=by
  have hD:=zUB hd H;have key:∀(d i:Nat) (lo:Bool) (m:List (Int×Int)),n.Decomp.length - i=d→i≤n.Decomp.length→MeX n.Decomp m lo→(∀e,mget m e≠some (-1))→(∀x∈n.Decomp.take i,dep n.Decomp x.From≠[]→mget m x.From=some (wt n.Decomp true x.From))→
      ∃lo',zE (fun (x:Int×Bool×Bool×(List (Int×Int)))=>kV n x.1 x.2.1 x.2.2.1 x.2.2.2) ((i:Int),false,lo,m)=some (false,lo')∧(lo'=false↔∀x∈n.Decomp,wt n.Decomp true x.From≤64):=by
    intro d
    induction d with
    | zero=>
      intro i lo m h1 h2 h3 h4 h5;refine ⟨lo,?_,fun h x hx=>?_,fun h=>?_⟩
      · refine zL ?_
        simp only [kV,kO (show n.Decomp.length≤i by omega),cond_false]
      · by_cases h0:dep n.Decomp x.From= []
        · rw [(yCX hd hD x.From).1 h0];decide
        · have hg:=h5 x (by rw [List.take_of_length_le (by omega)];exact hx) h0
          have hp':1≤wt n.Decomp true x.From∧wt n.Decomp true x.From≤65:=zNC (l:=n.Decomp) (b:=true) n.Decomp.length x.From;exact h3.lof h _ _ hg (by omega)
      · cases lo with
        | false=>rfl
        | true=>obtain ⟨x,hx,hg⟩:=h3.lot rfl;have:=h x hx;omega
    | succ d ih=>
      intro i lo m h1 h2 h3 h4 h5;have hi:i < n.Decomp.length:=by omega
      have hpot:pot n.Decomp m≤n.Decomp.length:=List.countP_le_length;obtain ⟨k,hk⟩:=H n.Decomp[i] (List.getElem_mem hi);obtain ⟨lo1,m1,hr,⟨r1,r2,r3⟩,r4⟩:=yGV hd hl H 100 n.Decomp[i].From m lo h3 (.inl (by omega)) ⟨k,hk,fun e he=>absurd he (h4 e)⟩;rw [zR (x':=(((i+1:Nat):Int),false,lo1,m1)) (by
        simp only [kV,yV hi,cond_true,zU hi,zA,hr,zO (k:=i) (by omega)])]
      refine ih (i+1) lo1 m1 (by omega) (by omega) r1 (fun e he=>h4 e (r3 e he)) (fun x hx hx0=>?_);rw [List.take_add_one,List.getElem?_eq_getElem hi] at hx;rcases List.mem_append.1 hx with hx | hx
      · exact r2 _ _ (h5 x hx hx0)
      · simp only [Option.toList_some,List.mem_singleton] at hx
        subst hx;exact r4 hx0
  obtain ⟨lo,hr,h1⟩:=key n.Decomp.length 0 false [] (by omega) (by omega) ⟨fun k v h=>(by cases h),fun _ k v h=>(by cases h),fun h=>by cases h⟩ (fun e h=>by cases h) (fun x hx=>by cases hx);have hr':zE (fun (x:Int×Bool×Bool×(List (Int×Int)))=>kV n x.1 x.2.1 x.2.2.1 x.2.2.2) (0,false,false,[])=some (false,lo):=hr;refine ⟨lo,?_,h1⟩;unfold decompose_measure;rw [hr'];rfl
end
theorem yCY {n:Norm} (hd:DS n.Decomp) (hp:n.Decomp.length≤90):decompose_measure n=some (false,false)↔(∀m∈n.Decomp,WW n.Decomp m.From)∧∀m∈n.Decomp,wt n.Decomp true m.From≤64:=by
 have hl:n.Decomp.length≤2000:=by omega
 constructor;intro h;obtain ⟨r,h1,h2⟩:=zRG hd hl hp;rw [h] at h1;injection h1 with h1;subst h1;have H:=h2 rfl;obtain ⟨lo,h3,h4⟩:=zUD hd hl H hp;rw [h] at h3;injection h3 with h3;injection h3 with _ h3;exact ⟨H,h4.1 h3.symm⟩
 rintro ⟨H,h⟩
 obtain ⟨lo,h3,h4⟩:=zUD hd hl H hp;rw [h3,h4.2 h]
theorem yJ7 {l:List Mapping} (hd:DS l) (H:∀m∈l,WW l m.From) (h:∀m∈l,wt l true m.From≤64) (c:Int):wt l true c≤64:=by
 cases hf:l.find? (isF c) with
 | some m=>obtain ⟨h1,rfl⟩:=zGT hf;exact h m h1
 | none=>
  rw [zW0 (zUB hd H) c,zIX hf];have:=zOD c;simp only [];omega
end Go.M
namespace Go.M
open Go.AV
set_option linter.unusedSimpArgs false
set_option linter.unusedVariables false
def sg (a b:Int):Int:=if a < b then -1 else if b < a then 1 else 0
theorem z6K (a b:Int):decide (sg a b < 0)=decide (a < b):=by unfold sg;by_cases h:a < b;simp [h];by_cases h2:b < a <;> simp [h,h2]
theorem z6L {α:Type} [Inhabited α] {l m:List α} {k:Nat} (h:k < l.length):nth (l++m) k=nth l k:=by simp [nth,List.getElem?_append_left h]
theorem z6M {α:Type} [Inhabited α] {l m:List α} {k j:Nat} (h:k=l.length+j):nth (l++m) k=nth m j:=by subst h;simp [nth,List.getElem?_append_right]
theorem wn {n:Int} (h1:0≤n) (h2:n≤1000000):wi n=n:=xS (by omega) (by omega)
theorem yIG:∀(U V p W s:List Int) (k:Nat) (N A B:Int),U.length=V.length→N=((k+U.length:Nat):Int)→A+k=(p.length:Int)→B+k=((p.length+U.length+W.length:Nat):Int)→0≤A→0≤B→p.length+U.length+W.length+V.length≤2000→k≤2000→
    zE (fun (x:Int×(List Int))=>yW N B A x.1 x.2) ((k:Int),p++U++W++V++s)=some (p++V++W++U++s)
  | [],[],p,W,s,k,N,A,B,_,hN,_,_,_,_,_,_=>by
    refine zL ?_;show yW N B A (k:Int) _=_;simp only [yW,hN,kO (k:=k) (n:=k+0) (by omega),List.length_nil,cond_false]
  | u::U,v::V,p,W,s,k,N,A,B,hl,hN,hA,hB,hA0,hB0,hs,hk=>by
    have hU:U.length=V.length:=by simpa using hl
    simp only [List.length_cons] at hN hB hs;have ih:=yIG U V (p++ [v]) (W++ [u]) s (k+1) N A B hU (by rw [hN];omega) (by simp;omega) (by simp;omega) hA0 hB0 (by simp;omega) (by omega)
    have e1:p++u::U++W++v::V++s=(p++u::U++W)++v::(V++s):=by simp
    have e2:p++u::U++W++v::V++s=p++u::(U++W++v::V++s):=by simp
    have i1:z7 (p++u::U++W++v::V++s) (wi (B+k))=some v:=by
      rw [wn (by omega) (by omega),hB,e1];exact wT (by simp;omega)
    have i2:z7 (p++u::U++W++v::V++s) (wi (A+k))=some u:=by
      rw [wn (by omega) (by omega),hA,e2];exact wT rfl
    have s1:u7 (p++u::U++W++v::V++s) (wi (A+k)) v=some (p++v::(U++W++v::V++s)):=by
      rw [wn (by omega) (by omega),hA,e2];exact uZ rfl
    have e3:p++v::(U++W++v::V++s)=(p++v::U++W)++v::(V++s):=by simp
    have i3:z7 (p++v::(U++W++v::V++s)) (wi (B+k))=some v:=by
      rw [wn (by omega) (by omega),hB,e3];exact wT (by simp;omega)
    have s2:u7 (p++v::(U++W++v::V++s)) (wi (B+k)) u=some ((p++v::U++W)++u::(V++s)):=by
      rw [wn (by omega) (by omega),hB,e3];exact uZ (by simp;omega)
    rw [zR (x':=(((k+1:Nat):Int),(p++ [v])++U++(W++ [u])++V++s))]
    · rw [ih];simp
    · show yW N B A (k:Int) _=_
      simp only [yW,hN,yV (k:=k) (n:=k+(U.length+1)) (by omega),cond_true,i1,i2,s1,i3,s2,zA,zO (k:=k) (by omega)];simp
theorem zYX {U V p W s:List Int} {N A B:Int} {f:Int→Int→Option Int} (hl:U.length=V.length) (hN:N=(U.length:Int)) (hA:A=(p.length:Int)) (hB:B=((p.length+U.length+W.length:Nat):Int)) (hs:p.length+U.length+W.length+V.length≤2000):
  kQ (p++U++W++V++s) A B N f=some (p++V++W++U++s):=by
 unfold kQ;have:=yIG U V p W s 0 N A B hl (by rw [hN];simp) (by rw [hA];simp) (by rw [hB];simp) (by omega) (by omega) hs (by omega)
 rw [show ((0:Nat):Int)=0 from rfl] at this;rw [this];rfl
theorem yJ8 {f:Int→Int→Option Int} (M:Nat):∀(n:Nat) (P U V S:List Int),U.length+V.length≤n→(P++U).length=M→0 < U.length→0 < V.length→P.length+U.length+V.length≤2000→
    ∃(i:Nat) (d:List Int),zE (fun (x:Int×Int×(List Int))=>yN (M:Int) f x.1 x.2.1 x.2.2) ((U.length:Int),(V.length:Int),P++U++V++S)=some ((i:Int),d)∧i≤M∧
      kQ d (wi ((M:Int) - (i:Int))) (M:Int) (i:Int) f=some (P++V++U++S)
  | 0,P,U,V,S,hn,hM,hU,hV,hs=>by omega
  | n+1,P,U,V,S,hn,hM,hU,hV,hs=>by
    simp only [List.length_append] at hM;by_cases e:U.length=V.length
    · refine ⟨U.length,P++U++V++S,zL ?_,by omega,?_⟩
      · show yN (M:Int) f (U.length:Int) (V.length:Int) _=_
        simp only [yN,e,decide_true,Bool.not_true,cond_false]
      · rw [wn (by omega) (by omega)]
        have:=zYX (U:=U) (V:=V) (p:=P) (W:=[]) (s:=S) (N:=U.length) (A:=(M:Int) - (U.length:Int)) (B:=(M:Int)) (f:=f) e rfl (by omega) (by simp;omega) (by simp;omega)
        simpa using this
    · by_cases hlt:V.length < U.length
      · have ih:=yJ8 (f:=f) M n (P++V) (U.drop V.length) (U.take V.length) S (by simp;omega) (by simp;omega) (by simp;omega) (by simp;omega) (by simp;omega)
        obtain ⟨i,d,h1,h2,h3⟩:=ih;refine ⟨i,d,?_,h2,?_⟩
        · rw [zR (x':=(((U.drop V.length).length:Int),((U.take V.length).length:Int),(P++V)++U.drop V.length++U.take V.length++S))]
          · exact h1
          · show yN (M:Int) f (U.length:Int) (V.length:Int) _=_
            have hsw:=zYX (U:=U.take V.length) (V:=V) (p:=P) (W:=U.drop V.length) (s:=S) (N:=V.length) (A:=(M:Int) - (U.length:Int)) (B:=(M:Int)) (f:=f) (by simp;omega) (by simp;omega) (by omega) (by simp;omega) (by simp;omega)
            rw [show P++U.take V.length++U.drop V.length++V++S=P++U++V++S by rw [List.append_assoc P,List.take_append_drop]] at hsw;have e1:(!decide ((U.length:Int)=(V.length:Int)))=true:=by simp;omega
            simp only [yN,e1,cond_true,yV hlt,wn (n:=(M:Int) - (U.length:Int)) (by omega) (by omega),wn (n:=(U.length:Int) - (V.length:Int)) (by omega) (by omega),hsw,zA];simp only [List.length_drop,List.length_take];rw [show ((U.length - V.length:Nat):Int)=(U.length:Int) - (V.length:Int) by omega,show ((min V.length U.length:Nat):Int)=(V.length:Int) by omega]
        · rw [h3,List.append_assoc (P++V),List.take_append_drop]
      · have hlt:U.length < V.length:=by omega
        have ih:=yJ8 (f:=f) M n P (V.drop (V.length - U.length)) (V.take (V.length - U.length)) (U++S) (by simp;omega) (by simp;omega) (by simp;omega) (by simp;omega) (by simp;omega)
        obtain ⟨i,d,h1,h2,h3⟩:=ih;refine ⟨i,d,?_,h2,?_⟩
        · rw [zR (x':=(((V.drop (V.length - U.length)).length:Int),((V.take (V.length - U.length)).length:Int),P++V.drop (V.length - U.length)++V.take (V.length - U.length)++(U++S)))]
          · exact h1
          · show yN (M:Int) f (U.length:Int) (V.length:Int) _=_
            have hsw:=zYX (U:=U) (V:=V.drop (V.length - U.length)) (p:=P) (W:=V.take (V.length - U.length)) (s:=S) (N:=U.length) (A:=(M:Int) - (U.length:Int)) (B:=(M:Int)+(V.length:Int) - (U.length:Int)) (f:=f) (by simp;omega) rfl (by omega) (by simp;omega) (by simp;omega)
            rw [show P++U++V.take (V.length - U.length)++V.drop (V.length - U.length)++S=P++U++V++S by rw [List.append_assoc (P++U),List.take_append_drop]] at hsw;have e1:(!decide ((U.length:Int)=(V.length:Int)))=true:=by simp;omega
            simp only [yN,e1,cond_true,kO (k:=V.length) (n:=U.length) (by omega),cond_false,wn (n:=(M:Int) - (U.length:Int)) (by omega) (by omega),wn (n:=(M:Int)+(V.length:Int)) (by omega) (by omega),wn (n:=(M:Int)+(V.length:Int) - (U.length:Int)) (by omega) (by omega),wn (n:=(V.length:Int) - (U.length:Int)) (by omega) (by omega),hsw,zA];simp only [List.length_drop,List.length_take,List.append_assoc];rw [show ((V.length - (V.length - U.length):Nat):Int)=(U.length:Int) by omega,show ((min (V.length - U.length) V.length:Nat):Int)=(V.length:Int) - (U.length:Int) by omega]
        · rw [h3]
          rw [show P++V.take (V.length - U.length)++V.drop (V.length - U.length)++(U++S)=P++(V.take (V.length - U.length)++V.drop (V.length - U.length))++U++S by simp,List.take_append_drop]
theorem yJ9 {f:Int→Int→Option Int} {P U V S:List Int} {a m b:Int} (ha:a=(P.length:Int)) (hm:m=((P++U).length:Nat)) (hb:b=((P++U++V).length:Nat)) (hU:0 < U.length) (hV:0 < V.length) (hs:P.length+U.length+V.length≤2000):
  jZ (P++U++V++S) a m b f=some (P++V++U++S):=by
 obtain ⟨i,d,h1,h2,h3⟩:=yJ8 (f:=f) (P++U).length (U.length+V.length) P U V S (Nat.le_refl _) rfl hU hV hs;unfold jZ;have e1:wi (m - a)=(U.length:Int):=by rw [wn (by simp at hm;omega) (by simp at hm;omega)];simp at hm;omega
 have e2:wi (b - m)=(V.length:Int):=by rw [wn (by simp at hm hb;omega) (by simp at hm hb;omega)];simp at hm hb;omega
 rw [e1,e2,hm,h1,zA,h3];rfl
end Go.M
namespace Go.M
open Go.AV
set_option linter.unusedSimpArgs false
set_option linter.unusedVariables false
section
variable (key:Int→Int)
def Srt (l:List Int):Prop:=l.Pairwise fun x y=>key x≤key y
def Flt (a b:List Int):Prop:=a.Perm b∧∀k,a.filter (fun x=>decide (key x=k))=b.filter (fun x=>decide (key x=k))
end
section
variable {key:Int→Int}
theorem Flt.refl (a:List Int):Flt key a a:=⟨.refl _,fun _=>rfl⟩
theorem Flt.trans {a b c:List Int} (h:Flt key a b) (k:Flt key b c):Flt key a c:=⟨h.1.trans k.1,fun q=>(h.2 q).trans (k.2 q)⟩
theorem Flt.symm {a b:List Int} (h:Flt key a b):Flt key b a:=⟨h.1.symm,fun q=>(h.2 q).symm⟩
theorem Flt.app {a b c d:List Int} (h:Flt key a b) (k:Flt key c d):Flt key (a++c) (b++d):=⟨h.1.append k.1,fun q=>by rw [List.filter_append,List.filter_append,h.2 q,k.2 q]⟩
theorem Flt.swap {a b:List Int} (h:∀x∈a,∀y∈b,key x≠key y):Flt key (a++b) (b++a):=⟨List.perm_append_comm,fun q=>by
  rw [List.filter_append,List.filter_append];by_cases hq:∃x∈a,key x=q
  · obtain ⟨x,hx,e⟩:=hq
    have:b.filter (fun x=>decide (key x=q))= []:=by
      rw [List.filter_eq_nil_iff];intro y hy he;exact h x hx y hy (by rw [e];simpa using Eq.symm (by simpa using he))
    rw [this];simp
  · have:a.filter (fun x=>decide (key x=q))= []:=by
      rw [List.filter_eq_nil_iff];intro y hy he;exact hq ⟨y,hy,by simpa using he⟩
    rw [this];simp⟩
theorem Flt.mem {a b:List Int} (h:Flt key a b) {x:Int}:x∈a↔x∈b:=h.1.mem_iff
theorem Flt.len {a b:List Int} (h:Flt key a b):a.length=b.length:=h.1.length_eq
theorem zH5 {a b:List Int}:Srt key (a++b)↔Srt key a∧Srt key b∧∀x∈a,∀y∈b,key x≤key y:=List.pairwise_append
theorem zJQ {l:List Int} (h:Srt key l) {i j:Nat} (hij:i≤j) (hj:j < l.length):key (nth l i)≤key (nth l j):=by rcases Nat.lt_or_eq_of_le hij with h1 | rfl;rw [zCN hj,zCN (by omega:i < l.length)];exact List.pairwise_iff_getElem.1 h i j _ _ h1;exact Int.le_refl _
theorem z2D:∀{a b:List Int},Srt key a→Srt key b→Flt key a b→a=b
 | [],b,_,_,h=>by have:=h.len;exact (List.eq_nil_of_length_eq_zero (by simpa using this.symm)).symm
 | x::a,[],_,_,h=>by have:=h.len;simp at this
 | x::a,y::b,ha,hb,h=>by
  have hxy:key x=key y:=by
   have h1:x∈y::b:=h.mem.1 (by simp);have h2:y∈x::a:=h.mem.2 (by simp);have l1:key y≤key x:=by
    rcases List.mem_cons.1 h1 with e | e;rw [e];exact Int.le_refl _;exact List.rel_of_pairwise_cons hb e
   have l2:key x≤key y:=by
    rcases List.mem_cons.1 h2 with e | e;rw [e];exact Int.le_refl _;exact List.rel_of_pairwise_cons ha e
   omega
  have hf:=h.2 (key x);rw [List.filter_cons_of_pos (by simp),List.filter_cons_of_pos (by simp [hxy])] at hf;have hx:x=y:=(List.cons.inj hf).1;subst hx;have hr:Flt key a b:=⟨h.1.cons_inv,fun k=>by
   have:=h.2 k;by_cases e:key x=k;rw [List.filter_cons_of_pos (by simpa using e),List.filter_cons_of_pos (by simpa using e)] at this;exact (List.cons.inj this).2;rw [List.filter_cons_of_neg (by simpa using e),List.filter_cons_of_neg (by simpa using e)] at this;exact this⟩
  rw [z2D (List.Pairwise.of_cons ha) (List.Pairwise.of_cons hb) hr]
theorem yCZ {k:Nat} (h:k+1≤1000000):wi (((k+1:Nat):Int) - 1)=(k:Int):=by rw [wn (by omega) (by omega)];omega
theorem z2E (lt:Int→Int→Bool):∀(r:List Int) (x:Int) (s:List Int) (y:Int),y∈vU lt r x s→y∈r∨y=x∨y∈s
 | [],x,s,y,h=>by
  rcases List.mem_cons.1 h with h | h;exact .inr (.inl h);exact .inr (.inr h)
 | z::r,x,s,y,h=>by
  unfold vU at h;split at h;rcases z2E lt r x (z::s) y h with h | h | h
  exact .inl (List.mem_cons_of_mem _ h);exact .inr (.inl h);rcases List.mem_cons.1 h with h | h
  exact .inl (by rw [h];exact List.mem_cons_self)
  exact .inr (.inr h);rcases List.mem_append.1 h with h | h
  exact .inl (List.mem_reverse.1 h);rcases List.mem_cons.1 h with h | h
  exact .inr (.inl h);exact .inr (.inr h)
section
variable {Q:Int→Prop} {lt:Int→Int→Bool} {g:Int→Int→Option Int} (hq:∀x y,Q x→Q y→∃c,g x y=some c∧decide (c < 0)=lt x y)
include hq
theorem yIH (p t:List Int):∀(r:List Int) (x:Int) (s:List Int),Q x→(∀y∈r,Q y)→p.length+r.length≤2000→zE (fun (q:Int×List Int)=>z6 (p.length:Int) g q.1 q.2) (((p.length+r.length:Nat):Int),p++(r.reverse++x::s)++t)=some (p++vU lt r x s++t)
 | [],x,s,_,_,_=>by
  refine zL ?_;show z6 (p.length:Int) g _ _=_;simp only [z6,List.length_nil,kO (k:=p.length) (n:=p.length+0) (by omega),zQ,vB,zA,Bool.false_and,cond_false];rfl
 | y::r,x,s,hx,hr,h=>by
  simp only [List.length_cons] at h;have e1:p++((y::r).reverse++x::s)++t=(p++r.reverse++ [y])++x::(s++t):=by simp
  have e2:p++((y::r).reverse++x::s)++t=(p++r.reverse)++y::(x::s++t):=by simp
  have hk:((p.length+(y::r).length:Nat):Int)=((p.length+r.length+1:Nat):Int):=by simp;omega
  have i1:z7 (p++((y::r).reverse++x::s)++t) ((p.length+r.length+1:Nat):Int)=some x:=by rw [e1];exact wT (by simp;omega)
  have i2:z7 (p++((y::r).reverse++x::s)++t) ((p.length+r.length:Nat):Int)=some y:=by rw [e2];exact wT (by simp)
  have s1:u7 (p++((y::r).reverse++x::s)++t) ((p.length+r.length+1:Nat):Int) y=some ((p++r.reverse++ [y])++y::(s++t)):=by rw [e1];exact uZ (by simp;omega)
  have e3:(p++r.reverse++ [y])++y::(s++t)=(p++r.reverse)++y::(y::s++t):=by simp
  have i3:z7 ((p++r.reverse++ [y])++y::(s++t)) ((p.length+r.length:Nat):Int)=some y:=by rw [e3];exact wT (by simp)
  have s2:u7 ((p++r.reverse++ [y])++y::(s++t)) ((p.length+r.length:Nat):Int) x=some ((p++r.reverse)++x::(y::s++t)):=by rw [e3];exact uZ (by simp)
  have hb:decide ((p.length:Int) < ((p.length+r.length+1:Nat):Int))=true:=yV (by omega);obtain ⟨c,hc0,hc1⟩:=hq x y hx (hr y (by simp));cases hc:lt x y with
  | true=>
   rw [hc] at hc1;rw [hk,zR (x':=(((p.length+r.length:Nat):Int),p++(r.reverse++x::(y::s))++t)),yIH p t r x (y::s) hx (fun z hz=>hr z (by simp [hz])) (by omega)];simp [vU,hc];show z6 (p.length:Int) g _ _=_;simp only [z6,hb,zQ,xC,yCZ (k:=p.length+r.length) (by omega),i1,i2,zA,hc0,hc1,Bool.and_self,cond_true,s1,i3,s2];simp
  | false=>
   rw [hc] at hc1;rw [hk];refine zL ?_;show z6 (p.length:Int) g _ _=_;simp only [z6,hb,zQ,xC,yCZ (k:=p.length+r.length) (by omega),i1,i2,zA,hc0,hc1,Bool.and_false,cond_false];simp [vU,hc]
theorem yII (p t:List Int):∀(l q:List Int),(∀y∈l,Q y)→(∀y∈q,Q y)→1≤q.length→p.length+q.length+l.length≤2000→zE (fun (x:Int×List Int)=>z1 ((p.length+q.length+l.length:Nat):Int) (p.length:Int) g x.1 x.2) (((p.length+q.length:Nat):Int),p++(q++l)++t)=some (p++wJ lt l q++t)
 | [],q,_,_,_,_=>by
  refine zL ?_;show z1 _ (p.length:Int) g _ _=_;simp only [z1,List.length_nil,kO (k:=p.length+q.length) (n:=p.length+q.length+0) (by omega),cond_false];simp [wJ]
 | x::l,q,hl,hqq,hq1,h=>by
  simp only [List.length_cons] at h;have hi:=yIH hq p (l++t) q.reverse x [] (hl x (by simp)) (fun y hy=>hqq y (by simpa using hy)) (by simp;omega)
  rw [List.length_reverse,List.reverse_reverse] at hi;have e1:p++(q++x::l)++t=p++(q++ [x])++(l++t):=by simp
  have hlen:=zT6 lt q.reverse x [];simp only [List.length_reverse,List.length_nil] at hlen;have hqn:∀y∈vU lt q.reverse x [],Q y:=fun y hy=>by
   rcases z2E lt q.reverse x [] y hy with h | h | h;exact hqq y (by simpa using h);rw [h];exact hl x (by simp);cases h
  have ih:=yII p t l (vU lt q.reverse x []) (fun y hy=>hl y (by simp [hy])) hqn (by omega) (by omega);rw [zR (x':=(((p.length+(vU lt q.reverse x []).length:Nat):Int),p++(vU lt q.reverse x []++l)++t))];have e2:((p.length+q.length+(x::l).length:Nat):Int)=((p.length+(vU lt q.reverse x []).length+l.length:Nat):Int):=by simp;omega
  rw [e2,ih];rfl;show z1 _ (p.length:Int) g _ _=_;simp only [z1,List.length_cons,yV (k:=p.length+q.length) (n:=p.length+q.length+(l.length+1)) (by omega),cond_true,e1,hi,zA,zO (k:=p.length+q.length) (by omega),hlen];simp only [List.append_assoc];rw [show p.length+q.length+1=p.length+(q.length+1+0) by omega]
theorem yIJ {p m t:List Int} {a b:Int} (ha:a=(p.length:Int)) (hb:b=((p.length+m.length:Nat):Int)) (hm:∀y∈m,Q y) (h:p.length+m.length≤2000):kM (p++m++t) a b g=some (p++wJ lt m []++t):=by
 unfold kM;have hw:wi (a+1)=((p.length+1:Nat):Int):=by rw [wn (by omega) (by omega)];omega
 rw [hw];cases m with
 | nil=>
  have:zE (fun (x:Int×List Int)=>z1 b a g x.1 x.2) (((p.length+1:Nat):Int),p++ []++t)=some (p++ []++t):=zL (by
   show z1 b a g _ _=_;simp only [z1,hb,List.length_nil,kO (k:=p.length+1) (n:=p.length+0) (by omega),cond_false])
  rw [this];rfl
 | cons x m=>
  have:=yII hq p t m [x] (fun y hy=>hm y (by simp [hy])) (fun y hy=>by rw [List.mem_singleton.1 hy];exact hm x (by simp)) (by simp) (by simp at h ⊢;omega)
  rw [ha,hb];have e:p.length+ [x].length+m.length=p.length+(x::m).length:=by simp;omega
  rw [e] at this;simp only [List.length_singleton,List.singleton_append] at this;rw [this];rfl
end
variable {f:Int→Int→Option Int} (hf:∀x y,f x y=some (sg (key x) (key y)))
include hf
theorem yMB {p m t:List Int} {a b:Int} (ha:a=(p.length:Int)) (hb:b=((p.length+m.length:Nat):Int)) (h:p.length+m.length≤2000):kM (p++m++t) a b f=some (p++wJ (fun a b=>decide (key a < key b)) m []++t):=
 yIJ (Q:=fun _=>True) (fun x y _ _=>⟨_,hf x y,by simp only [z6K]⟩) ha hb (fun _ _=>trivial) h
omit hf in
theorem z2F:∀(r:List Int) (x:Int) (s:List Int),(∀y∈s,key x < key y)→Flt key (r.reverse++x::s) (vU (fun a b=>decide (key a < key b)) r x s)
 | [],x,s,_=>Flt.refl _
 | y::r,x,s,hs=>by
  unfold vU;by_cases hc:key x < key y
  ·
   simp only [hc,decide_true,if_true];refine Flt.trans ?_ (z2F r x (y::s) (fun z hz=>by
    rcases List.mem_cons.1 hz with e | e
    · rw [e];exact hc
    · exact hs z e))
   have:Flt key ([y]++ [x]) ([x]++ [y]):=Flt.swap (by simp;omega)
   have h2:=(Flt.refl (key:=key) r.reverse).app (this.app (Flt.refl s));simpa using h2
  ·
   simp only [hc,decide_false,Bool.false_eq_true,if_false];exact Flt.refl _
omit hf in
theorem zND:∀(l q:List Int),Flt key (q++l) (wJ (fun a b=>decide (key a < key b)) l q)
 | [],q=>by simp [wJ];exact Flt.refl _
 | x::l,q=>by
  have h1:=z2F (key:=key) q.reverse x [] (by simp);rw [List.reverse_reverse] at h1;have h2:=(h1.app (Flt.refl l)).trans (zND l (vU (fun a b=>decide (key a < key b)) q.reverse x []));simpa [wJ] using h2
omit hf in
theorem zQP (l:List Int):Srt key (wJ (fun a b=>decide (key a < key b)) l []):=by
 have:=zK7 (fun a b=>decide (key a < key b)) (fun a b c h1 h2=>by simp at *;omega) (fun a b h1=>by simp at *;omega) l [] .nil
 exact this.imp fun {a b} h=>by
  have h:decide (key b < key a)=false:=h;simp at h;exact h
end
end Go.M
namespace Go.M
open Go.AV
set_option linter.unusedSimpArgs false
set_option linter.unusedVariables false
theorem z42 {body:Int×Int→Option (Stp (Int×Int) Int)} (q:Nat→Bool) (A B:Nat)
    (hend:∀k:Nat,A≤k→k≤B→body ((k:Int),(k:Int))=some (.done (k:Int)))
    (hstep:∀lo hi:Nat,A≤lo→lo < hi→hi≤B→body ((lo:Int),(hi:Int))=some (.next (if q ((lo+hi) / 2) then ((lo:Int),(((lo+hi) / 2:Nat):Int)) else ((((lo+hi) / 2+1:Nat):Int),(hi:Int)))))
    (hm:∀i j,A≤i→i≤j→j < B→q i=true→q j=true):
    ∀(n lo hi:Nat),hi - lo≤n→A≤lo→lo≤hi→hi≤B→∃j:Nat,lo≤j∧j≤hi∧zE body ((lo:Int),(hi:Int))=some (j:Int)∧(∀i,lo≤i→i < j→q i=false)∧(∀i,j≤i→i < hi→q i=true):=by
  intro n
  induction n with
  | zero=>
    intro lo hi h1 h2 h3 h4;have:hi=lo:=by omega
    subst this;exact ⟨hi,by omega,by omega,zL (hend hi h2 h4),fun i a b=>by omega,fun i a b=>by omega⟩
  | succ n ih=>
    intro lo hi h1 h2 h3 h4;by_cases e:lo=hi
    · subst e
      exact ⟨lo,by omega,by omega,zL (hend lo h2 h4),fun i a b=>by omega,fun i a b=>by omega⟩
    · have hs:=hstep lo hi h2 (by omega) h4
      cases hq:q ((lo+hi) / 2) with
      | true=>
        rw [hq,if_pos rfl] at hs;obtain ⟨j,j1,j2,j3,j4,j5⟩:=ih lo ((lo+hi) / 2) (by omega) h2 (by omega) (by omega);refine ⟨j,j1,by omega,by rw [zR hs];exact j3,j4,fun i a b=>?_⟩
        by_cases hi':i < (lo+hi) / 2
        · exact j5 i a hi'
        · exact hm ((lo+hi) / 2) i (by omega) (by omega) (by omega) hq
      | false=>
        rw [hq,if_neg (by simp)] at hs;obtain ⟨j,j1,j2,j3,j4,j5⟩:=ih ((lo+hi) / 2+1) hi (by omega) (by omega) (by omega) h4;refine ⟨j,by omega,j2,by rw [zR hs];exact j3,fun i a b=>?_,j5⟩
        by_cases hi':(lo+hi) / 2+1≤i
        · exact j4 i hi' b
        · cases hqi:q i with
          | false=>rfl
          | true=>
            have:=hm i ((lo+hi) / 2) (by omega) (by omega) (by omega) hqi;rw [hq] at this;cases this
theorem yMC (t:List Int) (x:Int):∀(U p:List Int) (Y:Int),Y=((p.length+U.length+1:Nat):Int)→p.length+U.length≤2000→zE (fun (q:Int×(List Int))=>kA Y q.1 q.2) ((p.length:Int),p++x::U++t)=some (p++U++x::t)
 | [],p,Y,hY,h=>by
  refine zL ?_;show kA Y _ _=_;have:wi (Y - 1)=((p.length+0:Nat):Int):=by rw [wn (by rw [hY];simp) (by rw [hY];simp;simp at h;omega),hY];simp
  simp only [kA,this,kO (k:=p.length) (n:=p.length+0) (by omega),cond_false];simp
 | y::U,p,Y,hY,h=>by
  simp only [List.length_cons] at hY h;have hw:wi (Y - 1)=((p.length+(U.length+1):Nat):Int):=by rw [wn (by rw [hY];omega) (by rw [hY];omega),hY];omega
  have e1:p++x::y::U++t=p++x::(y::U++t):=by simp
  have e2:p++x::y::U++t=(p++ [x])++y::(U++t):=by simp
  have hk:wi ((p.length:Int)+1)=((p.length+1:Nat):Int):=zO (by omega);have i1:z7 (p++x::y::U++t) ((p.length+1:Nat):Int)=some y:=by rw [e2];exact wT (by simp)
  have i2:z7 (p++x::y::U++t) (p.length:Int)=some x:=by rw [e1];exact wT rfl
  have s1:u7 (p++x::y::U++t) (p.length:Int) y=some ((p++ [y])++y::(U++t)):=by rw [e1,uZ rfl];simp
  have i3:z7 ((p++ [y])++y::(U++t)) ((p.length+1:Nat):Int)=some y:=wT (by simp);have s2:u7 ((p++ [y])++y::(U++t)) ((p.length+1:Nat):Int) x=some ((p++ [y])++x::(U++t)):=uZ (by simp);rw [zR (x':=(((p++ [y]).length:Int),(p++ [y])++x::U++t)),yMC t x U (p++ [y]) Y (by rw [hY];simp;omega) (by simp;omega)]
  simp;show kA Y _ _=_;simp only [kA,hw,yV (k:=p.length) (n:=p.length+(U.length+1)) (by omega),cond_true,hk,i1,i2,s1,i3,s2,zA];simp
theorem yMD (t p:List Int) (y:Int):∀(r:List Int),p.length+r.length≤2000→∀t,zE (fun (q:Int×(List Int))=>kC (p.length:Int) q.1 q.2) (((p.length+r.length:Nat):Int),p++r.reverse++y::t)=some (p++y::r.reverse++t)
 | [],h,t=>by
  refine zL ?_;show kC _ _ _=_;simp only [kC,List.length_nil,kO (k:=p.length) (n:=p.length+0) (by omega),cond_false];simp
 | x::r,h,t=>by
  simp only [List.length_cons] at h;have hk:((p.length+(x::r).length:Nat):Int)=((p.length+r.length+1:Nat):Int):=by simp;omega
  have e1:p++(x::r).reverse++y::t=(p++r.reverse++ [x])++y::t:=by simp
  have e2:p++(x::r).reverse++y::t=(p++r.reverse)++x::(y::t):=by simp
  have i1:z7 (p++(x::r).reverse++y::t) ((p.length+r.length:Nat):Int)=some x:=by rw [e2];exact wT (by simp)
  have i2:z7 (p++(x::r).reverse++y::t) ((p.length+r.length+1:Nat):Int)=some y:=by rw [e1];exact wT (by simp;omega)
  have s1:u7 (p++(x::r).reverse++y::t) ((p.length+r.length+1:Nat):Int) x=some ((p++r.reverse++ [x])++x::t):=by rw [e1];exact uZ (by simp;omega)
  have e3:(p++r.reverse++ [x])++x::t=(p++r.reverse)++x::(x::t):=by simp
  have i3:z7 ((p++r.reverse++ [x])++x::t) ((p.length+r.length:Nat):Int)=some x:=by rw [e3];exact wT (by simp)
  have s2:u7 ((p++r.reverse++ [x])++x::t) ((p.length+r.length:Nat):Int) y=some ((p++r.reverse)++y::(x::t)):=by rw [e3];exact uZ (by simp)
  rw [hk,zR (x':=(((p.length+r.length:Nat):Int),p++r.reverse++y::(x::t))),yMD t p y r (by omega) (x::t)];simp;show kC _ _ _=_;simp only [kC,yV (k:=p.length) (n:=p.length+r.length+1) (by omega),cond_true,yCZ (k:=p.length+r.length) (by omega),i1,i2,s1,i3,s2,zA]
theorem zFS {l:List Int} {x:Int} {n:Nat} (h:x∈l.take n):∃i,i < n∧i < l.length∧nth l i=x:=by obtain ⟨i,hi,e⟩:=List.getElem_of_mem h;simp at hi;refine ⟨i,by omega,by omega,?_⟩;rw [zCN (by omega)];simpa using e
theorem zH6 {l:List Int} {x:Int} {n:Nat} (h:x∈l.drop n):∃i,n≤i∧i < l.length∧nth l i=x:=by obtain ⟨i,hi,e⟩:=List.getElem_of_mem h;simp at hi;refine ⟨n+i,by omega,by omega,?_⟩;rw [zCN (by omega)];simpa using e
section
variable {key:Int→Int} {f:Int→Int→Option Int} (hf:∀x y,f x y=some (sg (key x) (key y)))
include hf
theorem yN9 {rec:List Int→Int→Int→Int→(Int→Int→Option Int)→Option (List Int)} {p R s:List Int} {x:Int} {a m b:Int} (hR:Srt key R) (ha:a=(p.length:Int)) (hm:m=((p.length+1:Nat):Int)) (hb:b=((p.length+1+R.length:Nat):Int)) (h:p.length+1+R.length≤2000):
    ∃M,yK rec (p++ [x]++R++s) a m b f=some (p++M++s)∧Srt key M∧Flt key ([x]++R) M:=by
  have hd:∀i,i < R.length→z7 (p++ [x]++R++s) ((p.length+1+i:Nat):Int)=some (nth R i):=fun i hi=>by
    rw [z5 (by simp;omega),List.append_assoc (p++ [x]),z6M (j:=i) (by simp),z6L hi]
  have hx:z7 (p++ [x]++R++s) (p.length:Int)=some x:=by
    rw [show p++ [x]++R++s=p++x::(R++s) by simp];exact wT rfl
  obtain ⟨j,j1,j2,j3,j4,j5⟩:=z42 (body:=fun (q:Int×Int)=>yZ (p++ [x]++R++s) a f q.1 q.2) (fun k=>!decide (key (nth R (k - (p.length+1))) < key x)) (p.length+1) (p.length+1+R.length)
    (fun k _ _=>by
      show yZ _ a f _ _=_;simp only [yZ,kO (Nat.le_refl _),cond_false])
    (fun lo hi h1 h2 h3=>by
      show yZ _ a f _ _=_;have e:(lo+hi) / 2=p.length+1+((lo+hi) / 2 - (p.length+1)):=by omega
      have hi':z7 (p++ [x]++R++s) (((lo+hi) / 2:Nat):Int)=some (nth R ((lo+hi) / 2 - (p.length+1))):=by
        have:=hd ((lo+hi) / 2 - (p.length+1)) (by omega);rw [←e] at this;exact this
      simp only [yZ,yV h2,cond_true,zMU (lo:=lo) (hi:=hi) (by omega),hi',ha,hx,zA,hf,z6K];by_cases hc:key (nth R ((lo+hi) / 2 - (p.length+1))) < key x
      · simp only [hc,decide_true,cond_true,zA,Bool.not_true,Bool.false_eq_true,if_false,zO (k:=(lo+hi) / 2) (by omega)]
      · simp only [hc,decide_false,cond_false,zA,Bool.not_false,if_true])
    (fun i k h1 h2 h3 hq=>by
      simp only [Bool.not_eq_true',decide_eq_false_iff_not] at hq ⊢;have:=zJQ hR (i:=i - (p.length+1)) (j:=k - (p.length+1)) (by omega) (by omega);omega) (R.length) (p.length+1) (p.length+1+R.length) (by omega) (by omega) (by omega) (by omega)
  refine ⟨R.take (j - (p.length+1))++ [x]++R.drop (j - (p.length+1)),?_,?_,?_⟩
  · unfold yK
    have e1:decide (wi (m - a)=1)=true:=by rw [wn (by omega) (by omega)];simp;omega
    rw [e1,cond_true,hm,hb,j3,zA];have:=yMC (R.drop (j - (p.length+1))++s) x (R.take (j - (p.length+1))) p (j:Int) (by simp;omega) (by simp;omega)
    rw [ha];rw [show p++x::R.take (j - (p.length+1))++(R.drop (j - (p.length+1))++s)=p++ [x]++R++s by
      rw [←List.append_assoc,List.append_assoc p,List.cons_append,List.append_assoc p,List.cons_append,List.take_append_drop];simp] at this
    rw [this];simp
  · have hT:∀y∈R.take (j - (p.length+1)),key y < key x:=fun y hy=>by
      obtain ⟨i,i1,i2,rfl⟩:=zFS hy;have:=j4 (p.length+1+i) (by omega) (by omega);simpa using this
    have hD:∀y∈R.drop (j - (p.length+1)),key x≤key y:=fun y hy=>by
      obtain ⟨i,i1,i2,rfl⟩:=zH6 hy;have:=j5 (p.length+1+i) (by omega) (by omega);simpa using this
    have hRR:=hR;rw [←List.take_append_drop (j - (p.length+1)) R] at hRR;obtain ⟨r1,r2,r3⟩:=zH5.1 hRR;refine zH5.2 ⟨zH5.2 ⟨r1,List.pairwise_singleton _ _,fun y hy z hz=>?_⟩,r2,fun y hy z hz=>?_⟩
    · simp at hz;rw [hz];have:=hT y hy;omega
    · rcases List.mem_append.1 hy with hy | hy
      · exact r3 y hy z hz
      · simp at hy;rw [hy];exact hD z hz
  · have hT:∀y∈R.take (j - (p.length+1)),key y < key x:=fun y hy=>by
      obtain ⟨i,i1,i2,rfl⟩:=zFS hy;have:=j4 (p.length+1+i) (by omega) (by omega);simpa using this
    have h1:Flt key ([x]++R.take (j - (p.length+1))) (R.take (j - (p.length+1))++ [x]):=Flt.swap fun u hu v hv=>by
      simp at hu;rw [hu];have:=hT v hv;omega
    have h2:=h1.app (Flt.refl (R.drop (j - (p.length+1))));rw [List.append_assoc,List.take_append_drop] at h2;exact h2
theorem yOA {rec:List Int→Int→Int→Int→(Int→Int→Option Int)→Option (List Int)} {p L s:List Int} {y:Int} {a m b:Int} (hL:Srt key L) (h2:2≤L.length) (ha:a=(p.length:Int)) (hm:m=((p.length+L.length:Nat):Int)) (hb:b=((p.length+L.length+1:Nat):Int)) (h:p.length+L.length+1≤2000):
    ∃M,yK rec (p++L++ [y]++s) a m b f=some (p++M++s)∧Srt key M∧Flt key (L++ [y]) M:=by
  have hd:∀i,i < L.length→z7 (p++L++ [y]++s) ((p.length+i:Nat):Int)=some (nth L i):=fun i hi=>by
    rw [z5 (by simp;omega),List.append_assoc,List.append_assoc,z6M (j:=i) rfl,z6L hi]
  have hy:z7 (p++L++ [y]++s) ((p.length+L.length:Nat):Int)=some y:=by
    rw [show p++L++ [y]++s=(p++L)++y::s by simp];exact wT (by simp)
  obtain ⟨j,j1,j2,j3,j4,j5⟩:=z42 (body:=fun (q:Int×Int)=>kB (p++L++ [y]++s) m f q.1 q.2) (fun k=>decide (key y < key (nth L (k - p.length)))) p.length (p.length+L.length)
    (fun k _ _=>by
      show kB _ m f _ _=_;simp only [kB,kO (Nat.le_refl _),cond_false])
    (fun lo hi h1 h2 h3=>by
      show kB _ m f _ _=_;have e:(lo+hi) / 2=p.length+((lo+hi) / 2 - p.length):=by omega
      have hi':z7 (p++L++ [y]++s) (((lo+hi) / 2:Nat):Int)=some (nth L ((lo+hi) / 2 - p.length)):=by
        have:=hd ((lo+hi) / 2 - p.length) (by omega);rw [←e] at this;exact this
      simp only [kB,yV h2,cond_true,zMU (lo:=lo) (hi:=hi) (by omega),hi',hm,hy,zA,hf,z6K];by_cases hc:key y < key (nth L ((lo+hi) / 2 - p.length))
      · simp only [hc,decide_true,Bool.not_true,cond_false,zA,if_true]
      · simp only [hc,decide_false,Bool.not_false,cond_true,zA,Bool.false_eq_true,if_false,zO (k:=(lo+hi) / 2) (by omega)])
    (fun i k h1 h2 h3 hq=>by
      simp only [decide_eq_true_eq] at hq ⊢;have:=zJQ hL (i:=i - p.length) (j:=k - p.length) (by omega) (by omega);omega) L.length p.length (p.length+L.length) (by omega) (by omega) (by omega) (by omega)
  have hT:∀z∈L.take (j - p.length),key z≤key y:=fun z hz=>by
    obtain ⟨i,i1,i2,rfl⟩:=zFS hz;have:=j4 (p.length+i) (by omega) (by omega);simpa using this
  have hD:∀z∈L.drop (j - p.length),key y < key z:=fun z hz=>by
    obtain ⟨i,i1,i2,rfl⟩:=zH6 hz;have:=j5 (p.length+i) (by omega) (by omega);simpa using this
  refine ⟨L.take (j - p.length)++([y]++L.drop (j - p.length)),?_,?_,?_⟩
  · unfold yK
    have e1:decide (wi (m - a)=1)=false:=by rw [wn (by omega) (by omega)];simp;omega
    have e2:decide (wi (b - m)=1)=true:=by rw [wn (by omega) (by omega)];simp;omega
    rw [e1,cond_false,e2,cond_true,ha,hm];rw [hm] at j3;rw [j3,zA];have:=yMD s (p++L.take (j - p.length)) y (L.drop (j - p.length)).reverse (by simp;omega) s
    rw [List.reverse_reverse] at this;have e3:((p++L.take (j - p.length)).length:Int)=(j:Int):=by simp;omega
    have e4:(((p++L.take (j - p.length)).length+(L.drop (j - p.length)).reverse.length:Nat):Int)=((p.length+L.length:Nat):Int):=by simp;omega
    rw [e3,e4] at this;rw [show p++L.take (j - p.length)++L.drop (j - p.length)++y::s=p++L++ [y]++s by rw [List.append_assoc p,List.take_append_drop];simp] at this
    rw [this];simp
  · have hLL:=hL
    rw [←List.take_append_drop (j - p.length) L] at hLL;obtain ⟨r1,r2,r3⟩:=zH5.1 hLL;refine zH5.2 ⟨r1,zH5.2 ⟨List.pairwise_singleton _ _,r2,fun u hu v hv=>?_⟩,fun u hu v hv=>?_⟩
    · simp at hu;rw [hu];have:=hD v hv;omega
    · rcases List.mem_append.1 hv with hv | hv
      · simp at hv;rw [hv];exact hT u hu
      · exact r3 u hu v hv
  · have h1:Flt key (L.drop (j - p.length)++ [y]) ([y]++L.drop (j - p.length)):=Flt.swap fun u hu v hv=>by
      simp at hv;rw [hv];have:=hD u hu;omega
    have h2:=(Flt.refl (key:=key) (L.take (j - p.length))).app h1;rw [←List.append_assoc,List.take_append_drop] at h2;exact h2
end
end Go.M
namespace Go.M
open Go.AV
set_option linter.unusedSimpArgs false
set_option linter.unusedVariables false
section
variable {key:Int→Int} {f:Int→Int→Option Int} (hf:∀x y,f x y=some (sg (key x) (key y)))
include hf
theorem yOB {rec:List Int→Int→Int→Int→(Int→Int→Option Int)→Option (List Int)} {p L R s:List Int} {a m b:Int} (hL:Srt key L) (hR:Srt key R) (l2:2≤L.length) (r2:2≤R.length) (ha:a=(p.length:Int)) (hm:m=((p.length+L.length:Nat):Int)) (hb:b=((p.length+L.length+R.length:Nat):Int)) (h:p.length+L.length+R.length≤2000)
    (ih:∀(p L' R' s:List Int) (a m b:Int),2*(L'.length+R'.length)≤L.length+R.length+1→0 < L'.length→0 < R'.length→Srt key L'→Srt key R'→a=(p.length:Int)→m=((p.length+L'.length:Nat):Int)→b=((p.length+L'.length+R'.length:Nat):Int)→p.length+L'.length+R'.length≤2000→
      ∃M,rec (p++L'++R'++s) a m b f=some (p++M++s)∧Srt key M∧Flt key (L'++R') M):
    ∃M,yK rec (p++L++R++s) a m b f=some (p++M++s)∧Srt key M∧Flt key (L++R) M:=by
  obtain ⟨A,hA⟩:∃A,A=p.length:=⟨_,rfl⟩;obtain ⟨K,hK⟩:∃K,K=L.length:=⟨_,rfl⟩;obtain ⟨N,hN⟩:∃N,N=R.length:=⟨_,rfl⟩;obtain ⟨mid,hmid⟩:∃mid,mid=(A+(A+K+N)) / 2:=⟨_,rfl⟩;have hdL:∀i,i < K→z7 (p++L++R++s) ((A+i:Nat):Int)=some (nth L i):=fun i hi=>by
    rw [z5 (by simp;omega),List.append_assoc,List.append_assoc,z6M (j:=i) (by omega),z6L (by omega)]
  have hdR:∀i,i < N→z7 (p++L++R++s) ((A+K+i:Nat):Int)=some (nth R i):=fun i hi=>by
    rw [z5 (by simp;omega),List.append_assoc (p++L),z6M (j:=i) (by simp;omega),z6L (by omega)]
  obtain ⟨s0,r0,h0,hs0,hs1,hr0,hr1,hcc⟩:∃s0 r0:Nat,(cond (decide ((mid:Int) < m)) (some (wi (wi ((mid:Int)+m) - b),(mid:Int))) (some (a,m)):Option (Int×Int))=some ((s0:Int),(r0:Int))∧s0≤r0∧A≤s0∧r0≤A+K∧r0≤mid∧((s0=A∧r0=A+K∧A+K≤mid)∨(mid=s0+N∧r0=mid∧mid < A+K)):=by
    by_cases hc:mid < A+K
    · refine ⟨mid+(A+K) - (A+K+N),mid,?_,by omega,by omega,by omega,by omega,.inr ⟨by omega,rfl,by omega⟩⟩
      have:decide ((mid:Int) < m)=true:=by simp;omega
      rw [this,cond_true,wn (n:=(mid:Int)+m) (by omega) (by omega),wn (by omega) (by omega)];congr 2;omega
    · refine ⟨A,A+K,?_,by omega,by omega,by omega,by omega,.inl ⟨rfl,rfl,by omega⟩⟩
      have:decide ((mid:Int) < m)=false:=by simp;omega
      rw [this,cond_false,ha,hm,hA,hK]
  have hmidw:wi ((wu (wi (a+b))) / 2 ^ 1)=(mid:Int):=by
    rw [ha,hb,←hA,←hK,←hN,zMU (lo:=A) (hi:=A+K+N) (by omega),hmid]
  have hcR:∀c,s0≤c→c < r0→A≤c∧c - A < K∧A+K≤mid+(A+K) - 1 - c∧mid+(A+K) - 1 - c - (A+K) < N:=fun c h1 h2=>by
    rcases hcc with h3 | h3 <;> omega
  obtain ⟨j,j1,j2,j3,j4,j5⟩:=z42 (body:=fun (q:Int×Int)=>kD (p++L++R++s) a b m f q.1 q.2) (fun c=>decide (key (nth R (mid+(A+K) - 1 - c - (A+K))) < key (nth L (c - A)))) s0 r0
    (fun k _ _=>by
      show kD _ a b m f _ _=_;simp only [kD,kO (Nat.le_refl _),cond_false])
    (fun lo hi h1 h2 h3=>by
      show kD _ a b m f _ _=_;obtain ⟨c1,c2,c3,c4⟩:=hcR ((lo+hi) / 2) (by omega) (by omega);have i1:z7 (p++L++R++s) (((lo+hi) / 2:Nat):Int)=some (nth L ((lo+hi) / 2 - A)):=by
        have:=hdL ((lo+hi) / 2 - A) c2;rw [show A+((lo+hi) / 2 - A)=(lo+hi) / 2 by omega] at this;exact this
      have i2:z7 (p++L++R++s) ((mid+(A+K) - 1 - (lo+hi) / 2:Nat):Int)=some (nth R (mid+(A+K) - 1 - (lo+hi) / 2 - (A+K))):=by
        have:=hdR (mid+(A+K) - 1 - (lo+hi) / 2 - (A+K)) c4;rw [show A+K+(mid+(A+K) - 1 - (lo+hi) / 2 - (A+K))=mid+(A+K) - 1 - (lo+hi) / 2 by omega] at this;exact this
      have e1:wi (wi (wi ((mid:Int)+m) - 1) - (((lo+hi) / 2:Nat):Int))=((mid+(A+K) - 1 - (lo+hi) / 2:Nat):Int):=by
        rw [wn (n:=(mid:Int)+m) (by omega) (by omega),wn (n:=(mid:Int)+m - 1) (by omega) (by omega),wn (by omega) (by omega)];omega
      simp only [kD,yV h2,cond_true,hmidw,zMU (lo:=lo) (hi:=hi) (by omega),e1,i1,i2,zA,hf,z6K];by_cases hc:key (nth R (mid+(A+K) - 1 - (lo+hi) / 2 - (A+K))) < key (nth L ((lo+hi) / 2 - A))
      · simp only [hc,decide_true,Bool.not_true,cond_false,zA,if_true]
      · simp only [hc,decide_false,Bool.not_false,cond_true,zA,Bool.false_eq_true,if_false,zO (k:=(lo+hi) / 2) (by omega)])
    (fun i k h1 h2 h3 hq=>by
      simp only [decide_eq_true_eq] at hq ⊢;obtain ⟨c1,c2,c3,c4⟩:=hcR i h1 (by omega);obtain ⟨d1,d2,d3,d4⟩:=hcR k (by omega) h3;have q1:=zJQ hL (i:=i - A) (j:=k - A) (by omega) (by omega);have q2:=zJQ hR (i:=mid+(A+K) - 1 - k - (A+K)) (j:=mid+(A+K) - 1 - i - (A+K)) (by omega) (by omega);omega) (r0 - s0) s0 r0 (by omega) (by omega) hs0 (by omega)
  obtain ⟨L1,hL1⟩:∃x,x=L.take (j - A):=⟨_,rfl⟩;obtain ⟨L2,hL2⟩:∃x,x=L.drop (j - A):=⟨_,rfl⟩;obtain ⟨R1,hR1⟩:∃x,x=R.take (mid - j):=⟨_,rfl⟩;obtain ⟨R2,hR2⟩:∃x,x=R.drop (mid - j):=⟨_,rfl⟩;have eL:L=L1++L2:=by rw [hL1,hL2,List.take_append_drop]
  have eR:R=R1++R2:=by rw [hR1,hR2,List.take_append_drop]
  have nL1:L1.length=j - A:=by rw [hL1];simp;omega
  have nR1:R1.length=mid - j:=by rw [hR1];simp;rcases hcc with h3 | h3 <;> omega
  have nL2:L2.length=A+K - j:=by rw [hL2];simp;omega
  have nR2:R2.length=N - (mid - j):=by rw [hR2];simp;omega
  have hjm:j≤mid:=by omega
  have hRN:mid - j≤N:=by rcases hcc with h3 | h3 <;> omega
  have hlt:∀x∈R1,∀y∈L2,key x < key y:=fun x hx y hy=>by
    rw [hR1] at hx;rw [hL2] at hy;obtain ⟨i,i1,i2,rfl⟩:=zFS hx;obtain ⟨k,k1,k2,rfl⟩:=zH6 hy;have hjr:j < r0:=by rcases hcc with h4 | h4 <;> omega
    have:=j5 j (Nat.le_refl _) hjr;simp only [decide_eq_true_eq] at this;have q1:=zJQ hL (i:=j - A) (j:=k) (by omega) (by omega);have q2:=zJQ hR (i:=i) (j:=mid+(A+K) - 1 - j - (A+K)) (by omega) (by omega);omega
  have hle:∀x∈L1,∀y∈R2,key x≤key y:=fun x hx y hy=>by
    rw [hL1] at hx;rw [hR2] at hy;obtain ⟨i,i1,i2,rfl⟩:=zFS hx;obtain ⟨k,k1,k2,rfl⟩:=zH6 hy;have hjs:s0 < j:=by rcases hcc with h4 | h4 <;> omega
    have:=j4 (j - 1) (by omega) (by omega);simp only [decide_eq_false_iff_not] at this;have q1:=zJQ hL (i:=i) (j:=j - 1 - A) (by omega) (by omega);have q2:=zJQ hR (i:=mid+(A+K) - 1 - (j - 1) - (A+K)) (j:=k) (by omega) (by omega);omega
  rw [eL] at hL;rw [eR] at hR;obtain ⟨sL1,sL2,hLL⟩:=zH5.1 hL;obtain ⟨sR1,sR2,hRR⟩:=zH5.1 hR;have hend:wi (wi ((mid:Int)+m) - (j:Int))=((mid+(A+K) - j:Nat):Int):=by
    rw [wn (n:=(mid:Int)+m) (by omega) (by omega),wn (by omega) (by omega)];omega
  unfold yK;have e1:decide (wi (m - a)=1)=false:=by rw [wn (by omega) (by omega)];simp;omega
  have e2:decide (wi (b - m)=1)=false:=by rw [wn (by omega) (by omega)];simp;omega
  simp only [e1,cond_false,e2,hmidw,h0,zA,j3,hend,zQ];have hrot:(cond (decide ((j:Int) < m)&&decide (m < ((mid+(A+K) - j:Nat):Int))) ((jZ (p++L++R++s) (j:Int) m ((mid+(A+K) - j:Nat):Int) f).bind fun t191=>some t191) (some (p++L++R++s)):Option (List Int))=some (p++L1++R1++(L2++R2++s)):=by
    by_cases hc:j < A+K∧A+K < mid+(A+K) - j
    · have hb1:(decide ((j:Int) < m)&&decide (m < ((mid+(A+K) - j:Nat):Int)))=true:=by simp;omega
      have hr:=yJ9 (f:=f) (P:=p++L1) (U:=L2) (V:=R1) (S:=R2++s) (a:=(j:Int)) (m:=m) (b:=((mid+(A+K) - j:Nat):Int)) (by simp;omega) (by simp;omega) (by simp;omega) (by omega) (by omega) (by simp;omega)
      rw [show p++L1++L2++R1++(R2++s)=p++L++R++s by rw [eL,eR];simp] at hr
      rw [hb1,cond_true,hr];simp
    · have hb1:(decide ((j:Int) < m)&&decide (m < ((mid+(A+K) - j:Nat):Int)))=false:=by
        simp only [Bool.and_eq_false_iff,decide_eq_false_iff_not];by_cases h1:j < A+K
        · right;omega
        · left;omega
      rw [hb1,cond_false];by_cases h1:j < A+K
      · have:R1= []:=List.eq_nil_of_length_eq_zero (by omega)
        rw [eL,eR,this];simp
      · have:L2= []:=List.eq_nil_of_length_eq_zero (by omega)
        rw [eL,eR,this];simp
  rw [hrot,zA];obtain ⟨M1,hM1,sM1,fM1⟩:∃M1,(cond (decide (a < (j:Int))&&decide ((j:Int) < (mid:Int))) ((rec (p++L1++R1++(L2++R2++s)) a (j:Int) (mid:Int) f).bind fun t205=>some t205) (some (p++L1++R1++(L2++R2++s))):Option (List Int))=some (p++M1++(L2++R2++s))∧Srt key M1∧Flt key (L1++R1) M1:=by
    by_cases hc:A < j∧j < mid
    · have hb1:(decide (a < (j:Int))&&decide ((j:Int) < (mid:Int)))=true:=by simp;omega
      obtain ⟨M,h1,h2,h3⟩:=ih p L1 R1 (L2++R2++s) a (j:Int) (mid:Int) (by omega) (by omega) (by omega) sL1 sR1 ha (by omega) (by omega) (by omega);exact ⟨M,by rw [hb1,cond_true,h1];rfl,h2,h3⟩
    · have hb1:(decide (a < (j:Int))&&decide ((j:Int) < (mid:Int)))=false:=by
        simp only [Bool.and_eq_false_iff,decide_eq_false_iff_not];by_cases h1:A < j
        · right;omega
        · left;omega
      refine ⟨L1++R1,by rw [hb1,cond_false];simp,?_,Flt.refl _⟩
      by_cases h1:A < j
      · have:R1= []:=List.eq_nil_of_length_eq_zero (by omega)
        rw [this];simpa using sL1
      · have:L1= []:=List.eq_nil_of_length_eq_zero (by omega)
        rw [this];simpa using sR1
  rw [hM1,zA];have nM1:M1.length=mid - A:=by rw [←fM1.len];simp;omega
  obtain ⟨M2,hM2,sM2,fM2⟩:∃M2,(cond (decide ((mid:Int) < ((mid+(A+K) - j:Nat):Int))&&decide (((mid+(A+K) - j:Nat):Int) < b)) ((rec (p++M1++(L2++R2++s)) (mid:Int) ((mid+(A+K) - j:Nat):Int) b f).bind fun t219=>some t219) (some (p++M1++(L2++R2++s))):Option (List Int))=some (p++(M1++M2)++s)∧Srt key M2∧Flt key (L2++R2) M2:=by
    by_cases hc:mid < mid+(A+K) - j∧mid+(A+K) - j < A+K+N
    · have hb1:(decide ((mid:Int) < ((mid+(A+K) - j:Nat):Int))&&decide (((mid+(A+K) - j:Nat):Int) < b))=true:=by simp;omega
      obtain ⟨M,h1,h2,h3⟩:=ih (p++M1) L2 R2 s (mid:Int) ((mid+(A+K) - j:Nat):Int) b (by omega) (by omega) (by omega) sL2 sR2 (by simp;omega) (by simp;omega) (by simp;omega) (by simp;omega)
      rw [show p++M1++L2++R2++s=p++M1++(L2++R2++s) by simp] at h1;exact ⟨M,by rw [hb1,cond_true,h1];simp,h2,h3⟩
    · have hb1:(decide ((mid:Int) < ((mid+(A+K) - j:Nat):Int))&&decide (((mid+(A+K) - j:Nat):Int) < b))=false:=by
        simp only [Bool.and_eq_false_iff,decide_eq_false_iff_not];by_cases h1:mid < mid+(A+K) - j
        · right;omega
        · left;omega
      refine ⟨L2++R2,by rw [hb1,cond_false];simp,?_,Flt.refl _⟩
      by_cases h1:mid < mid+(A+K) - j
      · have:R2= []:=List.eq_nil_of_length_eq_zero (by omega)
        rw [this];simpa using sL2
      · have:L2= []:=List.eq_nil_of_length_eq_zero (by omega)
        rw [this];simpa using sR2
  refine ⟨M1++M2,hM2,zH5.2 ⟨sM1,sM2,fun x hx y hy=>?_⟩,?_⟩
  · have hx:=fM1.mem.2 hx
    have hy:=fM2.mem.2 hy;rcases List.mem_append.1 hx with hx | hx <;> rcases List.mem_append.1 hy with hy | hy
    · exact hLL x hx y hy
    · exact hle x hx y hy
    · have:=hlt x hx y hy;omega
    · exact hRR x hx y hy
  · have h1:Flt key (L2++R1) (R1++L2):=Flt.swap fun x hx y hy=>by have:=hlt y hy x hx;omega
    have h2:=(Flt.refl (key:=key) L1).app (h1.app (Flt.refl R2));have h3:=fM1.app fM2;rw [eL,eR];refine Flt.trans ?_ h3;simpa using h2
theorem yC0:∀(n:Nat) (p L R s:List Int) (a m b:Int),L.length+R.length≤2 ^ n→0 < L.length→0 < R.length→Srt key L→Srt key R→a=(p.length:Int)→m=((p.length+L.length:Nat):Int)→b=((p.length+L.length+R.length:Nat):Int)→p.length+L.length+R.length≤2000→
    ∃M,kG (n+1) (p++L++R++s) a m b f=some (p++M++s)∧Srt key M∧Flt key (L++R) M:=by
  intro n
  induction n with
  | zero=>intro p L R s a m b h;omega
  | succ n ih=>
    intro p L R s a m b hN l1 r1 hL hR ha hm hb h;show ∃M,yK (kG (n+1)) (p++L++R++s) a m b f=_∧_;by_cases hl:L.length=1
    · obtain ⟨x,rfl⟩:=List.length_eq_one_iff.1 hl
      exact yN9 hf hR ha (by simpa using hm) (by simpa using hb) (by simpa using h)
    · by_cases hr:R.length=1
      · obtain ⟨y,rfl⟩:=List.length_eq_one_iff.1 hr
        exact yOA hf hL (by omega) ha hm (by simpa using hb) (by simpa using h)
      · refine yOB hf hL hR (by omega) (by omega) ha hm hb h fun p' L' R' s' a' m' b' h1=>ih p' L' R' s' a' m' b' ?_
        rw [Nat.pow_succ] at hN;omega
end
end Go.M
namespace Go.M
open Go.AV
set_option linter.unusedSimpArgs false
set_option linter.unusedVariables false
section
variable {key:Int→Int} {f:Int→Int→Option Int} (hf:∀x y,f x y=some (sg (key x) (key y)))
theorem k59:(2000:Nat)≤2 ^ 59:=by decide
def OkB (key:Int→Int) (bs:Nat) (Bs:List (List Int)):Prop:= ∀B∈Bs,B.length=bs∧Srt key B
include hf
theorem yOC:∀(n:Nat) (P rest:List Int) (Nn:Int),rest.length≤n→Nn=((P.length+rest.length:Nat):Int)→P.length+rest.length≤2000→
    ∃Bs T0,zE (fun (x:Int×Int×(List Int))=>z8 Nn f x.1 x.2.1 x.2.2) ((P.length:Int),((P.length+20:Nat):Int),P++rest)=some (((P.length+(Bs.flatten).length:Nat):Int),P++Bs.flatten++T0)∧OkB key 20 Bs∧T0.length < 20∧Flt key rest (Bs.flatten++T0):=by
  intro n
  induction n with
  | zero=>
    intro P rest Nn hn hN h;have:rest= []:=List.eq_nil_of_length_eq_zero (by omega);subst this;refine ⟨[],[],zL ?_,(fun B hB=>by cases hB),by simp,Flt.refl _⟩;show z8 Nn f _ _ _=_;have e1:decide (((P.length+20:Nat):Int)≤Nn)=false:=by simp at hN ⊢;omega
    simp only [z8,e1,cond_false];simp
  | succ n ih=>
    intro P rest Nn hn hN h;by_cases hc:20≤rest.length
    · have hs:=yMB hf (p:=P) (m:=rest.take 20) (t:=rest.drop 20) (a:=(P.length:Int)) (b:=((P.length+20:Nat):Int)) rfl (by simp;omega) (by simp;omega)
      rw [List.append_assoc P,List.take_append_drop] at hs;have hfl:=zND (key:=key) (rest.take 20) [];rw [List.nil_append] at hfl;obtain ⟨B,hB⟩:∃B,B=wJ (fun a b=>decide (key a < key b)) (rest.take 20) []:=⟨_,rfl⟩;rw [←hB] at hs hfl;have hBl:B.length=20:=by rw [←hfl.len];simp;omega
      have hBs:Srt key B:=by rw [hB];exact zQP _
      obtain ⟨Bs,T0,h1,h2,h3,h4⟩:=ih (P++B) (rest.drop 20) Nn (by simp;omega) (by rw [hN];simp;omega) (by simp;omega)
      refine ⟨B::Bs,T0,?_,?_,h3,?_⟩
      · rw [zR (x':=(((P++B).length:Int),(((P++B).length+20:Nat):Int),(P++B)++rest.drop 20)),h1]
        · simp [Nat.add_assoc]
        · show z8 Nn f _ _ _=_
          have e1:decide (((P.length+20:Nat):Int)≤Nn)=true:=by simp;omega
          have e2:wi (((P.length+20:Nat):Int)+20)=(((P++B).length+20:Nat):Int):=by rw [wn (by omega) (by omega)];simp;omega
          have e3:((P.length+20:Nat):Int)=((P++B).length:Int):=by simp;omega
          simp only [z8,e1,cond_true,hs,zA,e2];rw [e3]
      · intro C hC
        rcases List.mem_cons.1 hC with e | e
        · rw [e];exact ⟨hBl,hBs⟩
        · exact h2 C e
      · have:=hfl.app h4
        rw [List.take_append_drop] at this;simpa using this
    · refine ⟨[],rest,zL ?_,(fun B hB=>by cases hB),by omega,Flt.refl _⟩
      show z8 Nn f _ _ _=_;have e1:decide (((P.length+20:Nat):Int)≤Nn)=false:=by simp;omega
      simp only [z8,e1,cond_false];simp
theorem yME (bs:Nat) (hb0:0 < bs) (hb1:bs≤2000) (T:List Int) (hT:T.length < bs):∀(Bs:List (List Int)) (P:List Int) (Nn:Int),OkB key bs Bs→Nn=((P.length+Bs.flatten.length+T.length:Nat):Int)→P.length+Bs.flatten.length+T.length≤2000→
    ∃Cs Ds,zE (fun (x:Int×Int×(List Int))=>yF Nn (bs:Int) f x.1 x.2.1 x.2.2) ((P.length:Int),((P.length+2*bs:Nat):Int),P++Bs.flatten++T)=some (((P.length+Cs.flatten.length:Nat):Int),P++Cs.flatten++Ds.flatten++T)∧OkB key (2*bs) Cs∧OkB key bs Ds∧Ds.length≤1∧Flt key Bs.flatten (Cs.flatten++Ds.flatten)
  | [],P,Nn,ho,hN,h=>by
    refine ⟨[],[],zL ?_,(fun B hB=>by cases hB),(fun B hB=>by cases hB),by simp,Flt.refl _⟩;show yF Nn _ f _ _ _=_;have e1:decide (((P.length+2*bs:Nat):Int)≤Nn)=false:=by simp at hN ⊢;omega
    simp only [yF,e1,cond_false];simp
  | [B],P,Nn,ho,hN,h=>by
    have hB:=(ho B (by simp)).1;refine ⟨[],[B],zL ?_,(fun B hB=>by cases hB),ho,by simp,by simpa using Flt.refl B⟩;show yF Nn _ f _ _ _=_;have e1:decide (((P.length+2*bs:Nat):Int)≤Nn)=false:=by simp at hN ⊢;omega
    simp only [yF,e1,cond_false];simp
  | B1::B2::Bs,P,Nn,ho,hN,h=>by
    obtain ⟨l1,s1⟩:=ho B1 (by simp);obtain ⟨l2,s2⟩:=ho B2 (by simp);simp only [List.flatten_cons,List.length_append] at hN h;obtain ⟨M,m1,m2,m3⟩:=yC0 hf 59 P B1 B2 (Bs.flatten++T) (P.length:Int) ((P.length+bs:Nat):Int) ((P.length+2*bs:Nat):Int) (Nat.le_trans (by omega) k59) (by omega) (by omega) s1 s2 rfl (by rw [l1]) (by omega) (by omega);have hM:M.length=2*bs:=by rw [←m3.len];simp;omega
    obtain ⟨Cs,Ds,h1,h2,h3,h4,h5⟩:=yME bs hb0 hb1 T hT Bs (P++M) Nn (fun B hB=>ho B (by simp [hB])) (by rw [hN,List.length_append];omega) (by rw [List.length_append];omega)
    refine ⟨M::Cs,Ds,?_,?_,h3,h4,?_⟩
    · rw [zR (x':=(((P++M).length:Int),(((P++M).length+2*bs:Nat):Int),(P++M)++Bs.flatten++T)),h1]
      · simp [Nat.add_assoc]
      · show yF Nn _ f _ _ _=_
        have e1:decide (((P.length+2*bs:Nat):Int)≤Nn)=true:=by simp;omega
        have e0:wi ((P.length:Int)+(bs:Int))=((P.length+bs:Nat):Int):=by rw [wn (by omega) (by omega)];omega
        have e2:wi (2*(bs:Int))=((2*bs:Nat):Int):=by rw [wn (by omega) (by omega)];omega
        have e3:wi (((P.length+2*bs:Nat):Int)+((2*bs:Nat):Int))=(((P++M).length+2*bs:Nat):Int):=by rw [wn (by omega) (by omega)];simp;omega
        have e4:P++(B1::B2::Bs).flatten++T=P++B1++B2++(Bs.flatten++T):=by simp
        have e5:((P.length+2*bs:Nat):Int)=((P++M).length:Int):=by simp;omega
        simp only [yF,e1,cond_true,e0,e2,e3,e4,m1,zA];rw [e5];simp
    · intro C hC
      rcases List.mem_cons.1 hC with e | e
      · rw [e];exact ⟨hM,m2⟩
      · exact h2 C e
    · have:=m3.app h5
      simpa using this
theorem yOD (Nn:Int) (N:Nat) (hN:Nn=(N:Int)) (hNb:N≤2000):∀(n bs:Nat) (Bs:List (List Int)) (T:List Int),N - bs≤n→0 < bs→bs≤4000→OkB key bs Bs→Srt key T→T.length < bs→Bs.flatten.length+T.length=N→
    ∃r,zE (fun (x:Int×(List Int))=>yG Nn f x.1 x.2) ((bs:Int),Bs.flatten++T)=some r∧Srt key r∧Flt key (Bs.flatten++T) r:=by
  have fin:∀(bs:Nat) (Bs:List (List Int)) (T:List Int),N≤bs→0 < bs→OkB key bs Bs→Srt key T→T.length < bs→Bs.flatten.length+T.length=N→
    ∃r,zE (fun (x:Int×(List Int))=>yG Nn f x.1 x.2) ((bs:Int),Bs.flatten++T)=some r∧Srt key r∧Flt key (Bs.flatten++T) r:=by
    intro bs Bs T h1 h2 h3 h4 h5 h6;refine ⟨Bs.flatten++T,zL ?_,?_,Flt.refl _⟩
    · show yG Nn f _ _=_
      simp only [yG,hN,kO h1,cond_false]
    · cases Bs with
      | nil=>simpa using h4
      | cons B Bs=>
        have hB:=h3 B (by simp);simp only [List.flatten_cons,List.length_append] at h6;have e1:Bs.flatten= []:=List.eq_nil_of_length_eq_zero (by omega);have e2:T= []:=List.eq_nil_of_length_eq_zero (by omega);simp only [List.flatten_cons,e1,e2,List.append_nil];exact hB.2
  intro n
  induction n with
  | zero=>intro bs Bs T h1 h2 h2' h3 h4 h5 h6;exact fin bs Bs T (by omega) h2 h3 h4 h5 h6
  | succ n ih=>
    intro bs Bs T h1 h2 h2' h3 h4 h5 h6;by_cases hc:N≤bs
    · exact fin bs Bs T hc h2 h3 h4 h5 h6
    · obtain ⟨Cs,Ds,c1,c2,c3,c4,c5⟩:=yME hf bs h2 (by omega) T h5 Bs [] Nn h3 (by rw [hN,List.length_nil];omega) (by rw [List.length_nil];omega)
      simp only [List.length_nil,Nat.zero_add,List.nil_append] at c1;have hcd:Cs.flatten.length+Ds.flatten.length=Bs.flatten.length:=by rw [c5.len,List.length_append]
      obtain ⟨T',t1,t2,t3,t4⟩:∃T',(cond (decide ((wi (((Cs.flatten.length:Nat):Int)+(bs:Int))) < Nn)) ((kG 60 (Cs.flatten++Ds.flatten++T) ((Cs.flatten.length:Nat):Int) (wi (((Cs.flatten.length:Nat):Int)+(bs:Int))) Nn f).bind fun t60=>some t60) (some (Cs.flatten++Ds.flatten++T)):Option (List Int))=some (Cs.flatten++T')∧Srt key T'∧T'.length < 2*bs∧Flt key (Ds.flatten++T) T':=by
        have e0:wi (((Cs.flatten.length:Nat):Int)+(bs:Int))=((Cs.flatten.length+bs:Nat):Int):=by rw [wn (by omega) (by omega)];omega
        match Ds,c3,c4 with
        | [],_,_=>
          simp only [List.flatten_nil,List.length_nil] at hcd;refine ⟨T,?_,h4,by omega,by simpa using Flt.refl T⟩;rw [e0,hN,kO (k:=Cs.flatten.length+bs) (n:=N) (by omega),cond_false];simp
        | [D],c3,_=>
          have hD:=c3 D (by simp);simp only [List.flatten_cons,List.flatten_nil,List.append_nil] at hcd ⊢;by_cases hT0:T.length=0
          · have:T= []:=List.eq_nil_of_length_eq_zero hT0
            subst this;refine ⟨D,?_,hD.2,by omega,by simpa using Flt.refl D⟩;rw [e0,hN,kO (k:=Cs.flatten.length+bs) (n:=N) (by rw [List.length_nil] at h6;omega),cond_false]
            simp
          · obtain ⟨M,m1,m2,m3⟩:=yC0 hf 59 Cs.flatten D T [] (Cs.flatten.length:Int) ((Cs.flatten.length+bs:Nat):Int) Nn (Nat.le_trans (by omega) k59) (by omega) (by omega) hD.2 h4 rfl (by rw [hD.1]) (by omega) (by omega)
            simp only [List.append_nil] at m1;refine ⟨M,?_,m2,by rw [←m3.len,List.length_append];omega,m3⟩
            rw [e0,hN,yV (k:=Cs.flatten.length+bs) (n:=N) (by omega),cond_true,←hN,m1];rfl
      obtain ⟨r,r1,r2,r3⟩:=ih (2*bs) Cs T' (by omega) (by omega) (by omega) c2 t2 t3 (by rw [←t4.len,List.length_append];omega)
      refine ⟨r,?_,r2,?_⟩
      · rw [zR (x':=(((2*bs:Nat):Int),Cs.flatten++T')),r1]
        show yG Nn f _ _=_;have e1:decide ((bs:Int) < Nn)=true:=by rw [hN];exact yV (by omega)
        have e2:wi (2*(bs:Int))=((2*bs:Nat):Int):=by rw [wn (by omega) (by omega)];omega
        have e3:wi ((bs:Int)*2)=((2*bs:Nat):Int):=by rw [wn (by omega) (by omega)];omega
        simp only [yG,e1,cond_true,e2];have c1':zE (fun (x:Int×Int×(List Int))=>yF Nn (bs:Int) f x.1 x.2.1 x.2.2) (0,((2*bs:Nat):Int),Bs.flatten++T)=some (((Cs.flatten.length:Nat):Int),Cs.flatten++Ds.flatten++T):=c1;rw [c1',zA];simp only [t1,zA,e3]
      · refine Flt.trans ?_ r3
        have:=c5.app (Flt.refl (key:=key) T);refine this.trans ?_;rw [List.append_assoc];exact (Flt.refl _).app t4
theorem z9A (l:List Int) (h:l.length≤2000):∃r,yP l f=some r∧Srt key r∧Flt key l r:=by
 unfold yP xX;obtain ⟨Bs,T0,h1,h2,h3,h4⟩:=yOC hf l.length [] l (l.length:Int) (Nat.le_refl _) (by simp) (by simpa using h);simp only [List.length_nil,Nat.zero_add,List.nil_append] at h1;have h1':zE (fun (x:Int×Int×(List Int))=>z8 (l.length:Int) f x.1 x.2.1 x.2.2) (0,20,l)=some (((Bs.flatten.length:Nat):Int),Bs.flatten++T0):=h1;rw [h1',zA];have hl:Bs.flatten.length+T0.length=l.length:=by rw [h4.len,List.length_append]
 have hs:=yMB hf (p:=Bs.flatten) (m:=T0) (t:=[]) (a:=((Bs.flatten.length:Nat):Int)) (b:=(l.length:Int)) rfl (by omega) (by omega);simp only [List.append_nil] at hs;have hfl:=zND (key:=key) T0 [];rw [List.nil_append] at hfl;obtain ⟨r,r1,r2,r3⟩:=yOD hf (l.length:Int) l.length rfl h l.length 20 Bs (wJ (fun a b=>decide (key a < key b)) T0 []) (by omega) (by omega) (by omega) h2 (zQP _) (by rw [←hfl.len];exact h3) (by rw [←hfl.len];exact hl)
 have r1':zE (fun (x:Int×(List Int))=>yG (l.length:Int) f x.1 x.2) (20,Bs.flatten++wJ (fun a b=>decide (key a < key b)) T0 [])=some r:=r1;refine ⟨r,?_,r2,h4.trans (((Flt.refl _).app hfl).trans r3)⟩;simp only [hs,zA,r1']
end
end Go.M


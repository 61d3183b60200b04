/- What the plain counterparts answer. Conditions: none. -/
import Derived.Test.YtlcjeomefjmhgaaGreatDoorMir
set_option linter.unusedSimpArgs false
set_option linter.unusedVariables false
set_option linter.unnecessarySimpa false
namespace Go.M
open Go.AV
theorem kQ {n:Int} (h: -9223372036854775808≤n) (k:n≤9223372036854775807):wi n=n:=w64 h k
theorem yL1 {k:Nat} (h:k≤9223372036854775807):wi (k:Int)=(k:Int):=kQ (by omega) (by omega)
theorem zK {k:Nat} (h:k+1≤9223372036854775807):wi ((k:Int)+1)=((k+1:Nat):Int):=by rw[kQ (by omega) (by omega)];omega
theorem zDA {k:Nat} (h:k+1≤9223372036854775807):wi (((k+1:Nat):Int)-1)=(k:Int):=by rw[kQ (by omega) (by omega)];omega
theorem yI {k n:Nat} (h:k<n):decide ((k:Int)<(n:Int))=true:=by simp;omega
theorem kB {k n:Nat} (h:n≤k):decide ((k:Int)<(n:Int))=false:=by simp;omega
theorem zP {z:Type} {l:List z} {k:Nat} (h:k<l.length):z7 l (k:Int)=some l[k]:=by unfold z7;rw[if_pos (by omega)];simp[h]
theorem yDO {h:Type} {x: h} {l:List h}:z7 (x::l) 0=some x:=rfl
theorem zEK {z:Type} {l:List z} {k:Nat} (h:k<l.length) (x: z):uQ l (k:Int) x=some (l.set k x):=by unfold uQ;rw[if_pos ⟨by omega,by simpa using h⟩];simp
theorem k7 {k:Type} {l m:List k} (h:l.length+m.length≤4294967296):app l m=some (l++m):=by unfold app;rw[if_pos (by unfold LIM;exact h)]
theorem zZC {k:Type} {z: k} {n:Nat} (h:n≤4294967296):mkM z (n:Int)=some (List.replicate n z):=by unfold mkM;rw[if_pos ⟨by omega,by unfold LIM;simpa using h⟩];simp
theorem zZD {k:Type} {l:List k} {a b:Nat} (z:a≤b) (h:b≤l.length):slc l (a:Int) (b:Int)=some ((l.take b).drop a):=by unfold slc;rw[if_pos ⟨by omega,by omega,by simpa using h⟩];simp
theorem zHA {k:Type} {l:List k} {b:Nat} (h:b≤l.length):slc l 0 (b:Int)=some (l.take b):=by have:=zZD (l:=l) (a:=0) (b:=b) (by omega) h;simpa using this
theorem zPM {k:Type} {l:List k} {a:Nat} (h:a≤l.length):slc l (a:Int) (l.length:Int)=some (l.drop a):=by have:=zZD (l:=l) (a:=a) (b:=l.length) h (Nat.le_refl _);simpa using this
theorem zH {h k:Type} (x: h) (f: h→Option k):(pv x).bind f=f x:=rfl
theorem j6 {h:Type} [Inhabited h] (m:Option h):gM true m=m:=rfl
theorem w8 {h:Type} [Inhabited h] (m:Option h):gM false m=some default:=rfl
theorem zA {h k:Type} (x: h) (f: h→Option k):(some x).bind f=f x:=rfl
theorem zJ {X Y:Type} {body:X→Option (Stp X Y)} {x x':X} (h:body x=some (.next x')):zC body x=zC body x':=by rw[jO,h]
theorem zF {X Y:Type} {body:X→Option (Stp X Y)} {x:X} {y:Y} (h:body x=some (.done y)):zC body x=some y:=by rw[jO,h]
end Go.M
namespace Go.M
open Go.AV
def chk {A Y:Type} (p:Nat→A→Option Y):List A→Nat→Option Y
 | [],_=>none
 | x::xs,k=>match p k x with
  | some y=>some y
  | none=>chk p xs (k+1)
def toS {Y:Type}:Option Y→Unit⊕Y
 | some y=> .inr y
 | none=> .inl ()
def stp {Y:Type} (k:Nat):Option Y→Stp Int (Unit⊕Y)
 | some y=> .done (.inr y)
 | none=> .next ((k+1:Nat):Int)
theorem z2J {A Y:Type} (l:List A) {body:Int→Option (Stp Int (Unit⊕Y))} (p:Nat→A→Option Y)
  (s:Nat) (hb:∀k (h:k<l.length),s≤k→body (k:Int)=some (stp k (p k l[k]))) (H:∀k:Nat,l.length≤k→body (k:Int)=some (.done (.inl ()))):
  ∀(n k:Nat),s≤k→l.length-k=n→zC body (k:Int)=some (toS (chk p (l.drop k) k)):=by
 intro n
 induction n with
 | zero=>
  intro k G O;rw[jO,H k (by omega),List.drop_of_length_le (by omega)];rfl
 | succ n T=>
  intro k G O;have z:k<l.length:=by omega
  rw[jO,hb k z G,List.drop_eq_getElem_cons z];simp only[chk];cases Z:p k l[k] with
  | some y=>rfl
  | none=>exact T (k+1) (by omega) (by omega)
theorem j9 {A Y:Type} (l:List A) {body:Int→Option (Stp Int (Unit⊕Y))} (p:Nat→A→Option Y)
  (hb:∀k (h:k<l.length),body (k:Int)=some (stp k (p k l[k]))) (z:∀k:Nat,l.length≤k→body (k:Int)=some (.done (.inl ()))):zC body 0=some (toS (chk p l 0)):=by
 have:=z2J l p 0 (fun k h _=>hb k h) z l.length 0 (by omega) (by omega);simpa using this
theorem jQ {Y Z:Type} (o:Option Y) (f:Unit→Option Z) (g:Y→Option Z):(toS o).elim f g=match o with | some y=>g y | none=>f ():=by cases o<;>rfl
abbrev MX:Nat:=9223372036854775807
def zGC (t:Int):Bool:=((((decide (65≤t)&&decide (t≤90)) ||(decide (97≤t)&&decide (t≤122))) ||(decide (48≤t)&&decide (t≤57))) ||decide (t=95))
theorem zZE:xI=zGK:=rfl
theorem z2K {s:Str} {k:Nat} (h:k<s.length):z03 s (k:Int)=some (s[k].toNat:Int):=by unfold z03;rw[zP h];rfl
theorem zRL (s:Str) (z:s.length≤MX):zC (fun (x:Int)=>xI s x) 0=some (toS (chk (fun _ (b:UInt8)=>if zGC (b.toNat:Int) then none else some false) s 0)):=by
 refine j9 s _ (fun k h=>?_) (fun k h=>?_);simp only[xI,yI h,cond_true,z2K h,zA,zH,zK (k:=k) (by unfold MX at z;omega)]
 by_cases hb:zGC (s[k].toNat:Int)=true;simp only[hb,if_true,stp];unfold zGC at hb;rw[hb];rfl;simp only[hb,if_false,stp];unfold zGC at hb;simp only[Bool.not_eq_true] at hb;rw[hb];rfl;simp only[xI,kB h,cond_false]
def zML (s:Str):Bool:=match chk (fun _ (b:UInt8)=>if zGC (b.toNat:Int) then none else some false) s 0 with
 | some y=>y
 | none=>decide (1≤s.length)&&decide (s.length≤32)
theorem yAE {s:Str} (k:s.length≤MX):zBR s=some (zML s):=by
 unfold zBR zML;rw[zRL s k,zA,jQ];cases chk (fun _ (b:UInt8)=>if zGC (b.toNat:Int) then none else some false) s 0 with
 | some y=>rfl
 | none=>
  simp only[zH];congr 1;cases s with
  | nil=>rfl
  | cons x l=>
   have h:((x::l:Str)== [])=false:=rfl;rw[h];simp;omega
theorem z61 {s:Str} (h:s.length≤MX):zFW s=some (zML s):=by
 unfold zFW zML;rw[←zZE,zRL s h,zA,jQ];cases chk (fun _ (b:UInt8)=>if zGC (b.toNat:Int) then none else some false) s 0 with
 | some y=>rfl
 | none=>
  simp only[zH];congr 1;congr 1;simp;omega;simp;omega
def gpN (_:Nat) (g:Group):Option Int:=if zML g.Name then none else some 6
def gpR (b:Int) (_:Nat) (g:Group):Option Int:=if g.Lo<1∨g.Hi<g.Lo∨b≤g.Hi then some 1 else none
def gpO (l:List Group) (k:Nat) (g:Group):Option Int:=if 0<k∧¬g.Lo=wi ((l.getD (k-1) default).Hi+1) then some 4 else none
def gpT (l:List Group) (k:Nat) (g:Group):Option Int:=if g.Name∈(l.take k).map (·.Name) then some 5 else none
section
variable {c:Collation} (hg:c.Groups.length≤2000) (hn:∀g∈c.Groups,g.Name.length≤MX)
include hg
theorem wiS {k:Nat} (h:k<c.Groups.length):wi ((k:Int)+1)=((k+1:Nat):Int):=zK (by omega)
include hn in
theorem gL0:zC (fun (x:Int)=>jR c x) 0=some (toS (chk gpN c.Groups 0)):=by refine j9 c.Groups _ (fun k h=>?_) (fun k h=>?_);simp only[jR,yI h,cond_true,zP h,zA,yAE (hn _ (List.getElem_mem h)),wiS hg h,gpN];cases zML (c.Groups[k]).Name<;>rfl;simp only[jR,kB h,cond_false]
include hn in
theorem rL0:zC (fun (x:Int)=>zAX c x) 0=some (toS (chk gpN c.Groups 0)):=by refine j9 c.Groups _ (fun k h=>?_) (fun k h=>?_);simp only[zAX,yI h,cond_true,zP h,zA,z61 (hn _ (List.getElem_mem h)),wiS hg h,gpN];cases zML (c.Groups[k]).Name<;>rfl;simp only[zAX,kB h,cond_false]
theorem gL2:zC (fun (x:Int)=>jS c x) 0=some (toS (chk (gpR c.Base) c.Groups 0)):=by refine j9 c.Groups _ (fun k h=>?_) (fun k h=>?_);simp only[jS,yI h,cond_true,zP h,zA,zH,wiS hg h,gpR];by_cases z:(c.Groups[k]).Lo<1<;>by_cases G:(c.Groups[k]).Hi<(c.Groups[k]).Lo<;>by_cases H:c.Base≤(c.Groups[k]).Hi<;>simp[z,G,H,stp];simp only[jS,kB h,cond_false]
theorem rL3:zC (fun (x:Int)=>zA0 c x) 0=some (toS (chk (gpR c.Base) c.Groups 0)):=by refine j9 c.Groups _ (fun k h=>?_) (fun k h=>?_);simp only[zA0,yI h,cond_true,zP h,zA,zH,wiS hg h,gpR];by_cases z:(c.Groups[k]).Lo<1<;>by_cases G:(c.Groups[k]).Hi<(c.Groups[k]).Lo<;>by_cases H:c.Base≤(c.Groups[k]).Hi<;>simp[z,G,H,stp,j6,w8,zA];simp only[zA0,kB h,cond_false]
theorem gL3:zC (fun (x:Int)=>jT c x) 0=some (toS (chk (gpO c.Groups) c.Groups 0)):=by
 refine j9 c.Groups _ (fun k h=>?_) (fun k h=>?_);simp only[jT,yI h,cond_true,zP h,zA,zH,wiS hg h,gpO];cases k with
 | zero=>simp[w8,zA,stp]
 | succ k=>
  have z:k<c.Groups.length:=by omega
  have G:wi (((k+1:Nat):Int)-1)=(k:Int):=zDA (by omega);have H:decide ((0:Int)<((k+1:Nat):Int))=true:=by simp
  rw[H,j6,G,zP z,zA];have O:c.Groups.getD (k+1-1) default=c.Groups[k]:=by simp[z]
  rw[O];by_cases T:(c.Groups[k+1]).Lo=wi ((c.Groups[k]).Hi+1)<;>simp[T,stp]
 simp only[jT,kB h,cond_false]
theorem rL4:zC (fun (x:Int)=>uJ c x) 1=some (toS (chk (gpO c.Groups) (c.Groups.drop 1) 1)):=by
 have:=z2J (body:=fun (x:Int)=>uJ c x) c.Groups (gpO c.Groups) 1 (fun k h O=>?_) (fun k h=>?_) (c.Groups.length-1) 1 (by omega) rfl;exact this;simp only[uJ,yI h,cond_true,zP h,zA,wiS hg h,gpO];cases k with
 | zero=>omega
 | succ k=>
  have z:k<c.Groups.length:=by omega
  have G:wi (((k+1:Nat):Int)-1)=(k:Int):=zDA (by omega);rw[G,zP z,zA];have H:c.Groups.getD (k+1-1) default=c.Groups[k]:=by simp[z]
  rw[H];by_cases T:(c.Groups[k+1]).Lo=wi ((c.Groups[k]).Hi+1)<;>simp[T,stp]
 simp only[uJ,kB h,cond_false]
omit hg in
theorem yOJ:chk (gpO c.Groups) c.Groups 0=chk (gpO c.Groups) (c.Groups.drop 1) 1:=by
 cases h:c.Groups with
 | nil=>rfl
 | cons g l=>simp[chk,gpO]
omit hg in
theorem z5J {O T:Type} [DecidableEq O] (m:List (O×T)) (k G: O) (v z: T):zAN (zAQ m k v) G z=if G=k then v else zAN m G z:=by
 unfold zAN
 induction m with
 | nil=>simp only[zAQ,mget];by_cases h:G=k<;>simp[h,mget]
 | cons p m Y=>
  obtain⟨q,u⟩:=p;simp only[zAQ];by_cases H:k=q;subst H;simp only[if_true,mget];by_cases h:G=k<;>simp[h];simp only[H,if_false,mget];by_cases h:G=q;subst h;have:¬G=k:=fun e=>H e.symm;simp[this];simp only[h,if_false];exact Y
theorem gL1:∀(n k:Nat) (m:List (Str×Bool)),c.Groups.length-k=n→k≤c.Groups.length→(∀s,zAN m s false=decide (s∈(c.Groups.take k).map (·.Name)))→
    zC (fun (x:Int×(List (Str×Bool)))=>jC c x.1 x.2) ((k:Int),m)=some (toS (chk (gpT c.Groups) (c.Groups.drop k) k)):=by
  intro n
  induction n with
  | zero=>
    intro k m Z H O;have G:c.Groups.length≤k:=by omega
    rw[jO,List.drop_of_length_le G];simp only[jC,kB G,cond_false,chk,toS]
  | succ n ih=>
    intro k m Z H O;have h:k<c.Groups.length:=by omega
    rw[jO,List.drop_eq_getElem_cons h];simp only[jC,yI h,cond_true,zP h,zA,O,wiS hg h,chk,gpT];by_cases z:(c.Groups[k]).Name∈(c.Groups.take k).map (·.Name)
    · simp only[z,decide_true,cond_true,if_true,toS]
    · simp only[z,decide_false,cond_false,if_false]
      refine ih (k+1) _ (by omega) (by omega) fun s=>?_;rw[z5J,O s];have Y:(c.Groups.take (k+1)).map (·.Name)=(c.Groups.take k).map (·.Name)++ [(c.Groups[k]).Name]:=by
        rw[List.take_add_one,List.getElem?_eq_getElem h,List.map_append];rfl
      rw[Y];by_cases T:s=(c.Groups[k]).Name
      · simp[T]
      · simp[T]
omit hg in
theorem z62 {A Y:Type} (P:A→Bool) (y:Y):∀(l:List A) (k:Nat),chk (fun _ x=>if P x then some y else none) l k=if l.any P then some y else none
 | [],_=>rfl
 | x::l,k=>by
  simp only[chk,List.any_cons];by_cases h:P x=true;simp[h];simp only[h,Bool.false_eq_true,if_false,Bool.false_or];exact z62 P y l (k+1)
theorem rL1:zC (fun (x:Int)=>zAZ c x) 0=some (toS (chk (gpT c.Groups) c.Groups 0)):=by
  refine j9 c.Groups _ (fun k h=>?_) (fun k h=>?_)
  · have H:zC (fun (x:Int)=>zAY (k:Int) c x) 0=some (toS (chk (fun _ (g:Group)=>if (g.Name==(c.Groups[k]).Name) then some (5:Int) else none) (c.Groups.take k) 0)):=by
      refine j9 (c.Groups.take k) _ (fun j O=>?_) (fun j O=>?_)
      · have T:j<k:=by rw[List.length_take] at O;omega
        have z:j<c.Groups.length:=by omega
        have G:decide ((j:Int)<(k:Int))=true:=by simp;omega
        simp only[zAY,G,cond_true,zP z,zP h,zA,wiS hg z,List.getElem_take];by_cases Y:((c.Groups[j]).Name==(c.Groups[k]).Name)=true
        · simp only[Y,cond_true,if_true,stp]
        · simp only[Y,Bool.not_eq_true] at*
          simp only[Y,cond_false,Bool.false_eq_true,if_false,stp]
      · have T:k≤j:=by rw[List.length_take] at O;omega
        have G:decide ((j:Int)<(k:Int))=false:=by simp;omega
        simp only[zAY,G,cond_false]
    simp only[zAZ,yI h,cond_true,H,zA,jQ,z62,gpT,wiS hg h];have e2:((c.Groups.take k).any fun g=>g.Name==(c.Groups[k]).Name)=decide ((c.Groups[k]).Name∈(c.Groups.take k).map (·.Name)):=by
      rw[Bool.eq_iff_iff];simp only[List.any_eq_true,beq_iff_eq,decide_eq_true_eq,List.mem_map]
    rw[e2];by_cases Z:(c.Groups[k]).Name∈(c.Groups.take k).map (·.Name)
    · simp only[Z,decide_true,if_true,stp]
    · simp only[Z,decide_false,Bool.false_eq_true,if_false,stp]
  · simp only[zAZ,kB h,cond_false]
def zZF (c:Collation):Int:=match chk gpN c.Groups 0 with
 | some y=>y
 | none=>match chk (gpT c.Groups) c.Groups 0 with
  | some y=>y
  | none=>match chk (gpR c.Base) c.Groups 0 with
   | some y=>y
   | none=>match chk (gpO c.Groups) c.Groups 0 with
    | some y=>y
    | none=>0
include hn in
theorem yAF:wN c=some (zZF c):=by
 have h:=gL1 hg c.Groups.length 0 [] (by omega) (by omega) (fun s=>by simp[zAN,mget]);have h:zC (fun (x:Int×(List (Str×Bool)))=>jC c x.1 x.2) (0,[])=some (toS (chk (gpT c.Groups) c.Groups 0)):=h;unfold wN zZF;rw[gL0 hg hn,zA,jQ];cases chk gpN c.Groups 0 with
 | some y=>rfl
 | none=>
  simp only[];rw[h,zA,jQ];cases chk (gpT c.Groups) c.Groups 0 with
  | some y=>rfl
  | none=>
   simp only[];rw[gL2 hg,zA,jQ];cases chk (gpR c.Base) c.Groups 0 with
   | some y=>rfl
   | none=>
    simp only[];rw[gL3 hg,zA,jQ];cases chk (gpO c.Groups) c.Groups 0<;>rfl
include hn in
theorem zZG:zE9 c=some (zZF c):=by
 unfold zE9 zZF;rw[rL0 hg hn,zA,jQ];cases chk gpN c.Groups 0 with
 | some y=>rfl
 | none=>
  simp only[];rw[rL1 hg,zA,jQ];cases chk (gpT c.Groups) c.Groups 0 with
  | some y=>rfl
  | none=>
   simp only[];rw[rL3 hg,zA,jQ];cases chk (gpR c.Base) c.Groups 0 with
   | some y=>rfl
   | none=>
    simp only[];rw[rL4 hg,zA,jQ,yOJ];cases chk (gpO c.Groups) (c.Groups.drop 1) 1<;>rfl
end
end Go.M
namespace Go.M
open Go.AV
def elE (e:Element):Int:=
 if (e.Primary<0∨65535<e.Primary)∨(e.Secondary<0∨65535<e.Secondary)∨(e.Tertiary<0∨65535<e.Tertiary) then 1
 else if (e.Primary≠0∧(e.Secondary=0∨e.Tertiary=0))∨(e.Secondary≠0∧e.Tertiary=0)∨(e.Variable=true∧e.Primary=0) then 11 else 0
theorem yH5 (e:Element):zD8 e=some (elE e):=by
 have O:zC (fun (x:Int)=>uY e x) 0=some (toS (chk (fun _ (w:Int)=>if w<0∨65535<w then some 1 else none) [e.Primary,e.Secondary,e.Tertiary] 0)):=by
  refine j9 [e.Primary,e.Secondary,e.Tertiary] _ (fun k h=>?_) (fun k h=>?_);have G:decide ((k:Int)<3)=true:=by simp at h ⊢;omega
  simp only[uY,G,cond_true,zP h,zA,zH,zK (k:=k) (by simp at h;omega)]
  by_cases z: [e.Primary,e.Secondary,e.Tertiary][k]<0<;>by_cases H:65535 < [e.Primary,e.Secondary,e.Tertiary][k]<;>simp[z,H,stp];have G:decide ((k:Int)<3)=false:=by simp at h ⊢;omega
  simp only[uY,G,cond_false]
 unfold zD8 elE;rw[O,zA,jQ];simp only[chk];by_cases z:e.Primary<0∨65535<e.Primary;simp[z];by_cases H:e.Secondary<0∨65535<e.Secondary;simp[z,H];by_cases G:e.Tertiary<0∨65535<e.Tertiary;simp[z,H,G];simp only[z,H,G,if_false,or_self,zH];by_cases a:e.Primary=0<;>by_cases b:e.Secondary=0<;>by_cases c:e.Tertiary=0<;>cases e.Variable<;>simp[a,b,c]
theorem z5K (e:Element):zG2 e=some (elE e):=by
 unfold zG2 elE zDW;simp only[zH,zA];by_cases a1:0≤e.Primary;by_cases a2:e.Primary≤65535;by_cases b1:0≤e.Secondary;by_cases b2:e.Secondary≤65535;by_cases c1:0≤e.Tertiary;by_cases c2:e.Tertiary≤65535;have n1:¬(e.Primary<0∨65535<e.Primary):=by omega
 have h:¬(e.Secondary<0∨65535<e.Secondary):=by omega
 have k:¬(e.Tertiary<0∨65535<e.Tertiary):=by omega
 simp only[a1,a2,b1,b2,c1,c2,n1,h,k,decide_true,Bool.and_self,Bool.not_true,Bool.not_false,j6,zA,Bool.or_self,cond_false,or_self,if_false];by_cases a:e.Primary=0<;>by_cases b:e.Secondary=0<;>by_cases c:e.Tertiary=0<;>cases e.Variable<;>simp[a,b,c];have:(65535:Int)<e.Tertiary:=by omega
 simp[a1,a2,b1,b2,c1,c2,j6,zA,this];have:e.Tertiary<0:=by omega
 simp[a1,a2,b1,b2,c1,j6,zA,this];have:(65535:Int)<e.Secondary:=by omega
 simp[a1,a2,b1,b2,j6,w8,zA,this];have:e.Secondary<0:=by omega
 simp[a1,a2,b1,j6,w8,zA,this];have:(65535:Int)<e.Primary:=by omega
 simp[a1,a2,j6,w8,zA,this];have:e.Primary<0:=by omega
 simp[a1,j6,w8,zA,this]
def vld (c:Int):Bool:=decide (0≤c)&&decide (c≤1114111)
theorem zPN (c:Int):uH c=some (vld c):=rfl
theorem zE0 (c:Int):xY c=some (vld c):=rfl
def pV (_:Nat) (c:Int):Option Int:=if vld c then none else some 1
def pE (_:Nat) (e:Element):Option Int:=if elE e=0 then none else some (elE e)
def pP (b:Int) (_:Nat) (e:Element):Option Int:=if b≤e.Primary then some 1 else none
def enE (x:Entry) (b:Int):Int:=
 if x.Codes.length<1∨8<x.Codes.length∨16<x.Elements.length then 2
 else match chk pV x.Codes 0 with
  | some y=>y
  | none=>match chk pE x.Elements 0 with
   | some y=>y
   | none=>match chk (pP b) x.Elements 0 with
    | some y=>y
    | none=>0
section
variable {x:Entry} (hc:x.Codes.length≤2000) (he:x.Elements.length≤2000)
include hc in
theorem eL0:zC (fun (v:Int)=>jF x v) 0=some (toS (chk pV x.Codes 0)):=by refine j9 x.Codes _ (fun k h=>?_) (fun k h=>?_);simp only[jF,yI h,cond_true,zP h,zA,zPN,zK (k:=k) (by omega),pV];cases vld x.Codes[k]<;>rfl;simp only[jF,kB h,cond_false]
include he in
theorem eL1:zC (fun (v:Int)=>j8 x v) 0=some (toS (chk pE x.Elements 0)):=by refine j9 x.Elements _ (fun k h=>?_) (fun k h=>?_);simp only[j8,yI h,cond_true,zP h,zA,yH5,zK (k:=k) (by omega),pE];by_cases z:elE x.Elements[k]=0<;>simp[z,stp];simp only[j8,kB h,cond_false]
include he in
theorem eL2 (b:Int):zC (fun (v:Int)=>jG x b v) 0=some (toS (chk (pP b) x.Elements 0)):=by refine j9 x.Elements _ (fun k h=>?_) (fun k h=>?_);simp only[jG,yI h,cond_true,zP h,zA,zK (k:=k) (by omega),pP];by_cases z:b≤(x.Elements[k]).Primary<;>simp[z,stp];simp only[jG,kB h,cond_false]
theorem yOK:zFA=jF:=rfl
theorem yOL (c:Collation):(fun v=>zFB x c v)=fun v=>jG x c.Base v:=rfl
include he in
theorem yQB:zC (fun (v:Int)=>zB9 x v) 0=some (toS (chk pE x.Elements 0)):=by refine j9 x.Elements _ (fun k h=>?_) (fun k h=>?_);simp only[zB9,yI h,cond_true,zP h,zA,z5K,zK (k:=k) (by omega),pE];by_cases z:elE x.Elements[k]=0<;>simp[z,stp];simp only[zB9,kB h,cond_false]
theorem szc:(((decide ((x.Codes.length:Int)<1) ||decide (8<(x.Codes.length:Int))) ||decide (16<(x.Elements.length:Int))))=decide (x.Codes.length<1∨8<x.Codes.length∨16<x.Elements.length):=by rw[Bool.eq_iff_iff];simp only[Bool.or_eq_true,decide_eq_true_eq];omega
include hc he in
theorem yDQ (b:Int):vN x b=some (enE x b):=by
 unfold vN enE;simp only[zH,szc];by_cases h:x.Codes.length<1∨8<x.Codes.length∨16<x.Elements.length;simp only[h,decide_true,cond_true,if_true];simp only[h,decide_false,cond_false,if_false];rw[eL0 hc,zA,jQ];cases chk pV x.Codes 0 with
 | some y=>rfl
 | none=>
  simp only[];rw[eL1 he,zA,jQ];cases chk pE x.Elements 0 with
  | some y=>rfl
  | none=>
   simp only[];rw[eL2 he,zA,jQ];cases chk (pP b) x.Elements 0<;>rfl
end
def zIP (a b:List Int):Int:=match chk (fun _ (p:Int×Int)=>if p.1=p.2 then none else some (if p.1<p.2 then (-1:Int) else 1)) (a.zip b) 0 with
 | some y=>y
 | none=>if a.length<b.length then -1 else if b.length<a.length then 1 else 0
section
variable {a b:List Int} (ha:a.length≤4611686018427387904) (hb:b.length≤2000)
theorem cmpI (x y:Int):jP x y=some (if x<y then -1 else if y<x then 1 else 0):=by unfold jP zD6;simp only[zA,decide_true,Bool.not_true,cond_false];by_cases h:x<y;simp[h];by_cases k:y<x<;>simp[h,k]
include ha in
theorem cL0:zC (fun (v:Int)=>xW a b v) 0=some (toS (chk (fun _ (p:Int×Int)=>if p.1=p.2 then none else some (if p.1<p.2 then (-1:Int) else 1)) (a.zip b) 0)):=by
 refine j9 (a.zip b) _ (fun k h=>?_) (fun k h=>?_);have Y:=h;rw[List.length_zip] at Y;have O:k<a.length:=by omega
 have T:k<b.length:=by omega
 have z:decide ((k:Int)<min (a.length:Int) (b.length:Int))=true:=by simp;omega
 simp only[xW,z,cond_true,zP O,zP T,zA,cmpI,zK (k:=k) (by omega),List.getElem_zip];by_cases H:a[k]=b[k];simp[H,stp];simp only[H,decide_false,Bool.not_false,cond_true,if_false,stp];by_cases G:a[k]<b[k];simp[G];have:b[k]<a[k]:=by omega
 simp[G,this];rw[List.length_zip] at h;have z:decide ((k:Int)<min (a.length:Int) (b.length:Int))=false:=by simp;omega
 simp only[xW,z,cond_false]
include ha in
theorem yQC:zC (fun (v:Int)=>uX a b v) 0=some (toS (chk (fun _ (p:Int×Int)=>if p.1=p.2 then none else some (if p.1<p.2 then (-1:Int) else 1)) (a.zip b) 0)):=by
 refine j9 (a.zip b) _ (fun k h=>?_) (fun k h=>?_);have T:=h;rw[List.length_zip] at T;have z:k<a.length:=by omega
 have G:k<b.length:=by omega
 simp only[uX,yI z,yI G,zH,Bool.and_self,cond_true,zP z,zP G,zA,zK (k:=k) (by omega),List.getElem_zip];by_cases H:a[k]<b[k];have:¬a[k]=b[k]:=by omega
 simp[H,this,stp];by_cases Y:b[k]<a[k];have:¬a[k]=b[k]:=by omega
 simp[H,Y,this,stp];have:a[k]=b[k]:=by omega
 simp[this,stp];rw[List.length_zip] at h;have O:(decide ((k:Int)<(a.length:Int))&&decide ((k:Int)<(b.length:Int)))=false:=by
  rw[Bool.and_eq_false_iff];simp;omega
 simp only[uX,zH,O,cond_false]
include ha in
theorem zUD:vY a b=some (zIP a b):=by
 unfold vY zIP;rw[cL0 ha,zA,jQ];cases chk (fun _ (p:Int×Int)=>if p.1=p.2 then none else some (if p.1<p.2 then (-1:Int) else 1)) (a.zip b) 0 with
 | some y=>rfl
 | none=>
  simp only[cmpI,zA];congr 1;by_cases k:a.length<b.length;have:(a.length:Int)<b.length:=by omega
  simp[k,this];have h:¬(a.length:Int)<b.length:=by omega
  by_cases G:b.length<a.length;have:(b.length:Int)<a.length:=by omega
  simp[k,h,G,this];have z:¬(b.length:Int)<a.length:=by omega
  simp[k,h,G,z]
include ha in
theorem zGP:uS a b=some (zIP a b):=by
 unfold uS zIP;rw[yQC ha,zA,jQ];cases chk (fun _ (p:Int×Int)=>if p.1=p.2 then none else some (if p.1<p.2 then (-1:Int) else 1)) (a.zip b) 0 with
 | some y=>rfl
 | none=>
  simp only[];by_cases k:a.length<b.length;have:(a.length:Int)<b.length:=by omega
  simp[k,this];have h:¬(a.length:Int)<b.length:=by omega
  by_cases G:b.length<a.length;have:(b.length:Int)<a.length:=by omega
  simp[k,h,G,this];have z:¬(b.length:Int)<a.length:=by omega
  simp[k,h,G,z]
end
end Go.M
namespace Go.M
open Go.AV
structure Sm (c:Collation):Prop where
 en:c.Entries.length≤12
 gr:c.Groups.length≤8
 co:∀x∈c.Entries,x.Codes.length≤16
 el:∀x∈c.Entries,x.Elements.length≤20
theorem zKA {A Y:Type} {p:Nat→A→Option Y}:∀{l:List A} {k:Nat},chk p l k=none→∀j (h:j<l.length),p (k+j) l[j]=none
 | [],_,_,j,h=>by simp at h
 | x::xs,k,z,j,h=>by
  simp only[chk] at z;cases G:p k x with
  | some y=>rw[G] at z;cases z
  | none=>
   rw[G] at z;cases j with
   | zero=>simpa using G
   | succ j=>
    have:=zKA z j (by simp at h;omega)
    rw[show k+1+j=k+(j+1) by omega] at this;simpa using this
theorem zEL {A Y:Type} {p:Nat→A→Option Y} {P:Y→Prop} (G:∀k x y,p k x=some y→P y):∀{l:List A} {k:Nat} {y:Y},chk p l k=some y→P y
 | [],_,_,h=>by cases h
 | x::xs,k,y,h=>by
  simp only[chk] at h;cases z:p k x with
  | some H=>rw[z] at h;cases h;exact G _ _ _ z
  | none=>rw[z] at h;exact zEL G h
def pK (c:Collation) (k:Nat) (x:Entry):Option Int:=
 if enE x c.Base≠0 then some (enE x c.Base) else if 0<k∧0≤zIP (c.Entries.getD (k-1) default).Codes x.Codes then some 4 else none
def wOk (w:Int):Bool:=decide (1≤w)&&decide (w≤65535)
def ckE (c:Collation):Int:=
 if c.Base<1∨65502<c.Base∨wOk c.Second=false∨wOk c.Third=false then 1
 else if zZF c≠0 then zZF c
 else match chk (pK c) c.Entries 0 with
  | some y=>y
  | none=>0
section
variable {c:Collation} (hs:Sm c) (hn:∀g∈c.Groups,g.Name.length≤MX)
include hs
theorem kL0:zC (fun (v:Int)=>wS c v) 0=some (toS (chk (pK c) c.Entries 0)):=by
 refine j9 c.Entries _ (fun k h=>?_) (fun k h=>?_);have H:=List.getElem_mem h;have Z:=hs.en;simp only[wS,yI h,cond_true,zP h,zA,zH,yDQ (Nat.le_trans (hs.co _ H) (by omega)) (Nat.le_trans (hs.el _ H) (by omega)),zK (k:=k) (by omega),pK];by_cases G:enE c.Entries[k] c.Base=0;simp only[G,decide_true,Bool.not_true,cond_false,ne_eq,not_true,if_false];cases k with
 | zero=>simp[w8,zA,stp]
 | succ k=>
  have z:k<c.Entries.length:=by omega
  have O:wi (((k+1:Nat):Int)-1)=(k:Int):=zDA (by omega);have T:decide ((0:Int)<((k+1:Nat):Int))=true:=by simp
  have Y:c.Entries.getD (k+1-1) default=c.Entries[k]:=by simp[z]
  rw[T,j6,O,zP z,zA,j6,zUD (Nat.le_trans (hs.co _ (List.getElem_mem z)) (by omega)),zA,Y];by_cases hq:0≤zIP (c.Entries[k]).Codes (c.Entries[k+1]).Codes<;>simp[hq,stp]
 simp[G,stp];simp only[wS,kB h,cond_false]
theorem yAG {k:Nat} (h:k<c.Entries.length):zG3 c (k:Int)=some (match pK c k c.Entries[k] with | some y=>y | none=>0):=by
 have O:=List.getElem_mem h;have ac:=hs.en;have hc:=Nat.le_trans (hs.co _ O) (by omega:16≤2000);have H:=Nat.le_trans (hs.el _ O) (by omega:20≤2000);unfold zG3;simp only[zP h,zA,zH,szc,yOK,yOL];unfold pK enE;by_cases T:(c.Entries[k]).Codes.length<1∨8<(c.Entries[k]).Codes.length∨16<(c.Entries[k]).Elements.length
 ·simp only[T,decide_true,cond_true,if_true]
  rfl
 ·simp only[T,decide_false,cond_false,if_false]
  rw[eL0 hc,zA,jQ];cases h1:chk pV (c.Entries[k]).Codes 0 with
  | some y=>
   have z:y≠0:=zEL (P:=fun y=>y≠0) (fun k x y z=>by
      unfold pV at z;split at z
      ·first | (cases z;done) | (cases z;decide) | (cases z;assumption)
      ·first | (cases z;done) | (cases z;decide) | (cases z;assumption)) h1
   simp[z]
  | none=>
   simp only[];rw[yQB H,zA,jQ];cases h2:chk pE (c.Entries[k]).Elements 0 with
   | some y=>
    have z:y≠0:=zEL (P:=fun y=>y≠0) (fun k x y z=>by
      unfold pE at z;split at z
      ·first | (cases z;done) | (cases z;decide) | (cases z;assumption)
      ·first | (cases z;done) | (cases z;decide) | (cases z;assumption)) h2
    simp[z]
   | none=>
    simp only[];rw[eL2 H,zA,jQ];cases h3:chk (pP c.Base) (c.Entries[k]).Elements 0 with
    | some y=>
     have z:y≠0:=zEL (P:=fun y=>y≠0) (fun k x y z=>by
      unfold pP at z;split at z
      ·first | (cases z;done) | (cases z;decide) | (cases z;assumption)
      ·first | (cases z;done) | (cases z;decide) | (cases z;assumption)) h3
     simp[z]
    | none=>
     simp only[ne_eq,not_true,if_false];cases k with
     | zero=>simp[w8,zA]
     | succ k=>
      have G:k<c.Entries.length:=by omega
      have Y:wi (((k+1:Nat):Int)-1)=(k:Int):=zDA (by omega);have Z:decide ((0:Int)<((k+1:Nat):Int))=true:=by simp
      have e3:c.Entries.getD (k+1-1) default=c.Entries[k]:=by simp[G]
      rw[Z,j6,Y,zP G,zA,j6,zGP (Nat.le_trans (hs.co _ (List.getElem_mem G)) (by omega)),zA,e3];by_cases hq:0≤zIP (c.Entries[k]).Codes (c.Entries[k+1]).Codes<;>simp[hq]
theorem yQD:zC (fun (v:Int)=>zCA c v) 0=some (toS (chk (pK c) c.Entries 0)):=by
 refine j9 c.Entries _ (fun k h=>?_) (fun k h=>?_);have H:=hs.en;simp only[zCA,yI h,cond_true,yAG hs h,zA,zK (k:=k) (by omega)];have G:∀y,pK c k c.Entries[k]=some y→y≠0:=by
  intro y z;unfold pK at z;split at z;cases z;assumption;split at z;cases z;decide;cases z
 cases O:pK c k c.Entries[k] with
 | some y=>simp[G y O,stp]
 | none=>simp[stp]
 simp only[zCA,kB h,cond_false]
omit hs in
theorem isW (w:Int):zAF w=some (wOk w):=rfl
omit hs in
theorem yQE (w:Int):zE8 w=some (wOk w):=rfl
include hn in
theorem z2L:uI c=some (ckE c):=by unfold uI ckE;simp only[zH,isW];by_cases h:c.Base<1;simp[h,w8,zA];by_cases k:65502<c.Base;simp[h,k,w8,zA];by_cases z:wOk c.Second=false;simp[h,k,z,j6,w8,zA];by_cases G:wOk c.Third=false;simp[h,k,z,G,j6,zA];simp only[Bool.not_eq_false] at z G;simp only[h,k,z,G,decide_false,Bool.or_self,Bool.not_false,j6,zA,Bool.not_true,cond_false,or_self,Bool.true_eq_false,if_false];rw[yAF (Nat.le_trans hs.gr (by omega)) hn,zA];by_cases H:zZF c=0;simp only[H,decide_true,Bool.not_true,cond_false,ne_eq,not_true,if_false];rw[kL0 hs,zA,jQ];cases chk (pK c) c.Entries 0<;>rfl;simp[H]
include hn in
theorem zRM:zEY c=some (ckE c):=by unfold zEY ckE;simp only[zH,yQE];by_cases h:c.Base<1;simp[h,w8,zA];by_cases k:65502<c.Base;simp[h,k,w8,zA];by_cases z:wOk c.Second=false;simp[h,k,z,j6,w8,zA];by_cases G:wOk c.Third=false;simp[h,k,z,G,j6,zA];simp only[Bool.not_eq_false] at z G;simp only[h,k,z,G,decide_false,Bool.or_self,Bool.not_false,j6,zA,Bool.not_true,cond_false,or_self,Bool.true_eq_false,if_false];rw[zZG (Nat.le_trans hs.gr (by omega)) hn,zA];by_cases H:zZF c=0;simp only[H,decide_true,Bool.not_true,cond_false,ne_eq,not_true,if_false];rw[yQD hs,zA,jQ];cases chk (pK c) c.Entries 0<;>rfl;simp[H]
end
theorem yH6 {c:Collation} (h:zME c):∀g∈c.Groups,g.Name.length≤MX:=fun g k=>(h.2.1.2 g k).1
end Go.M
namespace Go.M
open Go.AV
def lx:List Int→List Int→Prop
 | [],[]=>False
 | [],_::_=>True
 | _::_,[]=>False
 | x::a,y::b=>x<y∨(x=y∧lx a b)
theorem zUE:∀{a b c:List Int},lx a b→lx b c→lx a c
 | [],[],_,h,_=>h.elim
 | [],_::_,[],_,h=>h.elim
 | [],_::_,_::_,_,_=>trivial
 | _::_,[],_,h,_=>h.elim
 | _::_,_::_,[],_,h=>h.elim
 | x::a,y::b,z::c,G,k=>by
  rcases G with G | ⟨rfl,G⟩;rcases k with k | ⟨rfl,_⟩;exact .inl (by omega);exact .inl G;rcases k with k | ⟨rfl,k⟩;exact .inl k;exact .inr ⟨rfl,zUE G k⟩
theorem zXG:∀{a:List Int},¬lx a a
 | [],h=>h
 | x::a,h=>by
  rcases h with h | ⟨_,h⟩;omega;exact zXG h
def pC (_:Nat) (p:Int×Int):Option Int:=if p.1=p.2 then none else some (if p.1<p.2 then (-1:Int) else 1)
def zUF (a b:List Int) (k:Nat):Int:=match chk pC (a.zip b) k with
 | some y=>y
 | none=>if a.length<b.length then -1 else if b.length<a.length then 1 else 0
theorem zKB:∀(a b:List Int) (k:Nat),(zUF a b k<0↔lx a b)∧(zUF a b k=0↔a=b)
 | [],[],k=>by simp[zUF,chk,lx]
 | [],y::b,k=>by simp[zUF,chk,lx]
 | x::a,[],k=>by simp[zUF,chk,lx]
 | x::a,y::b,k=>by
  have O:=zKB a b (k+1);by_cases h:x=y
  ·subst h
   have z:zUF (x::a) (x::b) k=zUF a b (k+1):=by
    simp only[zUF,List.zip_cons_cons,chk,pC,if_true,List.length_cons];cases chk pC (a.zip b) (k+1) with
    | some y=>rfl
    | none=>
     simp only[];by_cases G:a.length<b.length
     ·simp[G]
     ·by_cases T:b.length<a.length<;>simp[G,T]
   rw[z];refine⟨O.1.trans ?_,O.2.trans ?_⟩
   ·simp[lx]
   ·simp
  ·have z:zUF (x::a) (y::b) k=if x<y then -1 else 1:=by
    simp only[zUF,List.zip_cons_cons,chk,pC,h,if_false]
   rw[z];by_cases H:x<y
   ·simp[H,lx,h]
   ·simp[H,lx,h]
theorem zZI (a b:List Int):zIP a b=zUF a b 0:=rfl
def zQY (a:List Int):A9Int:={x0:=a.length,x1:=cpA a 0 0,x2:=cpA a 1 0,x3:=cpA a 2 0,x4:=cpA a 3 0,x5:=cpA a 4 0,x6:=cpA a 5 0,x7:=cpA a 6 0,x8:=cpA a 7 0}
theorem z2M (a:List Int):zCR a=some (zQY a):=rfl
theorem yDR {a b:List Int} (ha:a.length≤8) (h:zQY a=zQY b):a=b:=by
 unfold zQY at h;simp only[A9Int.mk.injEq] at h;obtain⟨G,H,O,T,Y,Z,h6,h7,h8⟩:=h;have G:a.length=b.length:=by omega
 apply List.ext_getElem G;intro i hi k;have key:∀j,j<a.length→cpA a j 0=cpA b j 0→a.getD j 0=b.getD j 0:=fun j _ h=>by simpa[cpA,List.getD_eq_getElem?_getD] using h
 have:a.getD i 0=b.getD i 0:=by
  have z:i<8:=by omega
  match i,z with
  | 0,_=>exact key 0 hi H
  | 1,_=>exact key 1 hi O
  | 2,_=>exact key 2 hi T
  | 3,_=>exact key 3 hi Y
  | 4,_=>exact key 4 hi Z
  | 5,_=>exact key 5 hi h6
  | 6,_=>exact key 6 hi h7
  | 7,_=>exact key 7 hi h8
 simpa[List.getD_eq_getElem?_getD,hi,k] using this
def yG (c:Collation):Collation:=if ckE c=0 then c else {Entries:=[],Groups:=[],Base:=64448,Second:=32,Third:=2}
def yAH (es:List Entry) (m:List (A9Int×List Element)):List (A9Int×List Element):=es.foldl (fun m x=>zAQ m (zQY x.Codes) x.Elements) m
def zPO (es:List Entry) (n:Int):Int:=es.foldl (fun n x=>max n (x.Codes.length:Int)) n
def zQZ (c:Collation):Colltable_table:={c:=yG c,entries:=yAH (yG c).Entries [],longest:=zPO (yG c).Entries 0,classes:=[],top:=0}
theorem zXH (y:(List Entry)×(List Group)×Int×Int×Int) (O:y.1.length≤2000):∀(n k:Nat) (m:List (A9Int×List Element)) (q:Int),y.1.length-k=n→
  zC (fun (x:Int×(List (A9Int×(List Element)))×Int)=>xM y x.1 x.2.1 x.2.2) ((k:Int),m,q)=some (yAH (y.1.drop k) m,zPO (y.1.drop k) q):=by
 intro n
 induction n with
 | zero=>
  intro k m q G;have z:y.1.length≤k:=by omega
  rw[jO,List.drop_of_length_le z];simp only[xM,kB z,cond_false];rfl
 | succ n H=>
  intro k m q G;have h:k<y.1.length:=by omega
  rw[jO,List.drop_eq_getElem_cons h];simp only[xM,yI h,cond_true,zP h,zA,z2M,zK (k:=k) (by omega)];exact H (k+1) _ _ (by omega)
theorem yH7 {c:Collation} (k:Sm c) (O:∀g∈c.Groups,g.Name.length≤MX):zDI c=some (zQZ c):=by
 unfold zDI;have H:uI {Entries:=c.Entries,Groups:=c.Groups,Base:=c.Base,Second:=c.Second,Third:=c.Third}=some (ckE c):=z2L k O;rw[H,zA];unfold zQZ yG;have G:=k.en;by_cases z:ckE c=0;simp only[z,decide_true,Bool.not_true,cond_false,if_true,zA];have:=zXH (c.Entries,c.Groups,c.Base,c.Second,c.Third) (by show c.Entries.length≤2000;omega) c.Entries.length 0 [] 0 (by show c.Entries.length-0=_;omega)
 have h:zC (fun (x:Int×(List (A9Int×(List Element)))×Int)=>xM (c.Entries,c.Groups,c.Base,c.Second,c.Third) x.1 x.2.1 x.2.2) (0,[],0)=some (yAH c.Entries [],zPO c.Entries 0):=by simpa using this
 rw[h];rfl;simp only[z,decide_false,Bool.not_false,cond_true,if_false,zA];have:=zXH (([]:List Entry),([]:List Group),64448,32,2) (by simp) 0 0 [] 0 (by simp);have h:zC (fun (x:Int×(List (A9Int×(List Element)))×Int)=>xM (([]:List Entry),([]:List Group),64448,32,2) x.1 x.2.1 x.2.2) (0,[],0)=some (yAH [] [],zPO [] 0):=by simpa using this
 rw[h];rfl
structure Vd (es:List Entry):Prop where
 lo:∀x∈es,1≤x.Codes.length
 hi:∀x∈es,x.Codes.length≤8
 el:∀x∈es,x.Elements.length≤20
 ne:es.Pairwise fun x y=>x.Codes≠y.Codes
theorem z5L {c:Collation} (hs:Sm c):Vd (yG c).Entries:=by
 unfold yG;by_cases z:ckE c=0;simp only[z,if_true];have hk:chk (pK c) c.Entries 0=none:=by
  unfold ckE at z;split at z;cases z;split at z;rename_i hg;exact absurd z hg;cases hc:chk (pK c) c.Entries 0 with
  | none=>rfl
  | some y=>
   rw[hc] at z;have G:y≠0:=zEL (P:=fun y=>y≠0) (fun k x y G=>by
    unfold pK at G;split at G;cases G;assumption;split at G;cases G;decide;cases G) hc
   exact absurd z G
 have hn:=zKA hk;have H:∀j (h:j<c.Entries.length),enE c.Entries[j] c.Base=0∧(0<j→lx (c.Entries.getD (j-1) default).Codes (c.Entries[j]).Codes):=by
  intro j h;have:=hn j h;rw[Nat.zero_add] at this;unfold pK at this;split at this;cases this;rename_i h1;split at this;cases this;rename_i Z;refine⟨by simpa using h1,fun O=>?_⟩;have h3:¬0≤zIP (c.Entries.getD (j-1) default).Codes (c.Entries[j]).Codes:=fun h=>Z ⟨O,h⟩;exact((zKB _ _ 0).1).1 (by rw[←zZI];omega)
 have Y:∀j (h:j<c.Entries.length),1≤(c.Entries[j]).Codes.length∧(c.Entries[j]).Codes.length≤8:=by
  intro j h;have:=(H j h).1;unfold enE at this;split at this;cases this;omega
 have ab:∀n i (h:i+n+1<c.Entries.length),lx (c.Entries[i]).Codes (c.Entries[i+n+1]).Codes:=by
  intro n
  induction n with
  | zero=>
   intro i h;have:=(H (i+1) (by omega)).2 (by omega);have T:c.Entries.getD (i+1-1) default=c.Entries[i]:=by
    have:i<c.Entries.length:=by omega
    simp[this]
   rw[T] at this;exact this
  | succ n ih=>
   intro i h;have h1:=ih i (by omega);have Z:=(H (i+(n+1)+1) (by omega)).2 (by omega);have T:c.Entries.getD (i+(n+1)+1-1) default=c.Entries[i+n+1]:=by
    have:i+n+1<c.Entries.length:=by omega
    rw[show i+(n+1)+1-1=i+n+1 by omega];simp[this]
   rw[T] at Z;exact zUE h1 Z
 refine⟨fun x hx=>?_,fun x hx=>?_,hs.el,?_⟩;obtain⟨j,O,rfl⟩:=List.getElem_of_mem hx;exact(Y j O).1;obtain⟨j,O,rfl⟩:=List.getElem_of_mem hx;exact(Y j O).2;rw[List.pairwise_iff_getElem];intro i j hi O ai he;have:=ab (j-i-1) i (by omega);have T:i+(j-i-1)+1=j:=by omega
 simp only[T] at this;rw[he] at this;exact zXG this;simp only[z,if_false];exact⟨by simp,by simp,by simp,by simp⟩
theorem x9 {H O:Type} [DecidableEq H] (m:List (H×O)) (k z: H) (v: O):mget (zAQ m k v) z=if z=k then some v else mget m z:=by
 induction m with
 | nil=>simp only[zAQ,mget]
 | cons p m T=>
  obtain⟨q,u⟩:=p;simp only[zAQ];by_cases G:k=q;subst G;simp only[if_true,mget];by_cases h:z=k<;>simp[h];simp only[G,if_false,mget];by_cases h:z=q;subst h;have:¬z=k:=fun e=>G e.symm;simp[this];simp only[h,if_false];exact T
theorem z63 (codes:List Int) (H:codes.length≤8):∀(es:List Entry) (m:List (A9Int×List Element)),(∀x∈es,x.Codes.length≤8)→es.Pairwise (fun x y=>x.Codes≠y.Codes)→
  mget (yAH es m) (zQY codes)=match es.find? (fun x=>decide (x.Codes=codes)) with | some x=>some x.Elements | none=>mget m (zQY codes)
 | [],m,_,_=>rfl
 | x::es,m,O,z=>by
  rw[List.pairwise_cons] at z;have Y:=z63 codes H es (zAQ m (zQY x.Codes) x.Elements) (fun y G=>O y (by simp[G])) z.2;show mget (yAH es (zAQ m (zQY x.Codes) x.Elements)) (zQY codes)=_;rw[Y,x9];by_cases h:x.Codes=codes
  ·have k:es.find? (fun x=>decide (x.Codes=codes))=none:=by
    rw[List.find?_eq_none];intro y G;have:=z.1 y G;simp only[decide_eq_true_eq];intro e;exact this (h.trans e.symm)
   simp[k,h]
  ·have T:¬zQY codes=zQY x.Codes:=fun e=>h (yDR H e).symm
   simp[h,T]
theorem zZJ:∀(es:List Entry) (n:Int),n≤zPO es n∧∀x∈es,(x.Codes.length:Int)≤zPO es n
 | [],n=>⟨by show n≤n;omega,by simp⟩
 | x::es,n=>by
  have h:=zZJ es (max n (x.Codes.length:Int));show n≤zPO es (max n (x.Codes.length:Int))∧∀y∈x::es,(y.Codes.length:Int)≤zPO es (max n (x.Codes.length:Int));refine⟨by omega,fun y hy=>?_⟩;rcases List.mem_cons.1 hy with rfl | hy
  omega;exact h.2 y hy
theorem yDS:∀(es:List Entry) (n:Int),(∀x∈es,x.Codes.length≤8)→n≤8→zPO es n≤8
 | [],n,_,h=>h
 | x::es,n,k,h=>yDS es (max n (x.Codes.length:Int)) (fun y z=>k y (by simp[z])) (by have:=k x (by simp);omega)
def zCV (es:List Entry) (codes:List Int):List Element×Bool:=match es.find? (fun x=>decide (x.Codes=codes)) with
 | some x=>(x.Elements,true)
 | none=>([],false)
theorem yH8 {c:Collation} (hs:Sm c) {codes:List Int}:jJ (zQZ c) codes=some (zCV (yG c).Entries codes):=by
 have z:=z5L hs;unfold jJ;simp only[zH,z2M,zA];have k:=zZJ (yG c).Entries 0;have ac:=yDS (yG c).Entries 0 z.hi (by omega);by_cases H:codes.length=0∨zPO (yG c).Entries 0<(codes.length:Int)
 ·have G:(decide ((codes.length:Int)=0) ||decide ((zQZ c).longest<(codes.length:Int)))=true:=by
   simp only[Bool.or_eq_true,decide_eq_true_eq];rcases H with h | h
   ·left;omega
   ·right;exact h
  rw[G,cond_true];have T:(yG c).Entries.find? (fun x=>decide (x.Codes=codes))=none:=by
   rw[List.find?_eq_none];intro x Y;simp only[decide_eq_true_eq];intro e;have Z:=z.lo x Y;have h2:=k.2 x Y;rw[e] at Z h2;rcases H with h | h<;>omega
  simp only[zCV,T]
 ·have G:(decide ((codes.length:Int)=0) ||decide ((zQZ c).longest<(codes.length:Int)))=false:=by
   simp only[Bool.or_eq_false_iff,decide_eq_false_iff_not];refine⟨by omega,fun h=>H (.inr h)⟩
  rw[G,cond_false];have hg:=z63 codes (by omega) (yG c).Entries [] z.hi z.ne;have O:mget (zQZ c).entries (zQY codes)=match (yG c).Entries.find? (fun x=>decide (x.Codes=codes)) with | some x=>some x.Elements | none=>none:=hg
  simp only[zAN,zCO,O,zCV];cases (yG c).Entries.find? (fun x=>decide (x.Codes=codes))<;>rfl
end Go.M
namespace Go.M
open Go.AV
theorem yL4 {k:Type} {l:List k} (h:l.length≤2000):app [] l=some l:=by
 rw[k7 (by simp;omega)]
 rfl
theorem zUG {c:Collation} (k:Sm c) (h:∀g∈c.Groups,g.Name.length≤MX):zF1 c=some (yG c):=by unfold zF1 yG;rw[zRM k h,zA];by_cases z:ckE c=0<;>simp[z]
theorem zPP {a b:List Int} (h:a.length≤4611686018427387904):uT a b=some (decide (a=b)):=by unfold uT;rw[zGP h,zA,zZI];congr 1;rw[Bool.eq_iff_iff];simp only[decide_eq_true_eq];exact(zKB a b 0).2
theorem z2N (codes:List Int):∀(es:List Entry) (k:Nat),chk (fun _ (x:Entry)=>if x.Codes=codes then some (true,x.Elements) else none) es k=(es.find? (fun x=>decide (x.Codes=codes))).map fun x=>(true,x.Elements)
 | [],_=>rfl
 | x::es,k=>by
  simp only[chk,List.find?_cons];by_cases h:x.Codes=codes;simp[h];simp only[h,if_false,decide_false];exact z2N codes es (k+1)
theorem z5M {es:List Entry} (H:Vd es) (Y:es.length≤2000) {d:Collation} (T:d.Entries=es) (codes:List Int):zDO d codes=some (zCV es codes):=by
 have z:zC (fun (v:Int)=>zC1 d codes v) 0=some (toS (chk (fun _ (x:Entry)=>if x.Codes=codes then some (true,x.Elements) else none) es 0)):=by
  subst T;refine j9 d.Entries _ (fun k h=>?_) (fun k h=>?_);have O:=List.getElem_mem h;have e8:=H.hi _ O;simp only[zC1,yI h,cond_true,zP h,zA,zPP (Nat.le_trans e8 (by omega)),zK (k:=k) (by omega)];by_cases G:(d.Entries[k]).Codes=codes;rw[yL4 (Nat.le_trans (H.el _ O) (by omega))];simp[G,stp,zA];simp[G,stp];simp only[zC1,kB h,cond_false]
 unfold zDO zCV;rw[z,zA,jQ,z2N];cases es.find? (fun x=>decide (x.Codes=codes))<;>rfl
theorem yH9 {c:Collation} (k:Sm c):(yG c).Entries.length≤2000:=by unfold yG;have:=k.en;by_cases h:ckE c=0;simp only[h,if_true];omega;simp[h]
theorem yIA {es:List Entry} (k:Vd es) (codes:List Int):(zCV es codes).1.length≤2000:=by
 unfold zCV;cases h:es.find? (fun x=>decide (x.Codes=codes)) with
 | none=>simp
 | some x=>exact Nat.le_trans (k.el x (List.mem_of_find?_eq_some h)) (by omega)
def zPQ (d:Collation) (h:Int):List Element:=if vld h=true then
 [({Primary:=wi (d.Base+wi (h.tdiv 32768)),Secondary:=d.Second,Tertiary:=d.Third,Variable:=false}:Element),({Primary:=wi (32768+h.tmod 32768),Secondary:=0,Tertiary:=0,Variable:=false}:Element)] else []
theorem z2O (c:Collation) (h:Int):jV (zQZ c) h=some (zPQ (yG c) h):=by unfold jV zPQ;rw[zPN,zA];cases vld h<;>simp[zIX,zD3,zQZ]
theorem zMM {c:Collation} (z:Sm c) (k:∀g∈c.Groups,g.Name.length≤MX) (h:Int):zDP c h=some (zPQ (yG c) h):=by unfold zDP zPQ;rw[zE0,zA,zUG z k];cases vld h<;>simp[zIX,zD3]
theorem yIB (d:Collation) (h:Int):(zPQ d h).length≤2000:=by unfold zPQ;cases vld h<;>simp
end Go.M
namespace Go.M
open Go.AV
def nth {h:Type} [Inhabited h] (l:List h) (k:Nat): h:=l.getD k default
theorem z1 {z:Type} [Inhabited z] {l:List z} {k:Nat} (h:k<l.length):z7 l (k:Int)=some (nth l k):=by rw[zP h];simp[nth,h]
theorem wL {z:Type} [Inhabited z] {l:List z} {k:Nat} (h:k<l.length):nth l k∈l:=by simp[nth,h]
theorem zCC {z:Type} [Inhabited z] {l:List z} {k:Nat} (h:k<l.length):nth l k=l[k]:=by simp[nth,h]
theorem zDB {G:Type} [Inhabited G] {l:List G} {p: G→Prop}:(∀k,k<l.length→p (nth l k))↔∀x∈l,p x:=by
 constructor;intro h x H;obtain⟨k,z,rfl⟩:=List.getElem_of_mem H;have:=h k z
 rwa [zCC z] at this
 intro h k z;exact h _ (wL z)
def Ver (m:Option Int) (p:Prop):Prop:= ∃e,m=some e∧(e=0↔p)
theorem z2P {Y:Type} {body:Int→Option (Stp Int (Unit⊕Y))} (N:Nat) (P:Nat→Prop) (Q:Y→Prop) (s:Nat)
  (hb:∀k,s≤k→k<N→(P k∧body (k:Int)=some (.next ((k+1:Nat):Int)))∨(¬P k∧∃y,Q y∧body (k:Int)=some (.done (.inr y))))
  (he:∀k,N≤k→body (k:Int)=some (.done (.inl ()))):
  ∀(n k:Nat),N-k=n→s≤k→(zC body (k:Int)=some (.inl ())∧∀j,k≤j→j<N→P j)∨(∃y,Q y∧zC body (k:Int)=some (.inr y)∧¬∀j,k≤j→j<N→P j):=by
 intro n
 induction n with
 | zero=>
  intro k hk _;refine .inl ⟨zF (he k (by omega)),fun j G H=>by omega⟩
 | succ n ih=>
  intro k hk hs;rcases hb k hs (by omega) with ⟨Z,h⟩ | ⟨Z,y,hy,h⟩
  ·rw[zJ h]
   rcases ih (k+1) (by omega) (by omega) with ⟨G,H⟩ | ⟨y,hy,G,H⟩
   ·refine .inl ⟨G,fun j T z=>?_⟩
    by_cases e:j=k
    ·subst e;exact Z
    ·exact H j (by omega) z
   ·exact .inr ⟨y,hy,G,fun O=>H fun j T z=>O j (by omega) z⟩
  ·exact .inr ⟨y,hy,zF h,fun O=>Z (O k (Nat.le_refl _) (by omega))⟩
theorem zAR {X Y:Type} {P:Prop} {b:Bool} {k:X} {y:Y} {Q:Y→Prop} (hb:b=true↔¬P) (G:Q y):(P∧(cond b (some (Stp.done (Sum.inr y))) (some (.next k)):Option (Stp X (Unit⊕Y)))=some (.next k))∨(¬P∧∃z,Q z∧(cond b (some (Stp.done (Sum.inr y))) (some (.next k)):Option (Stp X (Unit⊕Y)))=some (.done (.inr z))):=by
 cases b with
 | true=>exact .inr ⟨hb.1 rfl,y,G,rfl⟩
 | false=>exact .inl ⟨Classical.byContradiction (fun h=>Bool.noConfusion (hb.2 h)),rfl⟩
theorem k9 {Y:Type} {body:Int→Option (Stp Int (Unit⊕Y))} (N:Nat) (P:Nat→Prop) (Q:Y→Prop)
  (hb:∀k,k<N→(P k∧body (k:Int)=some (.next ((k+1:Nat):Int)))∨(¬P k∧∃y,Q y∧body (k:Int)=some (.done (.inr y))))
  (O:∀k,N≤k→body (k:Int)=some (.done (.inl ()))):
  (zC body 0=some (.inl ())∧∀j,j<N→P j)∨(∃y,Q y∧zC body 0=some (.inr y)∧¬∀j,j<N→P j):=by
 rcases z2P N P Q 0 (fun k _ h=>hb k h) O N 0 (by omega) (by omega) with ⟨z,G⟩ | ⟨y,Z,z,G⟩
 ·exact .inl ⟨z,fun j H=>G j (by omega) H⟩
 ·exact .inr ⟨y,Z,z,fun T=>G fun j _ H=>T j H⟩
theorem zM3 {Y:Type} {body:Int→Option (Stp Int (Unit⊕Y))} (N:Nat) (P:Nat→Prop) (Q:Y→Prop)
  (hb:∀k,k+1<N→(P k∧body ((k+1:Nat):Int)=some (.next ((k+2:Nat):Int)))∨(¬P k∧∃y,Q y∧body ((k+1:Nat):Int)=some (.done (.inr y))))
  (H:∀k,N≤k→body (k:Int)=some (.done (.inl ()))):
  (zC body 1=some (.inl ())∧∀j,j+1<N→P j)∨(∃y,Q y∧zC body 1=some (.inr y)∧¬∀j,j+1<N→P j):=by
 have:=z2P N (fun k=>P (k-1)) Q 1 (fun k z h=>by
  cases k with
  | zero=>omega
  | succ k=>exact hb k h) H (N-1) 1 (by omega) (by omega)
 rcases this with ⟨z,h⟩ | ⟨y,hy,z,h⟩
 ·exact .inl ⟨z,fun j T=>h (j+1) (by omega) T⟩
 ·refine .inr ⟨y,hy,z,fun O=>h fun j Z G=>?_⟩
  cases j with
  | zero=>omega
  | succ j=>exact O j G
def spOk (s:Span):Prop:=0≤s.Lo∧s.Hi≤1114111∧s.Lo≤s.Hi∧1≤s.Value∧s.Value≤254
def adOk (a b:Span):Prop:=a.Hi<b.Lo∧¬(b.Lo=a.Hi+1∧b.Value=a.Value)
def hgOk (s:Span):Prop:= ¬(s.Lo≤4370∧4352≤s.Hi)∧¬(s.Lo≤4469∧4449≤s.Hi)∧¬(s.Lo≤4546∧4520≤s.Hi)∧¬(s.Lo≤55203∧44032≤s.Hi)
structure CV (l:List Span):Prop where
 sp:∀k,k<l.length→spOk (nth l k)
 ad:∀k,k+1<l.length→adOk (nth l k) (nth l (k+1))
 hg:∀k,k<l.length→hgOk (nth l k)
theorem yOM (s:Span):(zC (fun (x:Int)=>xN ({x0:=({Lo:=4352,Hi:=4370}:Range),x1:=({Lo:=4449,Hi:=4469}:Range),x2:=({Lo:=4520,Hi:=4546}:Range),x3:=({Lo:=44032,Hi:=55203}:Range)}:A4Range) s x) 0=some (.inl ())∧hgOk s)∨(zC (fun (x:Int)=>xN ({x0:=({Lo:=4352,Hi:=4370}:Range),x1:=({Lo:=4449,Hi:=4469}:Range),x2:=({Lo:=4520,Hi:=4546}:Range),x3:=({Lo:=44032,Hi:=55203}:Range)}:A4Range) s x) 0=some (.inr 11)∧¬hgOk s):=by
 have h:=k9 (body:=fun (x:Int)=>xN ({x0:=({Lo:=4352,Hi:=4370}:Range),x1:=({Lo:=4449,Hi:=4469}:Range),x2:=({Lo:=4520,Hi:=4546}:Range),x3:=({Lo:=44032,Hi:=55203}:Range)}:A4Range) s x) 4
  (fun k=> ¬(s.Lo≤(nth [({Lo:=4352,Hi:=4370}:Range),{Lo:=4449,Hi:=4469},{Lo:=4520,Hi:=4546},{Lo:=44032,Hi:=55203}] k).Hi∧(nth [({Lo:=4352,Hi:=4370}:Range),{Lo:=4449,Hi:=4469},{Lo:=4520,Hi:=4546},{Lo:=44032,Hi:=55203}] k).Lo≤s.Hi)) (fun y=>y=11) (fun k O=>?_) (fun k O=>?_)
 ·have e:(∀j,j<4→¬(s.Lo≤(nth [({Lo:=4352,Hi:=4370}:Range),{Lo:=4449,Hi:=4469},{Lo:=4520,Hi:=4546},{Lo:=44032,Hi:=55203}] j).Hi∧(nth [({Lo:=4352,Hi:=4370}:Range),{Lo:=4449,Hi:=4469},{Lo:=4520,Hi:=4546},{Lo:=44032,Hi:=55203}] j).Lo≤s.Hi))↔hgOk s:=by
   unfold hgOk;constructor
   ·intro h;exact⟨h 0 (by omega),h 1 (by omega),h 2 (by omega),h 3 (by omega)⟩
   ·rintro⟨T,z,G,Y⟩ j Z
    match j,Z with
    | 0,_=>exact T
    | 1,_=>exact z
    | 2,_=>exact G
    | 3,_=>exact Y
  rw[e] at h;rcases h with h | ⟨y,rfl,h⟩
  ·exact .inl h
  ·exact .inr h
 ·have hi:z7 [({Lo:=4352,Hi:=4370}:Range),{Lo:=4449,Hi:=4469},{Lo:=4520,Hi:=4546},{Lo:=44032,Hi:=55203}] (k:Int)=some (nth [({Lo:=4352,Hi:=4370}:Range),{Lo:=4449,Hi:=4469},{Lo:=4520,Hi:=4546},{Lo:=44032,Hi:=55203}] k):=z1 (by simpa using O)
  have H:decide ((k:Int)<4)=true:=by simp;omega
  simp only[xN,H,cond_true,hi,zA,zH,zK (k:=k) (by omega)];generalize nth [({Lo:=4352,Hi:=4370}:Range),{Lo:=4449,Hi:=4469},{Lo:=4520,Hi:=4546},{Lo:=44032,Hi:=55203}] k=q;by_cases z:s.Lo≤q.Hi<;>by_cases G:q.Lo≤s.Hi<;>simp[z,G]
 ·have H:decide ((k:Int)<4)=false:=by simp;omega
  simp only[xN,H,cond_false]
theorem z2Q {l:List Span} (hl:l.length≤2000) (ah:∀x∈l,okSpan x):Ver (zBS l) (CV l):=by
 have Y:=k9 (body:=fun (x:Int)=>vZ l x) l.length (fun k=>spOk (nth l k)) (fun y=>y≠0) (fun k z=>by
  simp only[vZ,yI z,cond_true,z1 z,zA,zH,zK (k:=k) (by omega),spOk];generalize nth l k=q;by_cases H:q.Lo<0<;>by_cases O:1114111<q.Hi<;>by_cases h3:q.Hi<q.Lo<;>by_cases h4:q.Value<1<;>by_cases h5:254<q.Value<;>simp[H,O,h3,h4,h5]<;>omega) (fun k z=>by simp only[vZ,kB z,cond_false])
 unfold zBS Ver;rcases Y with ⟨Y,T⟩ | ⟨y,Z,Y,T⟩
 rw[Y];simp only[zA,Sum.elim_inl];have H:=zM3 (body:=fun (x:Int)=>uA l x) l.length (fun k=>adOk (nth l k) (nth l (k+1))) (fun y=>y≠0) (fun k z=>by
  have G:k<l.length:=by omega
  have w:=(T k G).2.1;have w0:=(T k G).1;have w1:=(T k G).2.2.1;simp only[uA,yI z,cond_true,z1 z,zA,zH,zK (k:=k+1) (by omega),zDA (k:=k) (by omega),z1 G,adOk];rw[kQ (n:=(nth l k).Hi+1) (by omega) (by omega)];generalize nth l k=q at*;generalize nth l (k+1)=q' at*;exact zAR (by simp only[Bool.or_eq_true,Bool.and_eq_true,decide_eq_true_eq];omega) (by decide)) (fun k z=>by simp only[uA,kB z,cond_false])
 rcases H with ⟨H,p1⟩ | ⟨y,Z,H,p1⟩;rw[H];simp only[zA,Sum.elim_inl];have O:=k9 (body:=fun (x:Int)=>uB l x) l.length (fun k=>hgOk (nth l k)) (fun y=>y≠0) (fun k z=>by
  simp only[uB,yI z,cond_true,z1 z,zA,zH,zK (k:=k) (by omega)];rcases yOM (nth l k) with ⟨h,p⟩ | ⟨h,p⟩
  rw[h];exact .inl ⟨p,rfl⟩;rw[h];exact .inr ⟨p,11,by decide,rfl⟩) (fun k z=>by simp only[uB,kB z,cond_false])
 rcases O with ⟨O,p2⟩ | ⟨y,Z,O,p2⟩;rw[O];exact⟨0,rfl,by simp only[true_iff];exact⟨T,p1,p2⟩⟩
 rw[O];exact⟨y,rfl,by simp only[Z,false_iff];exact fun h=>p2 h.hg⟩
 rw[H];exact⟨y,rfl,by simp only[Z,false_iff];exact fun h=>p1 h.ad⟩
 rw[Y];exact⟨y,rfl,by simp only[Z,false_iff];exact fun h=>T h.sp⟩
end Go.M
namespace Go.M
open Go.AV
theorem yDU:∀(x y:Str),Op.bytesLess x y=decide (x<y)
 | [],[]=>by simp[Op.bytesLess]
 | _::_,[]=>by simp[Op.bytesLess]
 | [],_::_=>by simp[Op.bytesLess]
 | a::x,b::y=>by
  rw[Op.bytesLess,yDU x y];rw[Bool.eq_iff_iff];simp[List.cons_lt_cons_iff]
theorem z5N (s:Str) (z:s.length≤MX):zC (fun (x:Int)=>uC s x) 0=some (toS (chk (fun _ (b:UInt8)=>if zGC (b.toNat:Int) then none else some false) s 0)):=by
 refine j9 s _ (fun k h=>?_) (fun k h=>?_);simp only[uC,yI h,cond_true,z2K h,zA,zH,zK (k:=k) (by unfold MX at z;omega)]
 have e:(((!(decide ((65:Int)≤(s[k].toNat:Int))&&decide ((s[k].toNat:Int)≤90) ||decide ((97:Int)≤(s[k].toNat:Int))&&decide ((s[k].toNat:Int)≤122)))&& !(decide ((48:Int)≤(s[k].toNat:Int))&&decide ((s[k].toNat:Int)≤57)))&& !decide ((s[k].toNat:Int)=95))= !zGC (s[k].toNat:Int):=by
  unfold zGC;generalize (decide ((65:Int)≤(s[k].toNat:Int))&&decide ((s[k].toNat:Int)≤90) ||decide ((97:Int)≤(s[k].toNat:Int))&&decide ((s[k].toNat:Int)≤122))=A;generalize (decide ((48:Int)≤(s[k].toNat:Int))&&decide ((s[k].toNat:Int)≤57))=B;generalize decide ((s[k].toNat:Int)=95)=C;cases A<;>cases B<;>cases C<;>rfl
 rw[e];cases zGC (s[k].toNat:Int)<;>rfl;simp only[uC,kB h,cond_false]
theorem yDV {s:Str} (O:s.length≤MX):zDJ s=some (zML s):=by
 unfold zDJ;rw[zH];cases s with
 | nil=>rfl
 | cons x l=>
  have G:((x::l:Str)== [])=false:=rfl;rw[G,Bool.false_or];by_cases z:32<(x::l).length
  ·
   have:decide ((32:Int)<((x::l).length:Int))=true:=by simp at z ⊢;omega
   rw[this,cond_true];unfold zML;cases H:chk (fun _ (b:UInt8)=>if zGC (b.toNat:Int) then none else some false) (x::l) 0 with
   | none=>
    have:decide ((x::l).length≤32)=false:=by simp at z ⊢;omega
    simp only[this,Bool.and_false]
   | some y=>
    have:y=false:=zEL (P:=fun y=>y=false) (fun k b y h=>by split at h<;>simp_all) H
    simp[this]
  ·
   have:decide ((32:Int)<((x::l).length:Int))=false:=by simp at z ⊢;omega
   rw[this,cond_false,z5N _ O,zA,jQ];unfold zML;cases chk (fun _ (b:UInt8)=>if zGC (b.toNat:Int) then none else some false) (x::l) 0 with
   | none=>simp at z ⊢;omega
   | some y=>rfl
def codesOk (m:Mapping):Prop:=vld m.From=true∧∀c∈m.To,vld c=true
def tagOk (m:Mapping):Prop:=m.Tag= []∨zML m.Tag=true
def mlt (a b:Mapping):Prop:=a.From<b.From∨(a.From=b.From∧a.Tag<b.Tag)
structure MV (l:List Mapping):Prop where
 co:∀m∈l,codesOk m
 sz:∀m∈l,m.To.length≤64
 tg:∀m∈l,tagOk m
 lt:∀k,k+1<l.length→mlt (nth l k) (nth l (k+1))
theorem yDW {body:Int→Option (Stp Int (Unit⊕Int))} {P:Prop} (h:(zC body 0=some (.inl ())∧P)∨(∃y,y≠0∧zC body 0=some (.inr y)∧¬P)) {f:Unit→Option Int} {R:Prop} (z:P→Ver (f ()) R) (k:R→P):
  Ver ((zC body 0).bind fun y=>y.elim f fun y=>some y) R:=by
 rcases h with ⟨h,p⟩ | ⟨y,G,h,p⟩
 ·rw[h];exact z p
 ·rw[h];exact⟨y,rfl,by simp only[G,false_iff];exact fun r=>p (k r)⟩
section
variable {l:List Mapping} (hl:l.length≤2000) (hto:∀m∈l,m.To.length≤2000) (htg:∀m∈l,m.Tag.length≤MX)
include hl hto htg
theorem yDX:Ver (zD9 l) ((∀m∈l,codesOk m)∧(∀m∈l,m.To.length≤64)∧∀m∈l,tagOk m):=by
 unfold zD9;refine yDW (P:= ∀m∈l,codesOk m) ?_ (fun Z=>?_) (fun r=>r.1)
 ·have h:=k9 (body:=fun (x:Int)=>u0 l x) l.length (fun k=>codesOk (nth l k)) (fun y=>y≠0) (fun k z=>?_) (fun k z=>by simp only[u0,kB z,cond_false])
  ·rw[zDB (p:=codesOk)] at h;exact h
  ·simp only[u0,yI z,cond_true,z1 z,zA,zPN,zK (k:=k) (by omega)]
   by_cases H:vld (nth l k).From=true
   ·have G:=k9 (body:=fun (x:Int)=>uZ (nth l k) x) (nth l k).To.length (fun j=>vld (nth (nth l k).To j)=true) (fun y=>y≠0) (fun j O=>by
     simp only[uZ,yI O,cond_true,z1 O,zA,zPN,zK (k:=j) (by have:=hto _ (wL z);omega)]
     exact zAR (by simp) (by decide)) (fun j O=>by simp only[uZ,kB O,cond_false])
    rw[zDB (p:=fun c=>vld c=true)] at G;simp only[H,Bool.not_true,cond_false];rcases G with ⟨G,p⟩ | ⟨y,Y,G,p⟩
    ·rw[G];exact .inl ⟨⟨H,p⟩,rfl⟩
    ·rw[G];exact .inr ⟨fun q=>p q.2,y,Y,rfl⟩
   ·simp only[Bool.not_eq_true] at H
    simp only[H,Bool.not_false,cond_true];exact .inr ⟨fun q=>(by rw[q.1] at H;cases H),1,by decide,rfl⟩
 ·refine yDW (P:= ∀m∈l,m.To.length≤64) ?_ (fun p1=>?_) (fun r=>r.2.1)
  ·have h:=k9 (body:=fun (x:Int)=>u2 l x) l.length (fun k=>(nth l k).To.length≤64) (fun y=>y≠0) (fun k z=>by
    simp only[u2,yI z,cond_true,z1 z,zA,zK (k:=k) (by omega)];exact zAR (by simp only[decide_eq_true_eq];omega) (by decide)) (fun k z=>by simp only[u2,kB z,cond_false])
   rw[zDB (p:=fun (m:Mapping)=>m.To.length≤64)] at h;exact h
  ·refine yDW (P:= ∀m∈l,tagOk m) ?_ (fun p2=>⟨0,rfl,by simp only[true_iff];exact⟨Z,p1,p2⟩⟩) (fun r=>r.2.2)
   have h:=k9 (body:=fun (x:Int)=>u3 l x) l.length (fun k=>tagOk (nth l k)) (fun y=>y≠0) (fun k z=>by
    simp only[u3,yI z,cond_true,z1 z,zA,zH,zK (k:=k) (by omega),tagOk];have hb:((nth l k).Tag== [])=decide ((nth l k).Tag= []):=by cases (nth l k).Tag<;>rfl
    rw[hb];by_cases T:(nth l k).Tag= []
    ·simp only[T,decide_true,Bool.not_true,w8,zA,Bool.false_and,cond_false]
     exact .inl ⟨.inl trivial,trivial⟩
    ·simp only[T,decide_false,Bool.not_false,j6,yDV (htg _ (wL z)),zA,Bool.true_and,false_or]
     exact zAR (by simp) (by decide)) (fun k z=>by simp only[u3,kB z,cond_false])
   rw[zDB (p:=tagOk)] at h;exact h
omit hl hto htg in
theorem yKI (a b:Int):zFV [a,b]=some (if a=0 then b else a):=by have k:decide ((0:Int)<(([a,b]:List Int).length:Int))=true:=rfl;have z:decide ((1:Int)<(([a,b]:List Int).length:Int))=true:=rfl;have G:decide ((2:Int)<(([a,b]:List Int).length:Int))=false:=rfl;unfold zFV;rw[jO];simp only[zCX,k,cond_true,yDO,zA];by_cases h:a=0;subst h;simp only[decide_true,Bool.not_true,cond_false,if_true];have H:wi (0+1)=1:=kQ (by omega) (by omega);rw[H,jO];simp only[zCX,z,cond_true];have:z7 ([0,b]:List Int) 1=some b:=rfl;rw[this];simp only[zA];by_cases hb:b=0;subst hb;simp only[decide_true,Bool.not_true,cond_false];have O:wi (1+1)=2:=kQ (by omega) (by omega);rw[O,jO];simp only[zCX,G,cond_false];rfl;simp[hb];simp[h]
omit hl hto htg in
theorem yQF (x y:Str):zAG x y=some (if x<y then -1 else if y<x then 1 else 0):=by
 unfold zAG zBT;simp only[zA,beq_self_eq_true,Bool.not_true,cond_false,yDU];by_cases h:x<y
 ·simp[h]
 ·by_cases z:x=y
  ·subst z;simp[h]
  ·have k:y<x:=by
    by_cases k:y<x
    ·exact k
    ·exact absurd (List.le_antisymm (List.not_lt.1 k) (List.not_lt.1 h)) z
   have hb:(x==y)=false:=by simpa using z
   simp[h,k,hb]
omit hl hto htg in
theorem yQG (a b:Mapping):∃e,zCS a b=some e∧(0≤e↔¬mlt a b):=by
 unfold zCS;simp only[cmpI,yQF,zA,yKI];refine⟨_,rfl,?_⟩;unfold mlt;by_cases h:a.From<b.From;simp[h];by_cases z:b.From<a.From;have:¬a.From=b.From:=by omega
 simp[h,z,this];have:a.From=b.From:=by omega
 by_cases k:a.Tag<b.Tag;simp[this,k];by_cases G:b.Tag<a.Tag<;>simp[this,k,G]
omit hto htg in
theorem yIC:∀(n k:Nat) (b:Bool),l.length-k=n→1≤k→∃r,zC (fun (x:Bool×Int)=>wT l x.1 x.2) (b,(k:Int))=some r∧(r=true↔b=true∧∀j,k≤j+1→j+1<l.length→mlt (nth l j) (nth l (j+1))):=by
 intro n
 induction n with
 | zero=>
  intro k b hk Z;refine⟨b,?_,?_⟩;rw[jO];simp only[wT,kB (show l.length≤k by omega),cond_false];exact⟨fun h=>⟨h,fun j O G=>by omega⟩,fun h=>h.1⟩
 | succ n ih=>
  intro k b hk Z;obtain⟨k,rfl⟩:∃k',k=k'+1:=⟨k-1,by omega⟩;have z:k+1<l.length:=by omega
  obtain⟨e,he,T⟩:=yQG (nth l k) (nth l (k+1));obtain⟨r,hr,hq⟩:=ih (k+2) (cond (decide (0≤e)) false b) (by omega) (by omega);refine⟨r,?_,?_⟩;rw[jO];simp only[wT,yI z,cond_true,zDA (k:=k) (by omega),z1 (show k<l.length by omega),z1 z,zA,he,zK (k:=k+1) (by omega)];rw[←hr];cases decide (0≤e)<;>rfl;rw[hq];by_cases H:mlt (nth l k) (nth l (k+1));have:decide (0≤e)=false:=by simp only[decide_eq_false_iff_not];exact fun h=>T.1 h H
  rw[this,cond_false];constructor
  rintro⟨a,c⟩
  refine⟨a,fun j O G=>?_⟩;by_cases Y:j=k;subst Y;exact H;exact c j (by omega) G
  rintro⟨a,c⟩;exact⟨a,fun j O G=>c j (by omega) G⟩
  have:decide (0≤e)=true:=by simp only[decide_eq_true_eq];exact T.2 H
  rw[this,cond_true];constructor
  rintro⟨a,_⟩;cases a
  rintro⟨_,c⟩;exact absurd (c k (by omega) z) H
omit hto htg in
theorem yL5:∀(n k:Nat) (m:List (Mapping_key×Bool)),l.length-k=n→∃r,zC (fun (x:Int×(List (Mapping_key×Bool)))=>wU l x.1 x.2) ((k:Int),m)=some r∧(r= .inl ()∨r= .inr 5):=by
 intro n
 induction n with
 | zero=>
  intro k m z;refine⟨.inl (),?_,.inl rfl⟩;rw[jO];simp only[wU,kB (show l.length≤k by omega),cond_false]
 | succ n G=>
  intro k m z;have h:k<l.length:=by omega
  rw[jO];simp only[wU,yI h,cond_true,z1 h,zA,zEA,zK (k:=k) (by omega)];cases zAN m ({from_:=(nth l k).From,tag:=(nth l k).Tag}:Mapping_key) false with
  | true=>exact⟨.inr 5,rfl,.inr rfl⟩
  | false=>exact G (k+1) _ (by omega)
theorem yL6:Ver (zEB l) (MV l):=by
 obtain⟨e,he,Y⟩:=yDX hl hto htg;unfold zEB;rw[he,zA];by_cases H:e=0;subst H;simp only[decide_true,Bool.not_true,cond_false];obtain⟨p0,p1,p2⟩:=Y.1 rfl;obtain⟨r,O,Z⟩:=yIC hl (l.length-1) 1 true rfl (by omega);have z:zC (fun (x:Bool×Int)=>wT l x.1 x.2) (true,1)=some r:=O;rw[z,zA];cases r with
 | true=>exact⟨0,rfl,by simp only[true_iff];exact⟨p0,p1,p2,fun k hk=>(Z.1 rfl).2 k (by omega) hk⟩⟩
 | false=>
  have G:¬MV l:=fun h=>by have:=Z.2 ⟨rfl,fun j _ hj=>h.lt j hj⟩;cases this
  obtain⟨r,O,T⟩:=yL5 hl l.length 0 [] (by omega);have z:zC (fun (x:Int×(List (Mapping_key×Bool)))=>wU l x.1 x.2) (0,[])=some r:=O;simp only[cond_false];rw[z,zA];rcases T with rfl | rfl;exact⟨4,rfl,by simp only[show ((4:Int)=0)=False by simp,false_iff];exact G⟩
  exact⟨5,rfl,by simp only[show ((5:Int)=0)=False by simp,false_iff];exact G⟩
 have:(!decide (e=0))=true:=by simp[H]
 rw[this,cond_true];exact⟨e,rfl,by simp only[H,false_iff];exact fun h=>H (Y.2 ⟨h.co,h.sz,h.tg⟩)⟩
end
end Go.M
namespace Go.M
open Go.AV
section
variable {α:Type} (lt: α→α→Bool)
def vW:List α→α→List α→List α
 | [],x,s=>x::s
 | y::r,x,s=>if lt x y then vW r x (y::s) else (y::r).reverse++x::s
def uW (l:List α) (p:List α):List α:=l.foldl (fun p x=>vW lt p.reverse x []) p
theorem z2R:∀(r:List α) (x: α) (s t:List α),vW lt r x (s++t)=vW lt r x s++t
 | [],x,s,t=>rfl
 | y::r,x,s,t=>by
  unfold vW;split;exact z2R r x (y::s) t;simp
theorem zQ0:∀(r:List α) (x: α) (s:List α),(vW lt r x s).Perm (r.reverse++x::s)
 | [],x,s=> .refl _
 | y::r,x,s=>by
  unfold vW;split
  ·
   refine(zQ0 r x (y::s)).trans ?_;simp only[List.reverse_cons,List.append_assoc,List.singleton_append];exact List.Perm.append_left _ (List.Perm.swap y x s)
  · exact .refl _
theorem zUH (r:List α) (x: α) (s:List α):(vW lt r x s).length=r.length+1+s.length:=by rw[(zQ0 lt r x s).length_eq];simp;omega
theorem zKZ:∀(l p:List α),(uW lt l p).Perm (p++l)
 | [],p=>by simp[uW]
 | x::l,p=>by
  have h:=zKZ l (vW lt p.reverse x []);refine h.trans ?_;have k:=zQ0 lt p.reverse x [];rw[List.reverse_reverse] at k;have z:=List.Perm.append_right l k;simpa using z
variable (tr:∀a b c,lt b a=false→lt c b=false→lt c a=false) (asy:∀a b,lt a b=true→lt b a=false)
abbrev LeB (a b: α):Prop:=lt b a=false
include tr asy
theorem zRN:∀(r:List α) (x: α) (s:List α),(r.reverse++s).Pairwise (LeB lt)→(∀y∈s,LeB lt x y)→(vW lt r x s).Pairwise (LeB lt)
 | [],x,s,h,O=>by simpa[vW] using ⟨O,h⟩
 | y::r,x,s,h,O=>by
  unfold vW;split;rename_i G;refine zRN r x (y::s) (by simpa using h) ?_;intro z hz;rcases List.mem_cons.1 hz with rfl | hz
  exact asy _ _ G;exact O z hz;rename_i G;have H:LeB lt y x:=by simpa using G
  rw[List.pairwise_append] at h ⊢;refine⟨h.1,List.pairwise_cons.2 ⟨O,h.2.1⟩,?_⟩;intro a ha b hb;have k:LeB lt a y∨a=y:=by
   have T:=h.1;rw[List.reverse_cons,List.pairwise_append] at T;rw[List.reverse_cons,List.mem_append] at ha;rcases ha with ha | ha
   exact .inl (T.2.2 a ha y (by simp));exact .inr (by simpa using ha)
  rcases List.mem_cons.1 hb with rfl | hb;rcases k with k | rfl;exact tr _ _ _ k H;exact H;exact h.2.2 a ha b hb
theorem zK0:∀(l p:List α),p.Pairwise (LeB lt)→(uW lt l p).Pairwise (LeB lt)
 | [],p,h=>h
 | x::l,p,h=>zK0 l _ (zRN lt tr asy p.reverse x [] (by simpa using h) (by simp))
omit tr asy in
theorem z2S:∀(l p:List α),(p++l).Pairwise (LeB lt)→uW lt l p=p++l
 | [],p,_=>by simp[uW]
 | x::l,p,h=>by
  have e:vW lt p.reverse x []=p++ [x]:=by
   cases z:p.reverse with
   | nil=>
    have:p= []:=by simpa using z
    subst this;rfl
   | cons y r=>
    unfold vW;have k:p=r.reverse++ [y]:=by have:=congrArg List.reverse z;simpa using this
    have:lt x y=false:=by
     rw[k,List.pairwise_append] at h;exact h.2.2 y (by simp) x (by simp)
    rw[this];simp[k]
  show uW lt l (vW lt p.reverse x [])=_;rw[e,z2S l (p++ [x]) (by simpa using h)];simp
end
def rlt (a b:Range):Bool:=decide (a.Lo<b.Lo) ||(decide (a.Lo=b.Lo)&&decide (a.Hi<b.Hi))
theorem yQH (a b:Range):∃e,zA5 a b=some e∧(e<0↔rlt a b=true):=by
 unfold zA5;simp only[cmpI,zA,yKI];refine⟨_,rfl,?_⟩;unfold rlt;by_cases h:a.Lo<b.Lo;simp[h];by_cases z:b.Lo<a.Lo;have:¬a.Lo=b.Lo:=by omega
 simp[h,z,this];have:a.Lo=b.Lo:=by omega
 by_cases k:a.Hi<b.Hi;simp[this,k];by_cases G:b.Hi<a.Hi<;>simp[this,k,G]
theorem wH {z:Type} {p s:List z} {x: z} {k:Nat} (h:k=p.length):z7 (p++x::s) (k:Int)=some x:=by subst h;rw[zP (by simp)];simp
theorem uP {z:Type} {p s:List z} {x y: z} {k:Nat} (h:k=p.length):uQ (p++x::s) (k:Int) y=some (p++y::s):=by subst h;rw[zEK (by simp)];simp
section
variable {f:Range→Range→Option Int} {lt:Range→Range→Bool} (hf:∀a b,∃e,f a b=some e∧(e<0↔lt a b=true))
include hf
theorem yKJ:∀(r:List Range) (x:Range) (s:List Range),r.length≤2000→zC (fun (q:Int×List Range)=>yN 0 f q.1 q.2) ((r.length:Int),r.reverse++x::s)=some (vW lt r x s)
 | [],x,s,_=>by
  rw[jO];simp only[yN,List.length_nil,zH];have:decide ((0:Int)<((0:Nat):Int))=false:=rfl;rw[this];simp[w8,vW]
 | y::r,x,s,Z=>by
  simp only[List.length_cons] at Z ⊢;have O:decide ((0:Int)<((r.length+1:Nat):Int))=true:=by simp<;>omega
  have Y:(y::r).reverse++x::s=r.reverse++y::(x::s):=by simp
  have hw:wi (((r.length+1:Nat):Int)-1)=(r.length:Int):=zDA (by omega);have i1:z7 ((y::r).reverse++x::s) ((r.length+1:Nat):Int)=some x:=wH (by simp);have i0:z7 ((y::r).reverse++x::s) (r.length:Int)=some y:=by rw[Y];exact wH (by simp)
  obtain⟨e,T,H⟩:=hf x y;rw[jO];simp only[yN,O,zH,j6,i1,hw,i0,zA,T,Bool.true_and];unfold vW;by_cases G:lt x y=true;have k:decide (e<0)=true:=by simpa using H.2 G
  have s1:uQ ((y::r).reverse++x::s) ((r.length+1:Nat):Int) y=some ((y::r).reverse++y::s):=uP (by simp);have z:(y::r).reverse++y::s=r.reverse++y::(y::s):=by simp
  have i2:z7 ((y::r).reverse++y::s) (r.length:Int)=some y:=by rw[z];exact wH (by simp)
  have s2:uQ ((y::r).reverse++y::s) (r.length:Int) x=some (r.reverse++x::(y::s)):=by rw[z];exact uP (by simp)
  simp only[k,cond_true,s1,zA,i2,s2,G,if_true];exact yKJ r x (y::s) (by omega);have k:decide (e<0)=false:=by simp only[decide_eq_false_iff_not];exact fun h=>G (H.1 h)
  simp only[k,cond_false,G];rfl
theorem yDY:∀(l p:List Range),1≤p.length→p.length+l.length≤2000→zC (fun (q:Int×List Range)=>yB ((p.length+l.length:Nat):Int) 0 f q.1 q.2) ((p.length:Int),p++l)=some (uW lt l p)
 | [],p,_,_=>by
  rw[jO];simp only[yB,List.length_nil,Nat.add_zero,kB (Nat.le_refl _),cond_false,List.append_nil];rfl
 | x::l,p,T,O=>by
  simp only[List.length_cons] at O ⊢;have h:=yKJ hf p.reverse x l (by simp;omega)
  rw[List.length_reverse,List.reverse_reverse] at h;rw[jO];simp only[yB,yI (show p.length<p.length+(l.length+1) by omega),cond_true];rw[h,zA];have G:vW lt p.reverse x l=vW lt p.reverse x []++l:=by
   have:=z2R lt p.reverse x [] l;simpa using this
  have k:(vW lt p.reverse x []).length=p.length+1:=by rw[zUH];simp
  have z:=yDY l (vW lt p.reverse x []) (by omega) (by omega);rw[k] at z;have H:((p.length+1+l.length:Nat):Int)=((p.length+(l.length+1):Nat):Int):=by congr 1;omega
  rw[H] at z;rw[G,zK (by omega)];exact z
theorem yID (l:List Range) (h:l.length≤2000):kO l 0 (l.length:Int) f=some (uW lt l []):=by
 unfold kO;have z:wi (0+1)=((1:Nat):Int):=kQ (by omega) (by omega);rw[z];cases l with
 | nil=>
  rw[jO];simp only[yB,kB (show ([]:List Range).length≤1 by simp),cond_false];rfl
 | cons x l=>
  have:=yDY hf l [x] (by simp) (by simp at h ⊢;omega)
  have e:((([x]:List Range).length+l.length:Nat):Int)=((x::l).length:Int):=by simp;omega
  rw[e] at this;have k:(([x]:List Range).length:Int)=((1:Nat):Int):=rfl;rw[k] at this;rw[show ([x]++l:List Range)=x::l from rfl] at this;rw[this];rfl
end
theorem yIE:∀n:Fin 13,∃e,zEC (wu ((n.val:Nat):Int))=some e:=by
 intro n;have:∀n:Fin 13,(zEC (wu ((n.val:Nat):Int))).isSome=true:=by decide
 exact Option.isSome_iff_exists.1 (this n)
theorem yIF {l:List Range} (h:l.length≤12):kX l (fun a b=>zA5 a b)=some (uW rlt l []):=by
 unfold kX xA;obtain⟨e,z⟩:=yIE ⟨l.length,by omega⟩;rw[z,zA];have hb:kH (l.length:Int) 0 l (fun a b=>zA5 a b) e=some (.done (uW rlt l [])):=by
  unfold kH;have G:wi ((l.length:Int)-0)=(l.length:Int):=kQ (by omega) (by omega);have k:decide ((l.length:Int)≤12)=true:=by simp;omega
  rw[G,k,cond_true,yID (lt:=rlt) yQH l (by omega)];rfl
 rw[zF (body:=fun (_:Unit)=>kH (l.length:Int) 0 l (fun a b=>zA5 a b) e) hb];rfl
theorem yL7 (a b c:Range) (h:rlt b a=false) (k:rlt c b=false):rlt c a=false:=by unfold rlt at*;simp only[Bool.or_eq_false_iff,Bool.and_eq_false_iff,decide_eq_false_iff_not] at*;omega
theorem yIG (a b:Range) (h:rlt a b=true):rlt b a=false:=by unfold rlt at*;simp only[Bool.or_eq_false_iff,Bool.and_eq_false_iff,decide_eq_false_iff_not,Bool.or_eq_true,Bool.and_eq_true,decide_eq_true_eq] at*;omega
end Go.M
namespace Go.M
open Go.AV
def zCM (r:Range):Prop:=0≤r.Lo∧r.Lo≤r.Hi∧r.Hi≤1114111
def Can:List Range→Prop
 | []=>True
 | [r]=>zCM r
 | r::q::l=>zCM r∧r.Hi+1<q.Lo∧Can (q::l)
theorem Can.head {r:Range} {l:List Range} (h:Can (r::l)):zCM r:=by
 cases l with
 | nil=>exact h
 | cons q l=>exact h.1
theorem Can.tail {r:Range} {l:List Range} (h:Can (r::l)):Can l:=by
 cases l with
 | nil=>trivial
 | cons q l=>exact h.2.2
theorem Can.ok:∀{l:List Range},Can l→∀r∈l,zCM r
 | [],_,r,k=>by cases k
 | q::l,h,r,k=>by
  rcases List.mem_cons.1 k with rfl | k;exact h.head;exact Can.ok h.tail r k
theorem Can.gap:∀{l:List Range} {r:Range},Can (r::l)→∀q∈l,r.Hi+1<q.Lo
 | [],_,_,q,k=>by cases k
 | a::l,r,h,q,k=>by
  rcases List.mem_cons.1 k with rfl | k;exact h.2.1;have G:=Can.gap h.2.2 q k;have z:=(h.2.2.head);have H:=h.2.1;unfold zCM at z;omega
theorem Can.sorted:∀{l:List Range},Can l→l.Pairwise (LeB rlt)
 | [],_=> .nil
 | r::l,h=>by
  refine List.pairwise_cons.2 ⟨fun q z=>?_,Can.sorted h.tail⟩;have G:=Can.gap h q z;have k:=h.head;unfold zCM at k;unfold LeB rlt;simp only[Bool.or_eq_false_iff,Bool.and_eq_false_iff,decide_eq_false_iff_not];omega
def zZK (r:Range):Range:={Lo:=max r.Lo 0,Hi:=min r.Hi 1114111}
def zE1 (l:List Range):List Range:=(l.map zZK).filter fun r=>decide (r.Lo≤r.Hi)
theorem zUI (x:Range) (l:List Range):zE1 (x::l)=(if (zZK x).Lo≤(zZK x).Hi then [zZK x] else [])++zE1 l:=by unfold zE1;rw[List.map_cons,List.filter_cons];by_cases h:(zZK x).Lo≤(zZK x).Hi<;>simp[h]
theorem z2T (x:Range) (l:List Range):zE1 (x::l)=(if max x.Lo 0≤min x.Hi 1114111 then [({Lo:=max x.Lo 0,Hi:=min x.Hi 1114111}:Range)] else [])++zE1 l:=zUI x l
theorem z2U (l:List Range):∀r∈zE1 l,zCM r:=by intro r k;unfold zE1 at k;rw[List.mem_filter,List.mem_map] at k;obtain⟨⟨q,_,rfl⟩,h⟩:=k;simp only[decide_eq_true_eq] at h;unfold zZK at h ⊢;unfold zCM;simp only at h ⊢;omega
theorem yDZ {l:List Range} (h:∀r∈l,zCM r):zE1 l=l:=by
 induction l with
 | nil=>rfl
 | cons x l G=>
  have k:=h x (by simp);have:zZK x=x:=by
   unfold zCM at k;unfold zZK;cases x;simp only[Range.mk.injEq] at k ⊢;omega
  rw[zUI,this,if_pos k.2.1,G fun r z=>h r (by simp[z])];rfl
theorem zXI (l:List Range):(zE1 l).length≤l.length:=by unfold zE1;exact Nat.le_trans (List.length_filter_le _ _) (by simp)
theorem yQI {l:List Range} (Y:l.length≤2000):∀(n k:Nat) (o:List Range),l.length-k=n→k≤l.length→o.length≤k→zC (fun (x:Int×(List Range))=>zBF l x.1 x.2) ((k:Int),o)=some (o++zE1 (l.drop k)):=by
 intro n
 induction n with
 | zero=>
  intro k o H O T;rw[jO];simp only[zBF,kB (show l.length≤k by omega),cond_false];rw[List.drop_of_length_le (by omega)];simp[zE1]
 | succ n G=>
  intro k o H O T;have h:k<l.length:=by omega
  rw[jO];simp only[zBF,yI h,cond_true,zP h,zA,zK (k:=k) (by omega)];rw[List.drop_eq_getElem_cons h,z2T];by_cases z:max l[k].Lo 0≤min l[k].Hi 1114111;simp only[z,decide_true,cond_true,if_true];rw[k7 (by simp;omega)]
  simp only[zA];have:=G (k+1) (o++ [({Lo:=max l[k].Lo 0,Hi:=min l[k].Hi 1114111}:Range)]) (by omega) (by omega) (by simp;omega)
  rw[List.append_assoc] at this;exact this;simp only[z,decide_false,cond_false,if_false,zA,List.nil_append];exact G (k+1) o (by omega) (by omega) (by omega)
def mrg:List Range→Range→List Range
 | [],r=>[r]
 | q::l,r=>if r.Lo≤q.Hi+1 then {q with Hi:=max q.Hi r.Hi}::l else r::q::l
theorem zKC (q:Range) (l:List Range) (r:Range):mrg (q::l) r=if r.Lo≤q.Hi+1 then {q with Hi:=max q.Hi r.Hi}::l else r::q::l:=rfl
theorem yIH (o:List Range) (r:Range):(mrg o r).length≤o.length+1:=by
 cases o with
 | nil=>simp[mrg]
 | cons q l=>rw[zKC];split<;>simp
theorem yL8 {o:List Range} {r:Range} (h:∀q∈o,zCM q) (k:zCM r):∀q∈mrg o r,zCM q:=by
 cases o with
 | nil=>simpa[mrg] using k
 | cons q l=>
  intro x hx;have z:=h q (by simp);unfold zCM at z k;rw[zKC] at hx;split at hx;rcases List.mem_cons.1 hx with rfl | hx
  unfold zCM;simp only;omega;exact h x (by simp[hx]);rcases List.mem_cons.1 hx with rfl | hx
  exact k;exact h x hx
theorem yQJ {t:List Range} (ht:t.length≤2000) (O:∀r∈t,zCM r):∀(n k:Nat) (o:List Range),t.length-k=n→k≤t.length→o.length≤k→(∀r∈o,zCM r)→zC (fun (x:Int×(List Range))=>zBG t x.1 x.2) ((k:Int),o.reverse)=some ((t.drop k).foldl mrg o).reverse:=by
 intro n
 induction n with
 | zero=>
  intro k o h1 h2 Y H;rw[jO];simp only[zBG,kB (show t.length≤k by omega),cond_false];rw[List.drop_of_length_le (by omega)];rfl
 | succ n ih=>
  intro k o h1 h2 Y H;have h:k<t.length:=by omega
  have hr:=O _ (List.getElem_mem h);rw[List.drop_eq_getElem_cons h,List.foldl_cons];rw[←ih (k+1) (mrg o t[k]) (by omega) (by omega) (by have:=yIH o t[k];omega) (yL8 H hr)]
  rw[jO];simp only[zBG,yI h,cond_true,zP h,zA,zH,zK (k:=k) (by omega)];cases o with
  | nil=>
   have G:decide ((0:Int)<((([]:List Range).reverse).length:Int))=false:=rfl;simp only[G,w8,zA,Bool.false_and,cond_false];rw[k7 (by simp)];rfl
  | cons q l=>
   have hq:=H q (by simp);unfold zCM at hq;have z:((q::l).reverse).length=l.length+1:=by simp
   simp only[List.length_cons] at Y;have G:decide ((0:Int)<(((q::l).reverse).length:Int))=true:=by rw[z];simp<;>omega
   have e1:wi ((((q::l).reverse).length:Int)-1)=(l.length:Int):=by rw[z];exact zDA (by omega)
   have T:(q::l).reverse=l.reverse++q:: []:=by simp
   have i1:z7 (q::l).reverse (l.length:Int)=some q:=by rw[T];exact wH (by simp)
   have e3:wi (q.Hi+1)=q.Hi+1:=kQ (by omega) (by omega);simp only[G,e1,i1,j6,zA,Bool.true_and,e3];rw[zKC];by_cases Z:t[k].Lo≤q.Hi+1;simp only[Z,decide_true,cond_true,if_true];have s1:uQ (q::l).reverse (l.length:Int) ({q with Hi:=max q.Hi t[k].Hi})=some (({q with Hi:=max q.Hi t[k].Hi}::l).reverse):=by
    rw[T,uP (by simp)];simp
   rw[s1];rfl;simp only[Z,decide_false,cond_false,if_false];rw[k7 (by simp;omega)]
   simp only[zA];congr 2;simp
def mkE (l:List Range):List Range:=((uW rlt (zE1 l) []).foldl mrg []).reverse
theorem yII {l:List Range} (O:l.length≤12):zID l=some {Ranges:=mkE l}:=by
 unfold zID;have G:=yQI (l:=l) (by omega) l.length 0 [] (by omega) (by omega) (by simp);simp only[List.drop_zero,List.nil_append] at G;have h:zC (fun (x:Int×(List Range))=>zBF l x.1 x.2) (0,[])=some (zE1 l):=G;rw[h,zA,yIF (Nat.le_trans (zXI l) O),zA];have z:=zKZ rlt (zE1 l) [];simp only[List.nil_append] at z;have H:=yQJ (t:=uW rlt (zE1 l) []) (by rw[z.length_eq];have:=zXI l;omega) (fun r T=>z2U l r (z.mem_iff.1 T)) (uW rlt (zE1 l) []).length 0 [] (by omega) (by omega) (by simp) (by simp)
 simp only[List.drop_zero] at H;have k:zC (fun (x:Int×(List Range))=>zBG (uW rlt (zE1 l) []) x.1 x.2) (0,[])=some (mkE l):=H;rw[k];rfl
def CanR:List Range→Prop
 | []=>True
 | [r]=>zCM r
 | r::q::l=>zCM r∧q.Hi+1<r.Lo∧CanR (q::l)
theorem CanR.tail {r:Range} {l:List Range} (h:CanR (r::l)):CanR l:=by
 cases l with
 | nil=>trivial
 | cons q l=>exact h.2.2
theorem CanR.head {r:Range} {l:List Range} (h:CanR (r::l)):zCM r:=by
 cases l with
 | nil=>exact h
 | cons q l=>exact h.1
theorem zZL:∀(r l:List Range),CanR r→Can l→(∀x y,r.head? =some x→l.head? =some y→x.Hi+1<y.Lo)→Can (r.reverse++l)
 | [],l,_,h,_=>h
 | x::r,l,k,H,G=>by
  have:=zZL r (x::l) k.tail (by
   cases l with
   | nil=>exact k.head
   | cons y l=>exact⟨k.head,G x y rfl rfl,H⟩) (fun a b z hb=>by
    cases r with
    | nil=>cases z
    | cons q r=>simp only[List.head?_cons,Option.some.injEq] at z hb;subst z;subst hb;exact k.2.1)
  simpa using this
theorem z64:∀(t o:List Range),t.Pairwise (LeB rlt)→(∀r∈t,zCM r)→CanR o→(∀q r,o.head? =some q→r∈t→q.Lo≤r.Lo)→CanR (t.foldl mrg o)
 | [],o,_,_,h,_=>h
 | r::t,o,hs,O,Z,H=>by
  have Y:=List.pairwise_cons.1 hs;have hr:=O r (by simp);have T:∀x∈t,r.Lo≤x.Lo:=fun x G=>by
   have:=Y.1 x G;unfold LeB rlt at this;simp only[Bool.or_eq_false_iff,decide_eq_false_iff_not] at this;omega
  rw[List.foldl_cons];refine z64 t (mrg o r) Y.2 (fun x G=>O x (by simp[G])) ?_ ?_;cases o with
  | nil=>exact hr
  | cons q l=>
   have hq:=Z.head;have ad:=H q r rfl (by simp);rw[zKC];split;rename_i hc;unfold zCM at hq hr;cases l with
   | nil=>show zCM _;unfold zCM;simp only;omega
   | cons z l=>exact⟨by unfold zCM;simp only;omega,Z.2.1,Z.2.2⟩
   rename_i hc;exact⟨hr,by omega,Z⟩
  intro q' x k G;cases o with
  | nil=>simp only[mrg,List.head?_cons,Option.some.injEq] at k;subst k;exact T x G
  | cons q l=>
   rw[zKC] at k;split at k;simp only[List.head?_cons,Option.some.injEq] at k;subst k;exact H q x rfl (by simp[G]);simp only[List.head?_cons,Option.some.injEq] at k;subst k;exact T x G
theorem yIJ (l:List Range):Can (mkE l):=by have k:=zKZ rlt (zE1 l) [];simp only[List.nil_append] at k;have h:=z64 (uW rlt (zE1 l) []) [] (zK0 rlt yL7 yIG _ _ .nil) (fun r z=>z2U l r (k.mem_iff.1 z)) trivial (fun _ _ h=>by cases h);have:=zZL _ [] h trivial (fun _ _ _ h=>by cases h);simpa[mkE] using this
theorem yD0:∀(t o:List Range),Can (o.reverse++t)→t.foldl mrg o=t.reverse++o
 | [],o,_=>by simp
 | r::t,o,h=>by
  rw[List.foldl_cons];have e:mrg o r=r::o:=by
   cases o with
   | nil=>rfl
   | cons q l=>
    rw[zKC];have:Can (q::r::t):=by
     have k:Can (l.reverse++(q::r::t)):=by simpa using h
     clear h;generalize l.reverse=z at k
     induction z with
     | nil=>exact k
     | cons a z G=>exact G k.tail
    have:=this.2.1;rw[if_neg (by omega)]
  rw[e,yD0 t (r::o) (by simpa using h)];simp
theorem yL9 {l:List Range} (h:Can l):mkE l=l:=by unfold mkE;rw[yDZ h.ok,z2S rlt l [] (by simpa using h.sorted)];simp only[List.nil_append];rw[yD0 l [] (by simpa using h)];simp
theorem yIK (l:List Range):mkE l=l↔Can l:=⟨fun h=>h▸yIJ l,yL9⟩
theorem yD1 {s:Set} (Z:s.Ranges.length≤12):∃b,zGW s=some b∧(b=true↔Can s.Ranges):=by
 unfold zGW;rw[yII Z,zA,←yIK];by_cases z:(mkE s.Ranges).length=s.Ranges.length;have H:(!decide (((mkE s.Ranges).length:Int)=(s.Ranges.length:Int)))=false:=by simp[z]
 simp only[H,cond_false];have h:=k9 (body:=fun (x:Int)=>zBU {Ranges:=mkE s.Ranges} s x) (mkE s.Ranges).length (fun k=>nth (mkE s.Ranges) k=nth s.Ranges k) (fun y=>y=false) (fun k G=>by
  have O:k<s.Ranges.length:=by omega
  simp only[zBU,yI G,cond_true,z1 G,z1 O,zA,zK (k:=k) (by omega)];exact zAR (by simp) rfl) (fun k G=>by simp only[zBU,kB G,cond_false])
 have e:(∀j,j<(mkE s.Ranges).length→nth (mkE s.Ranges) j=nth s.Ranges j)↔mkE s.Ranges=s.Ranges:=by
  constructor;intro h;refine List.ext_getElem z fun j T Y=>?_;have:=h j T
  rwa [zCC T,zCC Y] at this
  intro h j _;rw[h]
 rw[e] at h;rcases h with ⟨h,p⟩ | ⟨y,rfl,h,p⟩
 rw[h];exact⟨true,rfl,by simp[p]⟩;rw[h];exact⟨false,rfl,by simp[p]⟩;have H:(!decide (((mkE s.Ranges).length:Int)=(s.Ranges.length:Int)))=true:=by simp;omega
 simp only[H,cond_true];exact⟨false,rfl,by simp only[Bool.false_eq_true,false_iff];exact fun h=>z (by rw[h])⟩
end Go.M
namespace Go.M
open Go.AV
def hkE (c:Int):Int:=if 4352≤c∧c<4371 then 1 else if 4449≤c∧c<4470 then 2 else if 4520≤c∧c<4547 then 3 else if c<44032∨55204≤c then 0 else if (c-44032)%28=0 then 4 else 5
theorem zM4 (c:Int):zDK c=some (hkE c):=by
 unfold zDK hkE;simp only[zH];by_cases z:4352≤c∧c<4371;simp[z];by_cases G:4449≤c∧c<4470;have:¬c<4371:=by omega
 simp[G,this];by_cases H:4520≤c∧c<4547;have a1:¬c<4371:=by omega
 have a2:¬c<4470:=by omega
 simp[H,a1,a2];have O:(decide (4352≤c)&&decide (c<4371))=false:=by simp only[Bool.and_eq_false_iff,decide_eq_false_iff_not];omega
 have T:(decide (4449≤c)&&decide (c<4470))=false:=by simp only[Bool.and_eq_false_iff,decide_eq_false_iff_not];omega
 have Y:(decide (4520≤c)&&decide (c<4547))=false:=by simp only[Bool.and_eq_false_iff,decide_eq_false_iff_not];omega
 simp only[O,T,Y,cond_false,z,G,H,if_false];by_cases k:c<44032∨55204≤c;have h:(decide (c<44032) ||decide (55204≤c))=true:=by simpa using k
 simp only[h,cond_true,k,if_true];have h:(decide (c<44032) ||decide (55204≤c))=false:=by simp only[Bool.or_eq_false_iff,decide_eq_false_iff_not];omega
 simp only[h,cond_false,k,if_false];rw[kQ (by omega) (by omega)];unfold zD3;rw[if_neg (by omega),zA];have:(c-44032).tmod 28=(c-44032)%28:=Int.tmod_eq_emod_of_nonneg (by omega);rw[this];by_cases Z:(c-44032)%28=0<;>simp[Z]
def syl (c:Int):Bool:=decide (44032≤c)&&decide (c≤55203)
theorem zHU (c:Int):syl c=true↔4≤hkE c:=by
 unfold syl hkE;simp only[Bool.and_eq_true,decide_eq_true_eq]
 repeat' split
 all_goals omega
def hdE (c:Int):List Int:=if syl c=true then [4352+(c-44032)/28/21,4449+(c-44032)/28%21]++(if 0<(c-44032)%28 then [4520+(c-44032)%28-1] else []) else [c]
theorem zUJ {c e:Int} (k:syl c=true) (he:e∈hdE c):syl e=false∧hkE e≠0:=by
 unfold hdE at he;rw[if_pos k] at he;unfold syl at k;simp only[Bool.and_eq_true,decide_eq_true_eq] at k;have key:(4352≤e∧e<4371)∨(4449≤e∧e<4470)∨(4520≤e∧e<4547):=by
  simp only[List.mem_append,List.mem_cons,List.not_mem_nil,or_false] at he;rcases he with (rfl | rfl) | he
  left;omega;right;left;omega;split at he;simp only[List.mem_singleton] at he;right;right;omega;simp at he
 constructor;unfold syl;simp only[Bool.and_eq_false_iff,decide_eq_false_iff_not];omega;unfold hkE;rcases key with h | h | h
 rw[if_pos h];decide;rw[if_neg (by omega),if_pos h];decide;rw[if_neg (by omega),if_neg (by omega),if_pos h];decide
theorem zOB (c:Int):(hdE c).length≤3∧1≤(hdE c).length:=by unfold hdE;split;split<;>simp;simp
theorem z65 {c:Int} (k:syl c=true):zBV c=some (hdE c):=by
 have hk:=(zHU c).1 k;have h:=k;unfold syl at h;simp only[Bool.and_eq_true,decide_eq_true_eq] at h;unfold zBV zHR;rw[zM4,zA];have O:decide (hkE c<4)=false:=by simp;omega
 simp only[O,cond_false];rw[kQ (n:=c-44032) (by omega) (by omega)];generalize T:c-44032=n;have Y:0≤n∧n<11172:=by omega
 have G:n.tdiv 28=n/28:=Int.tdiv_eq_ediv_of_nonneg (by omega);have H:(n/28).tdiv 21=n/28/21:=Int.tdiv_eq_ediv_of_nonneg (by omega);have Z:n.tmod 28=n%28:=Int.tmod_eq_emod_of_nonneg (by omega);have m2:(n/28).tmod 21=n/28%21:=Int.tmod_eq_emod_of_nonneg (by omega);simp only[zIX,zD3,show ((28:Int)=0)=False by simp,show ((21:Int)=0)=False by simp,if_false,zA,G,Z];rw[kQ (n:=n/28) (by omega) (by omega)];simp only[H,m2];rw[kQ (n:=n/28/21) (by omega) (by omega),kQ (n:=4352+n/28/21) (by omega) (by omega),kQ (n:=4449+n/28%21) (by omega) (by omega),kQ (n:=4520+n%28) (by omega) (by omega),kQ (n:=4520+n%28-1) (by omega) (by omega)];unfold hdE;rw[if_pos k,T];by_cases z:0<n%28;simp only[z,decide_true,cond_true,zA,if_true];have a1:decide (({x0:=4352+n/28/21,x1:=4449+n/28%21,x2:=4520+n%28-1}:A3Int)= {x0:=0,x1:=0,x2:=0})=false:=by simp;omega
 have a2:decide ((4520+n%28-1:Int)=0)=false:=by simp;omega
 simp only[a1,a2,cond_false];rfl;simp only[z,decide_false,cond_false,zA,if_false];have a1:decide (({x0:=4352+n/28/21,x1:=4449+n/28%21,x2:=0}:A3Int)= {x0:=0,x1:=0,x2:=0})=false:=by simp;omega
 simp only[a1,cond_false,decide_true,cond_true];rfl
theorem zOC {lo hi:Nat} (h:lo+hi≤4611686018427387903):wi ((wu (wi ((lo:Int)+(hi:Int))))/2 ^ 1)=(((lo+hi)/2:Nat):Int):=by rw[kQ (n:=(lo:Int)+hi) (by omega) (by omega)];have:wu ((lo:Int)+(hi:Int))=(lo:Int)+hi:=IntWalk.u64_in _ (by omega);rw[this,kQ (by omega) (by omega)];omega
theorem zZM {n:Nat} (hn:n≤2000) {body:Int×Int→Option (Stp (Int×Int) Int)} (q:Nat→Bool)
  (h:∀k:Nat,k≤n→body ((k:Int),(k:Int))=some (.done (k:Int)))
  (G:∀lo hi:Nat,lo<hi→hi≤n→body ((lo:Int),(hi:Int))=some (.next (if q ((lo+hi)/2) then ((lo:Int),(((lo+hi)/2:Nat):Int)) else ((((lo+hi)/2+1:Nat):Int),(hi:Int)))))
  (mono:∀i j,i≤j→j<n→q i=true→q j=true):
  ∃j,j≤n∧zC body (0,(n:Int))=some (j:Int)∧(∀k,k<j→q k=false)∧(∀k,j≤k→k<n→q k=true):=by
 have key:∀(d lo hi:Nat),hi-lo≤d→lo≤hi→hi≤n→(∀k,k<lo→q k=false)→(∀k,hi≤k→k<n→q k=true)→
   ∃j,j≤n∧zC body ((lo:Int),(hi:Int))=some (j:Int)∧(∀k,k<j→q k=false)∧(∀k,j≤k→k<n→q k=true):=by
  intro d
  induction d with
  | zero=>
   intro lo hi h1 h2 z T Y;have:lo=hi:=by omega
   subst this;exact⟨lo,z,zF (h lo z),T,Y⟩
  | succ d ih=>
   intro lo hi h1 h2 z T Y;by_cases e:lo=hi
   ·subst e
    exact⟨lo,z,zF (h lo z),T,Y⟩
   ·have aa:lo<hi:=by omega
    have O:(lo+hi)/2<n:=by omega
    rw[zJ (G lo hi aa z)];cases hq:q ((lo+hi)/2) with
    | true=>
     rw[if_pos rfl];exact ih lo ((lo+hi)/2) (by omega) (by omega) (by omega) T (fun k Z H=>mono _ _ Z H hq)
    | false=>
     rw[if_neg (by simp)];refine ih ((lo+hi)/2+1) hi (by omega) (by omega) z ?_ Y;intro k Z;cases ab:q k with
     | false=>rfl
     | true=>
      have:=mono k ((lo+hi)/2) (by omega) O ab;rw[hq] at this;cases this
 exact key n 0 n (by omega) (by omega) (by omega) (by intro k Z;omega) (by intro k Z H;omega)
theorem zPR {k:Type} [Inhabited k] {l:List k} {p: k→Bool} {i:Nat} (hi:i<l.length) (h:∀j,j<i→p (nth l j)=false) (G:p (nth l i)=true):l.find? p=some (nth l i):=by rw[List.find?_eq_some_iff_getElem];refine⟨G,i,hi,(zCC hi).symm,fun j z=>?_⟩;have:=h j z;rw[zCC (by omega)] at this;simp[this]
theorem zZN {z:Type} [Inhabited z] {l:List z} {p: z→Bool} (h:∀j,j<l.length→p (nth l j)=false):l.find? p=none:=by rw[List.find?_eq_none];intro x H;obtain⟨k,G,rfl⟩:=List.getElem_of_mem H;have:=h k G;rw[zCC G] at this;simp[this]
def zSC (c:Int) (s:Span):Bool:=decide (s.Lo≤c)&&decide (c≤s.Hi)
def clE (l:List Span) (c:Int):Int:=match l.find? (zSC c) with
 | some s=>s.Value
 | none=>0
theorem CV.mono {l:List Span} (h:CV l):∀(d i:Nat),i+d+1<l.length→(nth l i).Hi<(nth l (i+d+1)).Lo
 | 0,i,hi=>(h.ad i hi).1
 | d+1,i,hi=>by
  have z:=CV.mono h d i (by omega);have k:=h.sp (i+d+1) (by omega);have G:=(h.ad (i+d+1) (by omega)).1;unfold spOk at k;have:i+(d+1)+1=i+d+1+1:=by omega
  rw[this];omega
theorem CV.lt {l:List Span} (h:CV l) {i j:Nat} (k:i<j) (z:j<l.length):(nth l i).Hi<(nth l j).Lo:=by
 have:=CV.mono h (j-i-1) i (by omega)
 rwa [show i+(j-i-1)+1=j by omega] at this
theorem CV.hi {l:List Span} (h:CV l) {i j:Nat} (k:i≤j) (z:j<l.length):(nth l i).Hi≤(nth l j).Hi:=by rcases Nat.lt_or_eq_of_le k with G | rfl;have:=h.lt G z;have H:=h.sp j z;unfold spOk at H;omega;exact Int.le_refl _
theorem yKK {l:List Span} (h:CV l) {c:Int} {i:Nat} (hi:i≤l.length) (O:∀j,j<i→(nth l j).Hi<c) (T:∀j,i≤j→j<l.length→c≤(nth l j).Hi):
  clE l c=if i<l.length∧(nth l i).Lo≤c then (nth l i).Value else 0:=by
 unfold clE;by_cases k:i<l.length∧(nth l i).Lo≤c
 ·have G:=zPR (p:=zSC c) k.1 (fun j z=>by
   unfold zSC;have:=O j z;simp only[Bool.and_eq_false_iff,decide_eq_false_iff_not];omega) (by
   unfold zSC;simp only[Bool.and_eq_true,decide_eq_true_eq];exact⟨k.2,T i (Nat.le_refl _) k.1⟩)
  rw[if_pos k,G]
 ·have G:=zZN (l:=l) (p:=zSC c) (fun j z=>by
   unfold zSC;simp only[Bool.and_eq_false_iff,decide_eq_false_iff_not];by_cases H:j<i
   ·have:=O j H;omega
   ·by_cases e:j=i
    ·subst e;left;exact fun Y=>k ⟨z,Y⟩
    ·have Z:=h.lt (show i<j by omega) z
     have h2:=T i (Nat.le_refl _) (by omega);left;omega)
  rw[if_neg k,G]
theorem zIQ {l:List Span} (h:CV l) (hl:l.length≤2000) (c:Int):kT l c=some (clE l c):=by
 obtain⟨j,Y,hr,O,G⟩:=zZM (n:=l.length) hl (body:=fun (x:Int×Int)=>z5 l (fun x0 x1=>u5 x0 x1) c x.1 x.2) (fun k=>decide (c≤(nth l k).Hi))
  (fun k _=>by simp only[z5,kB (Nat.le_refl _),cond_false])
  (fun lo hi h1 h2=>by
   have hm:(lo+hi)/2<l.length:=by omega
   simp only[z5,yI h1,cond_true,zOC (show lo+hi≤4611686018427387903 by omega),z1 hm,zA,u5,zK (k:=(lo+hi)/2) (by omega)];by_cases Z:(nth l ((lo+hi)/2)).Hi<c;have:¬c≤(nth l ((lo+hi)/2)).Hi:=by omega
   simp[Z,this];have:c≤(nth l ((lo+hi)/2)).Hi:=by omega
   by_cases z:c<(nth l ((lo+hi)/2)).Lo<;>simp[Z,z,this])
  (fun i j T Y hi=>by
   have:=h.hi T Y;simp only[decide_eq_true_eq] at hi ⊢;omega)
 simp only[decide_eq_false_iff_not,decide_eq_true_eq] at O G;unfold kT kN;rw[hr,yKK h Y (fun k hk=>by have:=O k hk;omega) G]
 simp only[zA,zH];by_cases H:j<l.length;have h2:=G j (Nat.le_refl _) H;simp only[yI H,j6,z1 H,zA,u5,Bool.true_and,H,true_and];have e1:decide ((nth l j).Hi<c)=false:=by simp;omega
 simp only[e1,cond_false];by_cases z:c<(nth l j).Lo;have:¬(nth l j).Lo≤c:=by omega
 simp[z,this];have:(nth l j).Lo≤c:=by omega
 simp[z,this,z1 H];simp only[kB (show l.length≤j by omega),w8,zA,Bool.false_and,Bool.not_false,cond_true,H,false_and,if_false]
theorem zXJ {l:List Span} (G:l.length≤2000) (k:∀x∈l,okSpan x) (h:CV l):zAT l=some l:=by obtain⟨e,z,H⟩:=z2Q G k;unfold zAT;rw[z,zA,H.2 h];rfl
end Go.M
namespace Go.M
open Go.AV
theorem z2V {H:Type} {l r:List H} {x: H} {k:Nat} (h:l.drop k=x::r):l[k]? =some x∧l.drop (k+1)=r∧k+1≤l.length:=by
 have G:k<l.length:=by
  rcases Nat.lt_or_ge k l.length with z | z;exact z;rw[List.drop_of_length_le z] at h;cases h
 rw[List.drop_eq_getElem_cons G] at h;injection h with z O;exact⟨by rw[List.getElem?_eq_getElem G,z],O,G⟩
theorem yKL {z:Type} [DecidableEq z] {items:List z} {k:Nat} {x: z} (h:items[k]? =some x):yM items k x=some ():=by unfold yM;rw[if_pos h]
theorem z66 {z:Type} {items:List z} {k:Nat} (h:items.drop k= []) (G:k≤items.length):zVG items k=some ():=by unfold zVG;rw[if_pos];have:=congrArg List.length h;simp at this;omega
section
variable {l:List Span} (h:CV l) (hl:l.length≤2000) {text:List Int} (ht:text.length≤2000) {st:Int→Bool} (hst:∀c,st c=decide (clE l c=0)) {items:List Range}
include h hl ht hst
theorem yAJ:∀(n i:Nat) (s:Int) (k:Nat),text.length-i=n→i≤text.length→items.drop k=jZ st (text.drop i) (i:Int) s→k≤items.length→
  ∃H G,zC (fun (x:Int×Int×Nat)=>kJ text l items x.1 x.2.1 x.2.2) (s,(i:Int),k)=some (.inl (H,G))∧items.drop G=jZ st [] (text.length:Int) H∧G≤items.length:=by
 intro n
 induction n with
 | zero=>
  intro i s k h1 h2 z Y;have:i=text.length:=by omega
  subst this;refine⟨s,k,?_,by rw[z,List.drop_length],Y⟩;rw[jO];simp only[kJ,kB (Nat.le_refl _),cond_false]
 | succ n ih=>
  intro i s k h1 h2 z Y;have hi:i<text.length:=by omega
  rw[List.drop_eq_getElem_cons hi] at z;simp only[jZ] at z;have hs:=hst text[i];have ec:((i:Int)+1)=((i+1:Nat):Int):=by omega
  rw[ec] at z;have step:∀H G,kJ text l items s (i:Int) k=some (.next (H,((i+1:Nat):Int),G))→items.drop G=jZ st (text.drop (i+1)) ((i+1:Nat):Int) H→G≤items.length→
    ∃H G,zC (fun (x:Int×Int×Nat)=>kJ text l items x.1 x.2.1 x.2.2) (s,(i:Int),k)=some (.inl (H,G))∧items.drop G=jZ st [] (text.length:Int) H∧G≤items.length:=by
   intro H G hb Z g3;rw[zJ (body:=fun (x:Int×Int×Nat)=>kJ text l items x.1 x.2.1 x.2.2) (x:=(s,(i:Int),k)) hb];exact ih (i+1) H G (by omega) (by omega) Z g3
  by_cases T:clE l text[i]=0
  ·rw[hs] at z
   simp only[T,decide_true,Bool.not_true,Bool.false_and,Bool.false_eq_true,if_false,Bool.true_and] at z;by_cases O:0≤s
   ·simp only[O,decide_true,if_true] at z
    obtain⟨g1,Z,g3⟩:=z2V z;refine step (-1) (k+1) ?_ Z g3;simp only[kJ,yI hi,cond_true,zP hi,zA,zIQ h hl,zH,zK (k:=i) (by omega),T,decide_true,Bool.not_true,Bool.false_and,cond_false,Bool.true_and,O,yKL g1,Sum.elim_inl]
   ·simp only[O,decide_false,Bool.false_eq_true,if_false] at z
    refine step s k ?_ z Y;simp only[kJ,yI hi,cond_true,zP hi,zA,zIQ h hl,zH,zK (k:=i) (by omega),T,decide_true,Bool.not_true,Bool.false_and,cond_false,Bool.true_and,O,decide_false,Sum.elim_inl]
  ·rw[hs] at z
   simp only[T,decide_false,Bool.not_false,Bool.true_and,Bool.false_and,Bool.false_eq_true,if_false] at z;by_cases O:s<0
   ·simp only[O,decide_true,if_true] at z
    refine step (i:Int) k ?_ z Y;simp only[kJ,yI hi,cond_true,zP hi,zA,zIQ h hl,zH,zK (k:=i) (by omega),T,decide_false,Bool.not_false,Bool.true_and,O,decide_true,Sum.elim_inl]
   ·simp only[O,decide_false,Bool.false_eq_true,if_false] at z
    refine step s k ?_ z Y;simp only[kJ,yI hi,cond_true,zP hi,zA,zIQ h hl,zH,zK (k:=i) (by omega),T,decide_false,Bool.not_false,Bool.true_and,O,cond_false,Bool.false_and,Sum.elim_inl]
theorem z2W (O:items=jZ st text 0 (-1)):zAU items text l=some ():=by
 obtain⟨s,k,h1,z,h3⟩:=yAJ h hl ht hst (items:=items) text.length 0 (-1) 0 (by omega) (by omega) (by rw[List.drop_zero,List.drop_zero];exact O) (Nat.zero_le _)
 unfold zAU;have H:zC (fun (x:Int×Int×Nat)=>kJ text l items x.1 x.2.1 x.2.2) (-1,0,0)=some (.inl (s,k)):=h1;rw[H];simp only[zA,Sum.elim_inl];unfold jZ at z;by_cases G:0≤s;rw[if_pos G] at z;obtain⟨T,Y,Z⟩:=z2V z;simp only[G,decide_true,cond_true,yKL T,zA];exact z66 Y Z;rw[if_neg G] at z;simp only[G,decide_false,cond_false];exact z66 z h3
omit h hl ht hst in
theorem zK1:∀(t:List Int) (i s:Int),(jZ st t i s).length≤t.length+1
 | [],i,s=>by unfold jZ;split<;>simp
 | c::t,i,s=>by
  unfold jZ;split;have:=zK1 t (i+1) i;simp;omega;split;have:=zK1 t (i+1) (-1);simp;omega;have:=zK1 t (i+1) s;simp;omega
omit h hl ht hst in
theorem zK2:∀(t:List Int) (i s:Int),0≤i→(jZ st t i s= []↔s<0∧∀c∈t,st c=true)
 | [],i,s,hi=>by
  unfold jZ;split;simp;omega;simp;omega
 | c::t,i,s,hi=>by
  unfold jZ;cases z:st c with
  | true=>
   simp only[Bool.not_true,Bool.false_and,Bool.false_eq_true,if_false,Bool.true_and];by_cases k:0≤s;simp[k];omega;simp only[k,decide_false,Bool.false_eq_true,if_false];rw[zK2 t (i+1) s (by omega)];simp[z]
  | false=>
   simp only[Bool.not_false,Bool.true_and,Bool.false_and,Bool.false_eq_true,if_false];by_cases k:s<0;simp only[k,decide_true,if_true];rw[zK2 t (i+1) i (by omega)];simp[z];omega;simp only[k,decide_false,Bool.false_eq_true,if_false];rw[zK2 t (i+1) s (by omega)];simp[z,k]
end
theorem yIL {l:List Span} (h:CV l) (z:l.length≤2000) (G:∀x∈l,okSpan x) {text:List Int} (O:text.length≤2000):
  ∃r,zED l text=some r∧(r= []↔∀c∈text,clE l c=0):=by
 have k:∀c,(kT l c==some 0)=decide (clE l c=0):=fun c=>by
  rw[zIQ h z,Bool.eq_iff_iff];simp
 unfold zED;rw[zXJ z G h,zA,z2W h z O k rfl,zA];have H:=zK1 (st:=fun c=>kT l c==some 0) text 0 (-1);refine⟨_,by unfold yLS;rw[if_pos (by unfold LIM;omega)],?_⟩
 rw[zK2 _ _ _ (by omega)];simp only[k,decide_eq_true_eq];constructor
 ·exact fun h=>h.2
 ·exact fun h=>⟨by omega,h⟩
structure DS (l:List Mapping):Prop where
 asc:∀k,k+1<l.length→(nth l k).From<(nth l (k+1)).From
 hk:∀m∈l,hkE m.From=0
 len:∀m∈l,m.To.length≤2000
theorem DS.mono {l:List Mapping} (h:DS l):∀(d i:Nat),i+d+1<l.length→(nth l i).From<(nth l (i+d+1)).From
 | 0,i,hi=>h.asc i hi
 | d+1,i,hi=>by
  have k:=DS.mono h d i (by omega);have z:=h.asc (i+d+1) (by omega);have:i+(d+1)+1=i+d+1+1:=by omega
  rw[this];omega
theorem DS.lt {l:List Mapping} (h:DS l) {i j:Nat} (k:i<j) (z:j<l.length):(nth l i).From<(nth l j).From:=by
 have:=DS.mono h (j-i-1) i (by omega)
 rwa [show i+(j-i-1)+1=j by omega] at this
def isF (c:Int) (m:Mapping):Bool:=decide (m.From=c)
theorem z67 {l:List Mapping} (h:DS l) (hl:l.length≤2000) (c:Int):∃i:Nat,yF l c (fun x0 x1=>wV x0 x1)=some ((i:Int),(l.find? (isF c)).isSome)∧∀m,l.find? (isF c)=some m→i<l.length∧nth l i=m:=by
 have H:∀m,wV m c=some (if m.From<c then -1 else if c<m.From then 1 else 0):=fun m=>by
  unfold wV;rw[cmpI];rfl
 obtain⟨j,hj,hr,T,O⟩:=zZM (n:=l.length) hl (body:=fun (x:Int×Int)=>zY l (fun x0 x1=>wV x0 x1) c x.1 x.2) (fun k=>decide (c≤(nth l k).From))
  (fun k _=>by simp only[zY,kB (Nat.le_refl _),cond_false])
  (fun lo hi Z h2=>by
   have Y:(lo+hi)/2<l.length:=by omega
   simp only[zY,yI Z,cond_true,zOC (show lo+hi≤4611686018427387903 by omega),z1 Y,zA,H,zK (k:=(lo+hi)/2) (by omega)];by_cases hc:(nth l ((lo+hi)/2)).From<c
   ·have:¬c≤(nth l ((lo+hi)/2)).From:=by omega
    simp[hc,this]
   ·have:c≤(nth l ((lo+hi)/2)).From:=by omega
    by_cases ab:c<(nth l ((lo+hi)/2)).From<;>simp[hc,ab,this])
  (fun i j ad hj hi=>by
   simp only[decide_eq_true_eq] at hi ⊢;rcases Nat.lt_or_eq_of_le ad with Z | rfl
   ·have:=h.lt Z hj;omega
   ·exact hi)
 simp only[decide_eq_false_iff_not,decide_eq_true_eq] at T O;refine⟨j,?_⟩;unfold yF;rw[hr];simp only[zA,zH];by_cases G:j<l.length∧(nth l j).From=c
 ·have hf:=zPR (p:=isF c) G.1 (fun k hk=>by
   have:=T k hk;unfold isF;simp only[decide_eq_false_iff_not];omega) (by unfold isF;simpa using G.2)
  rw[hf];simp only[yI G.1,j6,z1 G.1,zA,H,Bool.true_and,G.2];refine⟨by simp,fun m Y=>?_⟩;injection Y with Y;exact⟨G.1,Y⟩
 ·have hf:=zZN (l:=l) (p:=isF c) (fun k hk=>by
   unfold isF;simp only[decide_eq_false_iff_not];intro e;by_cases ag:k<j
   ·have:=T k ag;omega
   ·by_cases e2:k=j
    ·subst e2;exact G ⟨hk,e⟩
    ·have Z:=h.lt (show j<k by omega) hk
     have h2:=O j (Nat.le_refl _) (by omega);omega)
  rw[hf];refine⟨?_,fun m Y=>by cases Y⟩;by_cases z:j<l.length
  ·have h2:=O j (Nat.le_refl _) z
   have h3:¬(nth l j).From=c:=fun e=>G ⟨z,e⟩;have h4:c<(nth l j).From:=by omega
   have h5:¬(nth l j).From<c:=by omega
   simp only[yI z,j6,z1 z,zA,H,h4,h5,if_true,if_false,Bool.true_and];rfl
  ·simp only[kB (show l.length≤j by omega),w8,zA,Bool.false_and]
   rfl
def dep (l:List Mapping) (c:Int):List Int:=if syl c=true then hdE c else match l.find? (isF c) with
 | some m=>m.To
 | none=>[]
def fnd (l:List Mapping) (c:Int):Bool:=syl c ||(l.find? (isF c)).isSome
theorem yIM {l:List Mapping} {c:Int} (h:fnd l c=false):dep l c= []:=by
 unfold fnd at h;simp only[Bool.or_eq_false_iff] at h;unfold dep;rw[if_neg (by simp[h.1])];cases k:l.find? (isF c) with
 | none=>rfl
 | some m=>rw[k] at h;simp at h
theorem z68 {n:Norm} (h:DS n.Decomp) (T:n.Decomp.length≤2000) (c:Int):vO n c true=some (dep n.Decomp c,fnd n.Decomp c):=by
 unfold vO dep fnd;rw[zM4,zA];by_cases k:syl c=true;have e:decide (4≤hkE c)=true:=by simpa using (zHU c).1 k
 simp only[e,cond_true,z65 k,zA,k,if_true,Bool.true_or];have e:decide (4≤hkE c)=false:=by simp only[decide_eq_false_iff_not];exact fun O=>k ((zHU c).2 O)
 simp only[Bool.not_eq_true] at k;simp only[e,cond_false,k,Bool.false_eq_true,if_false,Bool.false_or];obtain⟨i,hb,Y⟩:=z67 h T c;rw[hb];simp only[zA,zH];cases H:n.Decomp.find? (isF c) with
 | none=>simp[w8]
 | some m=>
  obtain⟨z,G⟩:=Y m H;simp[j6,z1 z,G]
theorem zZO {l:List Mapping} (h:DS l) {c e:Int} (G:syl c=true) (z:e∈dep l c):dep l e= []:=by
 unfold dep at z;rw[if_pos G] at z;obtain⟨O,T⟩:=zUJ G z;unfold dep;rw[if_neg (by simp[O])];cases H:l.find? (isF e) with
 | none=>rfl
 | some m=>
  exfalso;have Y:=List.mem_of_find?_eq_some H;have k:=List.find?_some H;unfold isF at k;simp only[decide_eq_true_eq] at k;exact T (k▸h.hk m Y)
theorem z69 {l:List Mapping} (h:DS l) (c:Int):(dep l c).length≤2000:=by
 unfold dep;split;have:=(zOB c).1;omega;cases k:l.find? (isF c) with
 | none=>simp
 | some m=>exact h.len m (List.mem_of_find?_eq_some k)
theorem z2X {l:List Mapping} (h:DS l) {m:Mapping} (H:m∈l):dep l m.From=m.To:=by
 have T:=h.hk m H;have G:syl m.From=false:=by
  cases G:syl m.From with
  | false=>rfl
  | true=>have:=(zHU _).1 G;omega
 unfold dep;rw[if_neg (by simp[G])];obtain⟨k,z,rfl⟩:=List.getElem_of_mem H;rw[←zCC z];rw[zPR (p:=isF (nth l k).From) z (fun j O=>by
  have:=h.lt O z;unfold isF;simp only[decide_eq_false_iff_not];omega) (by simp[isF])]
theorem z5O {l:List Mapping} {c:Int} (h:dep l c≠[]) (G:syl c=false):∃m∈l,m.From=c:=by
 unfold dep at h;rw[if_neg (by simp[G])] at h;cases k:l.find? (isF c) with
 | none=>rw[k] at h;exact absurd rfl h
 | some m=>
  have z:=List.find?_some k;unfold isF at z;exact⟨m,List.mem_of_find?_eq_some k,by simpa using z⟩
end Go.M
namespace Go.M
open Go.AV
def EE (l:List Mapping):Nat→Int→Prop
 | 0,_=>False
 | k+1,c=> ∀e∈dep l c,EE l k e
def WW (l:List Mapping) (c:Int):Prop:= ∃k,EE l k c
theorem z7A {l:List Mapping}:∀{k:Nat} {c:Int},EE l k c→EE l (k+1) c
 | 0,_,h=>h.elim
 | k+1,_,h=>fun e z=>z7A (h e z)
theorem yD2 {l:List Mapping} {c:Int} {k j:Nat} (h:k≤j) (z:EE l k c):EE l j c:=by
 induction h with
 | refl=>exact z
 | step _ G=>exact z7A G
theorem yD3 {l:List Mapping}:∀{L:List Int},(∀e∈L,WW l e)→∃k,∀e∈L,EE l k e
 | [],_=>⟨0,fun e z=>by cases z⟩
 | x::L,h=>by
  obtain⟨a,G⟩:=h x (by simp);obtain⟨b,hb⟩:=yD3 (L:=L) fun e z=>h e (by simp[z]);refine⟨max a b,fun e z=>?_⟩;rcases List.mem_cons.1 z with rfl | z;exact yD2 (by omega) G;exact yD2 (by omega) (hb e z)
theorem z2Y {l:List Mapping} {c:Int} (h:∀e∈dep l c,WW l e):WW l c:=by obtain⟨k,z⟩:=yD3 h;exact⟨k+1,z⟩
theorem zZP {l:List Mapping} {c:Int} (h:dep l c= []):WW l c:=z2Y (by rw[h];intro e k;cases k)
theorem yMA {l:List Mapping} (k:DS l) {c:Int} (h:syl c=true):WW l c:=z2Y fun _ z=>zZP (zZO k h z)
theorem zPS (m:List (Int×Int)) (c v k:Int):zCO (zAQ m c v) k=(decide (k=c) ||zCO m k):=by unfold zCO;rw[x9];by_cases h:k=c<;>simp[h]
def pot (l:List Mapping) (m:List (Int×Int)):Nat:=l.countP fun x=>!zCO m x.From
theorem yMC {l:List Mapping} {m G:List (Int×Int)} (h:∀k,zCO m k=true→zCO G k=true):pot l G≤pot l m:=by
 refine List.countP_mono_left fun x _ z=>?_;cases H:zCO m x.From with
 | false=>rfl
 | true=>rw[h _ H] at z;exact z
theorem zQ1 {O:Type} {p q: O→Bool}:∀{l:List O},(∀x∈l,p x=true→q x=true)→(∃x∈l,q x=true∧p x=false)→l.countP p+1≤l.countP q
 | [],_,⟨x,hx,_⟩=>by cases hx
 | y::l,h,⟨x,hx,G,H⟩=>by
  have T:=List.countP_mono_left (l:=l) fun z k=>h z (by simp[k]);rw[List.countP_cons,List.countP_cons];rcases List.mem_cons.1 hx with rfl | hx
  simp[G,H];omega;have ih:=zQ1 (l:=l) (fun z k=>h z (by simp[k])) ⟨x,hx,G,H⟩;have Z:=h y (by simp);cases Y:p y with
  | false=>simp;omega
  | true=>simp[Z Y];omega
theorem z7B {l:List Mapping} {m:List (Int×Int)} {c v:Int} (k:∃x∈l,x.From=c) (z:zCO m c=false):pot l (zAQ m c v)+1≤pot l m:=by refine zQ1 (fun x _ h=>?_) ?_;rw[zPS] at h;simp only[Bool.not_or,Bool.and_eq_true] at h;exact h.2;obtain⟨x,h,rfl⟩:=k;refine⟨x,h,by rw[z];rfl,by rw[zPS];simp⟩
section
variable {n:Norm} (hd:DS n.Decomp) (hl:n.Decomp.length≤2000)
include hd hl
noncomputable abbrev zUK (L:List Int×Bool) (rec:Int→Norm→(List (Int×Int))→Bool→Bool→Option (Int×Bool×Bool×(List (Int×Int)))) (n:Norm):Int×Int×Bool×Bool×(List (Int×Int))→Option (Stp (Int×Int×Bool×Bool×(List (Int×Int))) (Int×Bool×Bool×(List (Int×Int)))):=
 fun x=>jA L rec n x.1 x.2.1 x.2.2.1 x.2.2.2.1 x.2.2.2.2
theorem z7C {k:Int→Norm→(List (Int×Int))→Bool→Bool→Option (Int×Bool×Bool×(List (Int×Int)))} {c:Int} {m:List (Int×Int)} {z lo:Bool} (h:dep n.Decomp c= []):k5 k c n m z lo=some (1,z,lo,m):=by unfold k5;rw[z68 hd hl,zA,zH];simp[h]
theorem yKM {z:Int→Norm→(List (Int×Int))→Bool→Bool→Option (Int×Bool×Bool×(List (Int×Int)))} {c:Int} {m:List (Int×Int)} {G lo:Bool} (h:dep n.Decomp c≠[]):
  k5 z c n m G lo=cond (zCO m c) (some (max (zAN m c 0) 1,(G ||decide (zAN m c 0= -1)),lo,m)) ((zC (zUK (dep n.Decomp c,true) z n) (0,0,G,lo,zAQ m c (-1))).bind fun y=>some (y.1,y.2.1,(y.2.2.1 ||decide (64<y.1)),zAQ y.2.2.2 c y.1)):=by
 have H:fnd n.Decomp c=true:=by
  cases H:fnd n.Decomp c with
  | true=>rfl
  | false=>exact absurd (yIM H) h
 unfold k5;rw[z68 hd hl,zA,zH,H];have k:decide (((dep n.Decomp c).length:Int)=0)=false:=by
  simp only[decide_eq_false_iff_not];have:(dep n.Decomp c).length≠0:=fun e=>h (List.eq_nil_of_length_eq_zero e);omega
 simp only[Bool.not_true,Bool.false_or,k,cond_false];rfl
structure MOk (l:List Mapping) (m:List (Int×Int)) (cy:Bool):Prop where
 bd:∀k v,mget m k=some v→ -1≤v∧v≤65
 ww:cy=false→∀k v,mget m k=some v→v≠ -1→WW l k
def zV0 (l:List Mapping) (f:Nat) (c:Int) (m:List (Int×Int)):Prop:=pot l m+3≤f∨(syl c=true∧2≤f)∨(dep l c= []∧1≤f)
omit hd hl in
theorem zXK {l:List Mapping} {f:Nat} {c:Int} {m G:List (Int×Int)} (h:∀k,zCO m k=true→zCO G k=true) (z:zV0 l f c m):zV0 l f c G:=by
 rcases z with z | z;exact .inl (by have:=yMC (l:=l) h;omega)
 exact .inr z
def yKN (l:List Mapping) (c:Int) (m:List (Int×Int)) (h:Bool) (r:Int×Bool×Bool×(List (Int×Int))):Prop:=
 (1≤r.1∧r.1≤65)∧MOk l r.2.2.2 r.2.1∧(∀k,zCO m k=true→zCO r.2.2.2 k=true)∧(r.2.1=false→h=false∧WW l c)
omit hl in
theorem yMD {f:Nat} (ih:∀c m z lo,MOk n.Decomp m z→zV0 n.Decomp f c m→∃r,z9 f c n m z lo=some r∧yKN n.Decomp c m z r) (c:Int):
  ∀(d i:Nat) (s:Int) (z lo:Bool) (m:List (Int×Int)),(dep n.Decomp c).length-i=d→i≤(dep n.Decomp c).length→0≤s→s≤65→MOk n.Decomp m z→(∀e∈dep n.Decomp c,zV0 n.Decomp f e m)→
   ∃r,zC (zUK (dep n.Decomp c,true) (z9 f) n) (s,(i:Int),z,lo,m)=some r∧(s≤r.1∧r.1≤65)∧(i<(dep n.Decomp c).length→1≤r.1)∧MOk n.Decomp r.2.2.2 r.2.1∧(∀k,zCO m k=true→zCO r.2.2.2 k=true)∧(r.2.1=false→z=false∧∀e∈(dep n.Decomp c).drop i,WW n.Decomp e):=by
 have hL:=z69 hd c;generalize dep n.Decomp c=L at*;intro d
 induction d with
 | zero=>
  intro i s z lo m h1 h2 h3 Y G H;refine⟨(s,z,lo,m),?_,⟨Int.le_refl _,Y⟩,fun h=>by omega,G,fun _ h=>h,fun h=>⟨h,?_⟩⟩
  ·refine zF ?_
   simp only[jA,kB (show L.length≤i by omega),cond_false]
  ·rw[List.drop_of_length_le (by omega)];intro e he;cases he
 | succ d T=>
  intro i s z lo m h1 h2 h3 Y G H;have hi:i<L.length:=by omega
  obtain⟨r,hr,⟨r1,r2⟩,r3,Z,r5⟩:=ih L[i] m z lo G (H _ (List.getElem_mem hi));have hb:zUK (L,true) (z9 f) n (s,(i:Int),z,lo,m)=some (.next (min (s+r.1) 65,((i+1:Nat):Int),r.2.1,r.2.2.1,r.2.2.2)):=by
   simp only[jA,yI hi,cond_true,zP hi,zA,hr,zK (k:=i) (by omega)];rw[kQ (n:=s+r.1) (by omega) (by omega)]
  rw[zJ hb];obtain⟨q,hq,⟨q1,q2⟩,q3,q4,q5,q6⟩:=T (i+1) (min (s+r.1) 65) r.2.1 r.2.2.1 r.2.2.2 (by omega) (by omega) (by omega) (by omega) r3 (fun e he=>zXK Z (H e he));refine⟨q,hq,⟨by omega,q2⟩,fun _=>by omega,q4,fun k hk=>q5 k (Z k hk),fun O=>?_⟩;obtain⟨a1,a2⟩:=q6 O;obtain⟨b1,b2⟩:=r5 a1;refine⟨b1,?_⟩;rw[List.drop_eq_getElem_cons hi];intro e he;rcases List.mem_cons.1 he with rfl | he
  ·exact b2
  ·exact a2 e he
theorem yD4:∀(f:Nat) (c:Int) (m:List (Int×Int)) (H lo:Bool),MOk n.Decomp m H→zV0 n.Decomp f c m→∃r,z9 f c n m H lo=some r∧yKN n.Decomp c m H r:=by
 intro f
 induction f with
 | zero=>
  intro c m H lo T hn;exfalso;rcases hn with h | h | h<;>omega
 | succ f ih=>
  intro c m H lo T hn;show ∃r,k5 (z9 f) c n m H lo=some r∧_;by_cases Y:dep n.Decomp c= [];rw[z7C hd hl Y];exact⟨_,rfl,⟨by show (1:Int)≤1;decide,by show (1:Int)≤65;decide⟩,T,fun _ h=>h,fun h=>⟨h,zZP Y⟩⟩
  rw[yKM hd hl Y];cases hh:zCO m c with
  | true=>
   obtain⟨v,hv⟩:=Option.isSome_iff_exists.1 hh;have hg:zAN m c 0=v:=by unfold zAN;rw[hv];rfl
   have hb:=T.bd c v hv;rw[hg,cond_true];refine⟨_,rfl,⟨by show 1≤max v 1;omega,by show max v 1≤65;omega⟩,⟨T.bd,fun h=>T.ww ?_⟩,fun _ h=>h,fun h=>?_⟩
   exact(Bool.or_eq_false_iff.1 h).1;obtain⟨h1,h2⟩:=Bool.or_eq_false_iff.1 h;exact⟨h1,T.ww h1 c v hv (by simpa using h2)⟩
  | false=>
   have ag:MOk n.Decomp (zAQ m c (-1)) H:=by
    refine⟨fun k v z=>?_,fun hc k v z O=>?_⟩;rw[x9] at z;split at z;cases z;omega;exact T.bd k v z;rw[x9] at z;split at z;cases z;exact absurd rfl O;exact T.ww hc k v z O
   have Z:∀k,zCO m k=true→zCO (zAQ m c (-1)) k=true:=fun k z=>by rw[zPS,z];simp
   have ad:∀e∈dep n.Decomp c,zV0 n.Decomp f e (zAQ m c (-1)):=by
    intro e he;cases hs:syl c with
    | true=>
     refine .inr (.inr ⟨zZO hd hs he,?_⟩);rcases hn with h | h | h
     omega;omega;exact absurd h.1 Y
    | false=>
     rcases hn with h | h | h;refine .inl ?_;have:=z7B (l:=n.Decomp) (v:= -1) (z5O Y hs) hh;omega;rw[hs] at h;cases h.1;exact absurd h.1 Y
   obtain⟨q,hq,⟨q1,q2⟩,q3,q4,q5,q6⟩:=yMD hd ih c (dep n.Decomp c).length 0 0 H lo (zAQ m c (-1)) (by omega) (by omega) (by omega) (by omega) ag ad;have ah:zC (zUK (dep n.Decomp c,true) (z9 f) n) (0,0,H,lo,zAQ m c (-1))=some q:=hq;have ab:0<(dep n.Decomp c).length:=List.length_pos_iff.2 Y;have ak:=q3 ab;simp only[cond_false];rw[ah];refine⟨_,rfl,⟨ak,q2⟩,⟨fun k v z=>?_,fun hc k v z O=>?_⟩,fun k z=>?_,fun hc=>?_⟩;have G:mget (zAQ q.2.2.2 c q.1) k=some v:=z;rw[x9] at G;split at G;cases G;omega;exact q4.bd k v G;have G:mget (zAQ q.2.2.2 c q.1) k=some v:=z;obtain⟨_,a2⟩:=q6 hc;rw[x9] at G;split at G;rename_i e;rw[e];exact z2Y (by simpa using a2);exact q4.ww hc k v G O;show zCO (zAQ q.2.2.2 c q.1) k=true;rw[zPS,q5 k (Z k z)];simp;obtain⟨a1,a2⟩:=q6 hc;exact⟨a1,z2Y (by simpa using a2)⟩
theorem zRO (hp:n.Decomp.length≤90):∃r:Bool×Bool,decompose_measure n=some r∧(r.1=false→∀x∈n.Decomp,WW n.Decomp x.From):=by
 have key:∀(d i:Nat) (z lo:Bool) (m:List (Int×Int)),n.Decomp.length-i=d→i≤n.Decomp.length→MOk n.Decomp m z→
   ∃r:Bool×Bool,zC (fun (x:Int×Bool×Bool×(List (Int×Int)))=>kL n x.1 x.2.1 x.2.2.1 x.2.2.2) ((i:Int),z,lo,m)=some r∧(r.1=false→z=false∧∀x∈n.Decomp.drop i,WW n.Decomp x.From):=by
  intro d
  induction d with
  | zero=>
   intro i z lo m G Z T;refine⟨(z,lo),?_,fun h=>⟨h,?_⟩⟩
   ·refine zF ?_
    simp only[kL,kB (show n.Decomp.length≤i by omega),cond_false]
   ·rw[List.drop_of_length_le (by omega)];intro e he;cases he
  | succ d ih=>
   intro i z lo m G Z T;have hi:i<n.Decomp.length:=by omega
   have Y:pot n.Decomp m≤n.Decomp.length:=List.countP_le_length;obtain⟨r,H,_,r3,_,r5⟩:=yD4 hd hl 100 n.Decomp[i].From m z lo T (.inl (by omega));rw[zJ (x':=(((i+1:Nat):Int),r.2.1,r.2.2.1,r.2.2.2)) (by
    simp only[kL,yI hi,cond_true,zP hi,zA,H,zK (k:=i) (by omega)])]
   obtain⟨q,hq,q1⟩:=ih (i+1) r.2.1 r.2.2.1 r.2.2.2 (by omega) (by omega) r3;refine⟨q,hq,fun hc=>?_⟩;obtain⟨a1,a2⟩:=q1 hc;obtain⟨b1,b2⟩:=r5 a1;refine⟨b1,?_⟩;rw[List.drop_eq_getElem_cons hi];intro e he;rcases List.mem_cons.1 he with rfl | he
   ·exact b2
   ·exact a2 e he
 obtain⟨r,H,G⟩:=key n.Decomp.length 0 false false [] (by omega) (by omega) ⟨fun k v h=>(by cases h),fun _ k v h=>(by cases h)⟩;unfold decompose_measure;have O:zC (fun (x:Int×Bool×Bool×(List (Int×Int)))=>kL n x.1 x.2.1 x.2.2.1 x.2.2.2) (0,false,false,[])=some r:=H;rw[O];exact⟨r,rfl,fun h=>by have:=(G h).2;simpa using this⟩
end
end Go.M
namespace Go.M
open Go.AV
structure NSm (n:Norm):Prop where
 cl:n.Classes.length≤40
 de:n.Decomp.length≤40
 to:∀m∈n.Decomp,m.To.length≤70
 tg:∀m∈n.Decomp,m.Tag.length≤40
 ex:n.Excluded.Ranges.length≤12
structure VD0 (n:Norm):Prop where
 cv:CV n.Classes
 mv:MV n.Decomp
 ca:Can n.Excluded.Ranges
 ne:∀k,k+1<n.Decomp.length→(nth n.Decomp (k+1)).From≠(nth n.Decomp k).From
 kd:∀m∈n.Decomp,m.Tag= []→m.To.length=1∨m.To.length=2
 hk:∀m∈n.Decomp,hkE m.From=0
 tc:∀m∈n.Decomp,m.Tag≠[]→clE n.Classes m.From=0
 ms:decompose_measure n=some (false,false)
theorem yON {n:Norm} (hl:n.Decomp.length≤2000):∀(d i:Nat) (h:List Int),n.Decomp.length-i=d→i≤n.Decomp.length→h.length≤i→
    (zC (fun (x:Int×(List Int))=>yP n x.1 x.2) ((i:Int),h)=some (.inl (h++((n.Decomp.drop i).filter fun m=>!(m.Tag== [])).map (·.From)))∧∀m∈n.Decomp.drop i,hkE m.From=0)∨
    (zC (fun (x:Int×(List Int))=>yP n x.1 x.2) ((i:Int),h)=some (.inr 11)∧¬∀m∈n.Decomp.drop i,hkE m.From=0):=by
  intro d
  induction d with
  | zero=>
    intro i h Z h2 h3;rw[List.drop_of_length_le (by omega)];refine .inl ⟨zF ?_,fun m hm=>by cases hm⟩;simp only[yP,kB (show n.Decomp.length≤i by omega),cond_false];simp
  | succ d ih=>
    intro i h Z h2 h3;have hi:i<n.Decomp.length:=by omega
    rw[List.drop_eq_getElem_cons hi];by_cases H:hkE n.Decomp[i].From=0
    · have conv:∀G,(∃z:Unit,True)→yP n (i:Int) h=some (.next (((i+1:Nat):Int),G))→G.length≤i+1→G++((n.Decomp.drop (i+1)).filter fun m=>!(m.Tag== [])).map (·.From)=h++((n.Decomp[i]::n.Decomp.drop (i+1)).filter fun m=>!(m.Tag== [])).map (·.From)→
          (zC (fun (x:Int×(List Int))=>yP n x.1 x.2) ((i:Int),h)=some (.inl (h++((n.Decomp[i]::n.Decomp.drop (i+1)).filter fun m=>!(m.Tag== [])).map (·.From)))∧∀m∈n.Decomp[i]::n.Decomp.drop (i+1),hkE m.From=0)∨
          (zC (fun (x:Int×(List Int))=>yP n x.1 x.2) ((i:Int),h)=some (.inr 11)∧¬∀m∈n.Decomp[i]::n.Decomp.drop (i+1),hkE m.From=0):=by
        intro G _ hb O he;rw[zJ (body:=fun (x:Int×(List Int))=>yP n x.1 x.2) (x:=((i:Int),h)) hb];rcases ih (i+1) G (by omega) (by omega) O with ⟨a,b⟩ | ⟨a,b⟩
        · refine .inl ⟨by rw[a,he],fun m hm=>?_⟩
          rcases List.mem_cons.1 hm with rfl | hm
          · exact H
          · exact b m hm
        · exact .inr ⟨a,fun Y=>b fun m hm=>Y m (List.mem_cons_of_mem _ hm)⟩
      cases T:(n.Decomp[i].Tag== []) with
      | true=>
        refine conv h ⟨(),trivial⟩ ?_ (by omega) ?_
        · simp only[yP,yI hi,cond_true,zP hi,zA,zM4,H,decide_true,Bool.not_true,cond_false,T,zK (k:=i) (by omega),Sum.elim_inl]
        · rw[List.filter_cons,T];rfl
      | false=>
        refine conv (h++ [n.Decomp[i].From]) ⟨(),trivial⟩ ?_ (by simp;omega) ?_
        · simp only[yP,yI hi,cond_true,zP hi,zA,zM4,H,decide_true,Bool.not_true,cond_false,T,Bool.not_false,k7 (show h.length+ [n.Decomp[i].From].length≤4294967296 by simp;omega),zK (k:=i) (by omega),Sum.elim_inl]
        · rw[List.filter_cons,T,List.append_assoc];rfl
    · refine .inr ⟨zF ?_,fun Y=>H (Y _ List.mem_cons_self)⟩
      have:(!decide (hkE n.Decomp[i].From=0))=true:=by simp[H]
      simp only[yP,yI hi,cond_true,zP hi,zA,zM4,this,Sum.elim_inr]
theorem yD5 {n:Norm} (T:NSm n) (ag:zC5 n):Ver (zAV n) (VD0 n):=by
 obtain⟨e1,an,p1⟩:=z2Q (l:=n.Classes) (by have:=T.cl;omega) ag.1.2
 obtain⟨e2,ao,p2⟩:=yL6 (l:=n.Decomp) (by have:=T.de;omega) (fun m H=>by have:=T.to m H;omega) (fun m H=>by have:=T.tg m H;unfold MX;omega)
 obtain⟨e3,ap,p3⟩:=yD1 (s:=n.Excluded) T.ex;have bh:=T.de;unfold zAV;rw[an,zA];by_cases h1:e1=0
 case neg=>
  have:(!decide (e1=0))=true:=by simp[h1]
  rw[this,cond_true];exact⟨e1,rfl,by simp only[h1,false_iff];exact fun h=>h1 (p1.2 h.cv)⟩
 rw[h1];simp only[decide_true,Bool.not_true,cond_false];have cv:=p1.1 h1;rw[ao,zA];by_cases h2:e2=0
 case neg=>
  have:(!decide (e2=0))=true:=by simp[h2]
  rw[this,cond_true];exact⟨e2,rfl,by simp only[h2,false_iff];exact fun h=>h2 (p2.2 h.mv)⟩
 rw[h2];simp only[decide_true,Bool.not_true,cond_false];have mv:=p2.1 h2;rw[ap,zA];cases e3 with
 | false=>exact⟨11,rfl,by simp only[show ((11:Int)=0)=False by simp,false_iff];exact fun h=>by have:=p3.2 h.ca;cases this⟩
 | true=>
 have ca:=p3.1 rfl;simp only[Bool.not_true,cond_false];have l0:=zM3 (body:=fun (x:Int)=>wW n x) n.Decomp.length (fun k=>(nth n.Decomp (k+1)).From≠(nth n.Decomp k).From) (fun y=>y≠0) (fun k z=>by
  have G:k<n.Decomp.length:=by omega
  simp only[wW,yI z,cond_true,z1 z,zA,zK (k:=k+1) (by omega),zDA (k:=k) (by omega),z1 G];exact zAR (by simp) (by decide)) (fun k z=>by simp only[wW,kB z,cond_false])
 rcases l0 with ⟨l0,ne⟩ | ⟨y,hy,l0,ne⟩
 case inr=>rw[l0];exact⟨y,rfl,by simp only[hy,false_iff];exact fun h=>ne h.ne⟩
 rw[l0];simp only[zA,Sum.elim_inl];have Z:=k9 (body:=fun (x:Int)=>wX n x) n.Decomp.length (fun k=>(nth n.Decomp k).Tag= []→(nth n.Decomp k).To.length=1∨(nth n.Decomp k).To.length=2) (fun y=>y≠0) (fun k z=>by
  simp only[wX,yI z,cond_true,z1 z,zA,zH,zK (k:=k) (by omega)];have hb:((nth n.Decomp k).Tag== [])=decide ((nth n.Decomp k).Tag= []):=by cases (nth n.Decomp k).Tag<;>rfl
  rw[hb];refine zAR ?_ (by decide);simp only[Bool.and_eq_true,Bool.not_eq_true',decide_eq_true_eq,decide_eq_false_iff_not];constructor
  ·
   rintro⟨⟨a,b⟩,c⟩ h
   rcases h a with h | h
   · exact b (by omega)
   · exact c (by omega)
  ·
   intro h;refine⟨⟨?_,?_⟩,?_⟩
   · exact Classical.byContradiction fun a=>h fun a'=>absurd a' a
   · exact fun b=>h fun _=> .inl (by omega)
   · exact fun b=>h fun _=> .inr (by omega)) (fun k z=>by simp only[wX,kB z,cond_false])
 rw[zDB (p:=fun m:Mapping=>m.Tag= []→m.To.length=1∨m.To.length=2)] at Z;rcases Z with ⟨Z,kd⟩ | ⟨y,hy,Z,kd⟩
 case inr=>rw[Z];exact⟨y,rfl,by simp only[hy,false_iff];exact fun h=>kd h.kd⟩
 rw[Z];simp only[zA,Sum.elim_inl];have l2:=yON (n:=n) (by omega) n.Decomp.length 0 [] (by omega) (by omega) (by simp);simp only[List.drop_zero,List.nil_append] at l2;rcases l2 with ⟨l2,z⟩ | ⟨l2,z⟩
 case inr=>
  have Y:zC (fun (x:Int×(List Int))=>yP n x.1 x.2) (0,[])=some (.inr 11):=l2;rw[Y];exact⟨11,rfl,by simp only[show ((11:Int)=0)=False by simp,false_iff];exact fun h=>z h.hk⟩
 have Y:zC (fun (x:Int×(List Int))=>yP n x.1 x.2) (0,[])=some (.inl ((n.Decomp.filter fun m=>!(m.Tag== [])).map (·.From))):=l2;rw[Y];simp only[zA,Sum.elim_inl];obtain⟨r,hr,pr⟩:=yIL cv (by have:=T.cl;omega) ag.1.2 (text:=(n.Decomp.filter fun m=>!(m.Tag== [])).map (·.From)) (by
  have:=List.length_filter_le (fun m:Mapping=>!(m.Tag== [])) n.Decomp;simp only[List.length_map];omega)
 rw[hr,zA];have ad:∀m:Mapping,(m.Tag== [])=decide (m.Tag= []):=fun m=>by cases m.Tag<;>rfl
 have aq:(∀c∈(n.Decomp.filter fun m=>!(m.Tag== [])).map (·.From),clE n.Classes c=0)↔∀m∈n.Decomp,m.Tag≠[]→clE n.Classes m.From=0:=by
  constructor
  ·
   intro h m H ht;exact h _ (List.mem_map.2 ⟨m,List.mem_filter.2 ⟨H,by rw[ad];simpa using ht⟩,rfl⟩)
  ·
   intro h c hc;obtain⟨m,H,rfl⟩:=List.mem_map.1 hc;obtain⟨a,b⟩:=List.mem_filter.1 H;exact h m a (by rw[ad] at b;simpa using b)
 rw[aq] at pr;by_cases O:r= []
 case neg=>
  have:decide ((0:Int)<(r.length:Int))=true:=by
   have:=List.length_pos_iff.2 O;simp only[decide_eq_true_eq];omega
  rw[this,cond_true];exact⟨11,rfl,by simp only[show ((11:Int)=0)=False by simp,false_iff];exact fun h=>O (pr.2 h.tc)⟩
 have:decide ((0:Int)<(r.length:Int))=false:=by rw[O];rfl
 rw[this,cond_false];have am:DS n.Decomp:=⟨fun k G=>by
  have a:=mv.lt k G;have b:=ne k G;unfold mlt at a;omega,z,fun m H=>by have:=mv.sz m H;omega⟩
 obtain⟨q,hq,_⟩:=zRO am (by omega) (by omega);rw[hq,zA];obtain⟨cy,lo⟩:=q;cases cy with
 | true=>exact⟨12,rfl,by simp only[show ((12:Int)=0)=False by simp,false_iff];exact fun h=>by have:=h.ms;rw[hq] at this;cases this⟩
 | false=>
  cases lo with
  | true=>exact⟨13,rfl,by simp only[show ((13:Int)=0)=False by simp,false_iff];exact fun h=>by have:=h.ms;rw[hq] at this;cases this⟩
  | false=>exact⟨0,rfl,by simp only[true_iff];exact⟨cv,mv,ca,ne,kd,z,pr.1 O,hq⟩⟩
theorem VD0.ds {n:Norm} (h:VD0 n):DS n.Decomp:=⟨fun k z=>by
  have a:=h.mv.lt k z;have b:=h.ne k z;unfold mlt at a;omega,h.hk,fun m G=>by have:=h.mv.sz m G;omega⟩
end Go.M
namespace Go.M
open Go.AV
def DD (l:List Mapping):Nat→Int→Prop
 | 0,c=>l.find? (isF c)=none
 | k+1,c=> ∀m,l.find? (isF c)=some m→∀e∈m.To,DD l k e
theorem zSK {l:List Mapping} {c:Int} (h:l.find? (isF c)=none):∀k,DD l k c
 | 0=>h
 | k+1=>fun m z=>by rw[h] at z;cases z
theorem zK3 {l:List Mapping}:∀{k:Nat} {c:Int},DD l k c→DD l (k+1) c
 | 0,_,h=>zSK h 1
 | _+1,_,h=>fun m G e z=>zK3 (h m G e z)
theorem zGQ {l:List Mapping} {c:Int} {m:Mapping} (h:l.find? (isF c)=some m):m∈l∧m.From=c:=by refine⟨List.mem_of_find?_eq_some h,?_⟩;have k:=List.find?_some h;unfold isF at k;simpa using k
theorem zUL {l:List Mapping} (h:DS l) {m:Mapping} (k:m∈l):syl m.From=false:=by
 cases z:syl m.From with
 | false=>rfl
 | true=>have:=(zHU _).1 z;have:=h.hk m k;omega
theorem zDZ {l:List Mapping} (z:DS l) {m:Mapping} (H:m∈l):l.find? (isF m.From)=some m:=by
 obtain⟨k,h,rfl⟩:=List.getElem_of_mem H;rw[←zCC h];exact zPR (p:=isF (nth l k).From) h (fun j G=>by
  have:=z.lt G h;unfold isF;simp only[decide_eq_false_iff_not];omega) (by simp[isF])
theorem z2Z {l:List Mapping} (z:DS l) {c:Int} (h:syl c=true):l.find? (isF c)=none:=by
 cases G:l.find? (isF c) with
 | none=>rfl
 | some m=>
  obtain⟨k,rfl⟩:=zGQ G;rw[zUL z k] at h;cases h
theorem z20 {l:List Mapping} (z:DS l) {c:Int} {m:Mapping} (h:l.find? (isF c)=some m):dep l c=m.To:=by obtain⟨k,rfl⟩:=zGQ h;exact z2X z k
theorem yKO {l:List Mapping} (z:DS l):∀{k:Nat} {c:Int},EE l k c→DD l k c
 | 0,_,h=>h.elim
 | _+1,_,h=>fun m H e G=>yKO z (h e (by rw[z20 z H];exact G))
theorem yD6 {l:List Mapping} (hd:DS l) (H:∀m∈l,WW l m.From):∀m∈l,DD l l.length m.From:=by
 classical
 have key:∀k,(∀m∈l,DD l k m.From)∨k≤l.countP (fun m=>decide (DD l k m.From)):=by
  intro k
  induction k with
  | zero=>exact .inr (Nat.zero_le _)
  | succ k Z=>
   rcases Z with Z | Z;exact .inl fun m z=>zK3 (Z m z);by_cases Y:∀m∈l,DD l (k+1) m.From→DD l k m.From;left;have T:∀j c,DD l j c→DD l k c:=by
    intro j
    induction j with
    | zero=>intro c h;exact zSK h k
    | succ j ad=>
     intro c h;cases hf:l.find? (isF c) with
     | none=>exact zSK hf k
     | some m=>
      obtain⟨O,G⟩:=zGQ hf;have:=Y m O (by
       rw[G];intro m' ab e he;exact ad e (h m' ab e he))
      rwa [G] at this
   intro m z;obtain⟨j,hj⟩:=H m z;exact zK3 (T j _ (yKO hd hj));right;have aa:∃m∈l,DD l (k+1) m.From∧¬DD l k m.From:=by
    apply Classical.byContradiction;intro ac;exact Y fun m z O=>Classical.byContradiction fun G=>ac ⟨m,z,O,G⟩
   obtain⟨m,z,O,G⟩:=aa;have:=zQ1 (p:=fun m=>decide (DD l k m.From)) (q:=fun m=>decide (DD l (k+1) m.From)) (l:=l) (fun x _ hx=>by simp only[decide_eq_true_eq] at hx ⊢;exact zK3 hx) ⟨m,z,by simpa using O,by simpa using G⟩
   omega
 rcases key l.length with h | h;exact h;have al:l.countP (fun m=>decide (DD l l.length m.From))≤l.length:=List.countP_le_length;have:l.countP (fun m=>decide (DD l l.length m.From))=l.length:=by omega
 intro m z;have:=List.countP_eq_length.1 this m z;simpa using this
theorem zUM {l:List Mapping} (G:DS l) (H:∀m∈l,WW l m.From) (c:Int):DD l l.length c:=by
 cases h:l.find? (isF c) with
 | none=>exact zSK h _
 | some m=>
  obtain⟨k,z⟩:=zGQ h;have:=yD6 G H m k
  rwa [z] at this
def fnB (l:List Mapping) (b:Bool) (c:Int):Option (List Int):=match l.find? (isF c) with
 | some m=>if (b ||(m.Tag== []))=true then some m.To else none
 | none=>none
theorem zKD {l:List Mapping} {b:Bool} {c:Int} {z:List Int} (h:fnB l b c=some z):∃m,l.find? (isF c)=some m∧m.To=z∧(b ||(m.Tag== []))=true:=by
 unfold fnB at h;cases k:l.find? (isF c) with
 | none=>rw[k] at h;cases h
 | some m=>
  rw[k] at h;simp only at h;split at h;rename_i hb;injection h with h;exact⟨m,rfl,h,hb⟩;cases h
theorem zUN (l:List Mapping) (c:Int):fnB l true c=(l.find? (isF c)).map (·.To):=by unfold fnB;cases l.find? (isF c)<;>simp
theorem yME {l:List Mapping} {c:Int} {k:List Int} (h:fnB l false c=some k):fnB l true c=some k:=by obtain⟨m,z,G,_⟩:=zKD h;rw[zUN,z,←G];rfl
def exF (l:List Mapping) (b:Bool):Nat→Int→List Int
 | 0,c=>hdE c
 | k+1,c=>match fnB l b c with
  | some h=>h.flatMap (exF l b k)
  | none=>hdE c
def wtF (l:List Mapping) (b:Bool):Nat→Int→Int
 | 0,c=>((hdE c).length:Int)
 | k+1,c=>match fnB l b c with
  | some h=>min (max (h.map (wtF l b k)).sum 1) 65
  | none=>((hdE c).length:Int)
theorem zOD {f g:Int→List Int}:∀{L:List Int},(∀e∈L,f e=g e)→L.flatMap f=L.flatMap g
 | [],_=>rfl
 | x::L,h=>by rw[List.flatMap_cons,List.flatMap_cons,h x (by simp),zOD fun e k=>h e (by simp[k])]
theorem zIR {l:List Mapping} {b:Bool} {c:Int} (h:l.find? (isF c)=none):fnB l b c=none:=by unfold fnB;rw[h]
theorem yD7 {l:List Mapping} {b:Bool}:∀{k:Nat} {c:Int},DD l k c→∀{j:Nat},k≤j→exF l b j c=exF l b k c
 | 0,c,h,j,_=>by
  cases j with
  | zero=>rfl
  | succ j=>show (match fnB l b c with | some z=>z.flatMap (exF l b j) | none=>hdE c)=hdE c;rw[zIR h]
 | k+1,c,h,j,T=>by
  cases j with
  | zero=>omega
  | succ j=>
   show (match fnB l b c with | some z=>z.flatMap (exF l b j) | none=>hdE c)=(match fnB l b c with | some z=>z.flatMap (exF l b k) | none=>hdE c);cases O:fnB l b c with
   | none=>rfl
   | some z=>
    obtain⟨m,G,rfl,_⟩:=zKD O;exact zOD fun e H=>yD7 (h m G e H) (by omega)
theorem yD8 {l:List Mapping} {b:Bool}:∀{k:Nat} {c:Int},DD l k c→∀{j:Nat},k≤j→wtF l b j c=wtF l b k c
 | 0,c,h,j,_=>by
  cases j with
  | zero=>rfl
  | succ j=>show (match fnB l b c with | some z=>min (max (z.map (wtF l b j)).sum 1) 65 | none=>((hdE c).length:Int))=((hdE c).length:Int);rw[zIR h]
 | k+1,c,h,j,T=>by
  cases j with
  | zero=>omega
  | succ j=>
   show (match fnB l b c with | some z=>min (max (z.map (wtF l b j)).sum 1) 65 | none=>((hdE c).length:Int))=(match fnB l b c with | some z=>min (max (z.map (wtF l b k)).sum 1) 65 | none=>((hdE c).length:Int));cases O:fnB l b c with
   | none=>rfl
   | some z=>
    obtain⟨m,G,rfl,_⟩:=zKD O;have:m.To.map (wtF l b j)=m.To.map (wtF l b k):=List.map_congr_left fun e H=>yD8 (h m G e H) (by omega);simp only[this]
def fu (l:List Mapping) (b:Bool) (c:Int):List Int:=exF l b l.length c
def wt (l:List Mapping) (b:Bool) (c:Int):Int:=wtF l b l.length c
theorem zRP {l:List Mapping} {b:Bool} (h:∀c,DD l l.length c) (c:Int):fu l b c=match fnB l b c with | some k=>k.flatMap (fu l b) | none=>hdE c:=by unfold fu;rw[←yD7 (h c) (show l.length≤l.length+1 by omega)];rfl
theorem zXL {l:List Mapping} {b:Bool} (h:∀c,DD l l.length c) (c:Int):wt l b c=(match fnB l b c with | some k=>(min (max (k.map (wt l b)).sum 1) 65:Int) | none=>((hdE c).length:Int):Int):=by unfold wt;rw[←yD8 (h c) (show l.length≤l.length+1 by omega)];rfl
theorem zM6 {l:List Mapping} {b:Bool} (k:Nat) (c:Int):1≤wtF l b k c∧wtF l b k c≤65:=by
 have:=zOB c;cases k with
 | zero=>show 1≤((hdE c).length:Int)∧((hdE c).length:Int)≤65;omega
 | succ k=>
  show 1≤(match fnB l b c with | some h=>min (max (h.map (wtF l b k)).sum 1) 65 | none=>((hdE c).length:Int))∧(match fnB l b c with | some h=>min (max (h.map (wtF l b k)).sum 1) 65 | none=>((hdE c).length:Int))≤65;cases fnB l b c with
  | none=>simp only[];omega
  | some h=>simp only[];omega
theorem zZQ {f:Int→Int} (h:∀e,1≤f e):∀L:List Int,(L.length:Int)≤(L.map f).sum
 | []=>by simp
 | x::L=>by have:=zZQ h L;have:=h x;simp only[List.map_cons,List.sum_cons,List.length_cons];omega
theorem z7D {f:Int→List Int} {w:Int→Int} (k:∀e,1≤w e) (N:Int):∀(L:List Int),(∀e∈L,w e≤N→((f e).length:Int)≤w e)→(L.map w).sum≤N→((L.flatMap f).length:Int)≤(L.map w).sum
 | [],_,_=>by simp
 | x::L,h,G=>by
  have H:=zZQ k L;have O:=k x;simp only[List.map_cons,List.sum_cons] at G ⊢;have Y:=z7D k N L (fun e z=>h e (by simp[z])) (by omega);have T:=h x (by simp) (by omega);rw[List.flatMap_cons,List.length_append];omega
theorem yIN {l:List Mapping} {b:Bool}:∀(k:Nat) (c:Int),wtF l b k c≤64→((exF l b k c).length:Int)≤wtF l b k c:=by
 intro k
 induction k with
 | zero=>intro c _;show ((hdE c).length:Int)≤((hdE c).length:Int);omega
 | succ k H=>
  intro c;show (match fnB l b c with | some z=>min (max (z.map (wtF l b k)).sum 1) 65 | none=>((hdE c).length:Int))≤64→(((match fnB l b c with | some z=>z.flatMap (exF l b k) | none=>hdE c):List Int).length:Int)≤(match fnB l b c with | some z=>min (max (z.map (wtF l b k)).sum 1) 65 | none=>((hdE c).length:Int));cases fnB l b c with
  | none=>intro _;simp only[];omega
  | some z=>
   simp only[];intro h;have:=z7D (f:=exF l b k) (w:=wtF l b k) (fun e=>(zM6 k e).1) 64 z (fun e _ G=>H e G) (by omega);omega
theorem z7E {l:List Mapping} (H:DS l):∀(k:Nat) (c:Int),wtF l false k c≤wtF l true k c:=by
 intro k
 induction k with
 | zero=>intro c;exact Int.le_refl _
 | succ k Z=>
  intro c;have T:∀L:List Int,(L.map (wtF l false k)).sum≤(L.map (wtF l true k)).sum:=by
   intro L
   induction L with
   | nil=>simp
   | cons x L aa=>have:=Z x;simp only[List.map_cons,List.sum_cons];omega
  show (match fnB l false c with | some h=>min (max (h.map (wtF l false k)).sum 1) 65 | none=>((hdE c).length:Int))≤(match fnB l true c with | some h=>min (max (h.map (wtF l true k)).sum 1) 65 | none=>((hdE c).length:Int));cases O:fnB l false c with
  | some h=>
   rw[yME O];have:=T h;simp only[];omega
  | none=>
   cases Y:fnB l true c with
   | none=>exact Int.le_refl _
   | some h=>
    obtain⟨m,z,_,_⟩:=zKD Y;obtain⟨G,rfl⟩:=zGQ z;have:hdE m.From= [m.From]:=by unfold hdE;rw[if_neg (by simp[zUL H G])]
    simp only[this,List.length_singleton];omega
theorem yMF {l:List Mapping} (k:DS l) (h:∀c,wt l true c≤64) (b:Bool) (c:Int):(fu l b c).length≤64:=by
 have z:wtF l b l.length c≤wtF l true l.length c:=by
  cases b with
  | true=>exact Int.le_refl _
  | false=>exact z7E k _ c
 have G:wtF l true l.length c≤64:=h c;have:=yIN (l:=l) (b:=b) l.length c (by omega);unfold fu;omega
theorem yD9 {l:List Mapping} (Z:DS l) (Y:∀c,DD l l.length c) (c:Int):(dep l c= []→wt l true c=1)∧(dep l c≠[]→wt l true c=min ((dep l c).map (wt l true)).sum 65):=by
 have hp:∀e,1≤wt l true e:=fun e=>(zM6 _ e).1;rw[zXL Y c,zUN];cases hf:l.find? (isF c) with
 | some m=>
  rw[z20 Z hf];simp only[Option.map_some];constructor;intro h;rw[h];rfl;intro h;have:=zZQ hp m.To;have:0<m.To.length:=List.length_pos_iff.2 h;omega
 | none=>
  simp only[Option.map_none];cases G:syl c with
  | false=>
   have H:dep l c= []:=by unfold dep;rw[if_neg (by simp[G]),hf]
   have h2:hdE c= [c]:=by unfold hdE;rw[if_neg (by simp[G])]
   rw[H,h2];exact⟨fun _=>rfl,fun h=>absurd rfl h⟩
  | true=>
   have H:dep l c=hdE c:=by unfold dep;rw[if_pos G]
   have hl:=zOB c;have k:∀e∈hdE c,wt l true e=1:=by
    intro e O;obtain⟨p1,p2⟩:=zUJ G O;have hn:l.find? (isF e)=none:=by
     cases T:l.find? (isF e) with
     | none=>rfl
     | some m=>obtain⟨q1,rfl⟩:=zGQ T;exact absurd (Z.hk m q1) p2
    rw[zXL Y e,zIR hn];simp only[];unfold hdE;rw[if_neg (by simp[p1])];rfl
   have z:∀L:List Int,(∀e∈L,wt l true e=1)→(L.map (wt l true)).sum=(L.length:Int):=by
    intro L
    induction L with
    | nil=>intro _;rfl
    | cons x L ih=>intro h;have:=ih fun e O=>h e (by simp[O]);have:=h x (by simp);simp only[List.map_cons,List.sum_cons,List.length_cons];omega
   rw[H];constructor;intro h;rw[h] at hl;simp at hl;intro _;rw[z _ k];omega
end Go.M
namespace Go.M
open Go.AV
section
variable {n:Norm} (hd:DS n.Decomp) (hl:n.Decomp.length≤2000) (H:∀m∈n.Decomp,WW n.Decomp m.From)
include hd hl H
structure MeX (l:List Mapping) (m:List (Int×Int)) (lo:Bool):Prop where
 val:∀k v,mget m k=some v→v= -1∨v=wt l true k
 lof:lo=false→∀k v,mget m k=some v→v≠ -1→v≤64
 lot:lo=true→∃x∈l,64<wt l true x.From
def z5P (l:List Mapping) (m z:List (Int×Int)) (h:Bool):Prop:=
 MeX l z h∧(∀k v,mget m k=some v→mget z k=some v)∧∀e,mget z e=some (-1)→mget m e=some (-1)
omit hd hl H in
theorem yAK {m z:List (Int×Int)} (h:∀k v,mget m k=some v→mget z k=some v):∀k,zCO m k=true→zCO z k=true:=by intro k G;obtain⟨v,O⟩:=Option.isSome_iff_exists.1 G;show (mget z k).isSome=true;rw[h k v O];rfl
omit H hl in
theorem yIO {f:Nat} (c:Int) (k1:Nat) (ih:∀c m lo,MeX n.Decomp m lo→zV0 n.Decomp f c m→(∃k,EE n.Decomp k c∧∀e,mget m e=some (-1)→¬EE n.Decomp k e)→∃z G,z9 f c n m false lo=some (wt n.Decomp true c,false,z,G)∧z5P n.Decomp m G z∧(dep n.Decomp c≠[]→mget G c=some (wt n.Decomp true c))) (ab:∀e∈dep n.Decomp c,EE n.Decomp k1 e):
  ∀(d i:Nat) (s:Int) (lo:Bool) (m:List (Int×Int)),(dep n.Decomp c).length-i=d→i≤(dep n.Decomp c).length→0≤s→s≤65→MeX n.Decomp m lo→(∀e∈dep n.Decomp c,zV0 n.Decomp f e m)→(∀e,mget m e=some (-1)→¬EE n.Decomp k1 e)→
   ∃z G,zC (zUK (dep n.Decomp c,true) (z9 f) n) (s,(i:Int),false,lo,m)=some (min (s+(((dep n.Decomp c).drop i).map (wt n.Decomp true)).sum) 65,false,z,G)∧z5P n.Decomp m G z:=by
 have hL:=z69 hd c;generalize dep n.Decomp c=L at*;intro d
 induction d with
 | zero=>
  intro i s lo m h1 h2 h3 h4 T Y Z;refine⟨lo,m,?_,T,fun _ _ h=>h,fun _ h=>h⟩;refine zF ?_;rw[List.drop_of_length_le (show L.length≤i by omega)];simp only[jA,kB (show L.length≤i by omega),cond_false,List.map_nil,List.sum_nil,Int.add_zero];rw[Int.min_eq_left h4]
 | succ d ac=>
  intro i s lo m h1 h2 h3 h4 T Y Z;have hi:i<L.length:=by omega
  have hm:=List.getElem_mem hi;obtain⟨O,m1,hr,⟨r1,r2,r3⟩,_⟩:=ih L[i] m lo T (Y _ hm) ⟨k1,ab _ hm,Z⟩;have hp:=zM6 (l:=n.Decomp) (b:=true) n.Decomp.length L[i];have ar:1≤wt n.Decomp true L[i]∧wt n.Decomp true L[i]≤65:=hp;have hb:zUK (L,true) (z9 f) n (s,(i:Int),false,lo,m)=some (.next (min (s+wt n.Decomp true L[i]) 65,((i+1:Nat):Int),false,O,m1)):=by
   simp only[jA,yI hi,cond_true,zP hi,zA,hr,zK (k:=i) (by omega)];rw[kQ (n:=s+wt n.Decomp true L[i]) (by omega) (by omega)]
  rw[zJ hb];obtain⟨ag,m2,hq,q1,q2,q3⟩:=ac (i+1) (min (s+wt n.Decomp true L[i]) 65) O m1 (by omega) (by omega) (by omega) (by omega) r1 (fun e he=>zXK (yAK r2) (Y e he)) (fun e he=>Z e (r3 e he));refine⟨ag,m2,?_,q1,fun k v h=>q2 k v (r2 k v h),fun e h=>r3 e (q3 e h)⟩;rw[hq,List.drop_eq_getElem_cons hi,List.map_cons,List.sum_cons];have ap:=zZQ (f:=wt n.Decomp true) (fun e=>(zM6 _ e).1) (L.drop (i+1));have:min (min (s+wt n.Decomp true L[i]) 65+((L.drop (i+1)).map (wt n.Decomp true)).sum) 65=min (s+(wt n.Decomp true L[i]+((L.drop (i+1)).map (wt n.Decomp true)).sum)) 65:=by omega
  rw[this]
theorem yIP : ∀ (f : Nat) (c : Int) (m : List (Int × Int)) (lo : Bool), MeX n.Decomp m lo → zV0 n.Decomp f c m → (∃ k, EE n.Decomp k c ∧ ∀ e, mget m e = some (-1) → ¬ EE n.Decomp k e) →
    ∃ lo' m', z9 f c n m false lo = some (wt n.Decomp true c, false, lo', m') ∧ z5P n.Decomp m m' lo' ∧ (dep n.Decomp c ≠ [] → mget m' c = some (wt n.Decomp true c)) := by
  have hD := zUM hd H;intro f
  induction f with
  | zero =>
    intro c m lo _ hn;exfalso;rcases hn with h | h | h<;>omega
  | succ f ih =>
    intro c m lo hm hn hst;show ∃ lo' m', k5 (z9 f) c n m false lo = some _ ∧ _;obtain⟨w0, w1⟩ := yD9 hd hD c;have hp' : 1 ≤ wt n.Decomp true c ∧ wt n.Decomp true c ≤ 65 := zM6 (l := n.Decomp) (b := true) n.Decomp.length c;by_cases h0 : dep n.Decomp c = []
    · rw[z7C hd hl h0, w0 h0]
      exact⟨lo, m, rfl, ⟨hm, fun _ _ h => h, fun _ h => h⟩, fun h => absurd h0 h⟩
    · rw[yKM hd hl h0]
      obtain⟨k, hk, hks⟩ := hst;cases hh : zCO m c with
      | true =>
        obtain⟨v, hv⟩ := Option.isSome_iff_exists.1 hh;have hg : zAN m c 0 = v := by unfold zAN; rw[hv]; rfl
        have hne : v ≠ -1 := fun e => hks c (by rw[hv, e]) hk;have hvw : v = wt n.Decomp true c := (hm.val c v hv).resolve_left hne;rw[hg, cond_true];have e1 : decide (v = -1) = false := by simpa using hne
        rw[e1];refine⟨lo, m, ?_, ⟨hm, fun _ _ h => h, fun _ h => h⟩, fun _ => by rw[hv, hvw]⟩;rw[show max v 1 = wt n.Decomp true c by omega];rfl
      | false =>
        have hmin : ∃ k0, EE n.Decomp (k0+1) c ∧ ¬ EE n.Decomp k0 c ∧ k0+1 ≤ k := by
          clear hks
          induction k with
          | zero => exact hk.elim
          | succ k ihk =>
            by_cases h : EE n.Decomp k c
            · obtain⟨k0, a, b, e⟩ := ihk h
              exact⟨k0, a, b, by omega⟩
            · exact⟨k, hk, h, Nat.le_refl _⟩
        obtain⟨k0, a, b, e⟩ := hmin;have hgn : mget m c = none := by
          cases hx : mget m c with
          | none => rfl
          | some v => have : zCO m c = true := by unfold zCO; rw[hx]; rfl
                      rw[hh] at this; cases this
        have hok : MeX n.Decomp (zAQ m c (-1)) lo := by
          refine⟨fun k v hk => ?_, fun hc k v hk hne => ?_, hm.lot⟩
          · rw[x9] at hk
            split at hk
            · cases hk; exact .inl rfl
            · exact hm.val k v hk
          · rw[x9] at hk
            split at hk
            · cases hk; exact absurd rfl hne
            · exact hm.lof hc k v hk hne
        have hnd : ∀ e ∈ dep n.Decomp c, zV0 n.Decomp f e (zAQ m c (-1)) := by
          intro e he;cases hs : syl c with
          | true =>
            refine .inr (.inr ⟨zZO hd hs he, ?_⟩);rcases hn with h | h | h
            · omega
            · omega
            · exact absurd h.1 h0
          | false =>
            rcases hn with h | h | h
            · refine .inl ?_
              have := z7B (l := n.Decomp) (v := -1) (z5O h0 hs) hh;omega
            · rw[hs] at h; cases h.1
            · exact absurd h.1 h0
        obtain⟨lo1, m1, hq, q1, q2, q3⟩ := yIO hd c k0 ih (fun e he => a e he) (dep n.Decomp c).length 0 0 lo (zAQ m c (-1)) (by omega) (by omega) (by omega) (by omega) hok hnd (fun e' he' => by
          rw[x9] at he';split at he'
          · rename_i hx; rw[hx]; exact b
          · exact fun h => hks e' he' (yD2 (by omega) h))
        rw[List.drop_zero, Int.zero_add, ← w1 h0] at hq;have hq' : zC (zUK (dep n.Decomp c, true) (z9 f) n) (0, 0, false, lo, zAQ m c (-1)) = some (wt n.Decomp true c, false, lo1, m1) := hq;simp only[cond_false];rw[hq'];refine⟨(lo1 || decide (64<wt n.Decomp true c)), zAQ m1 c (wt n.Decomp true c), rfl, ⟨⟨fun k v hk => ?_, fun hc k v hk hne => ?_, fun hc => ?_⟩, fun k v hk => ?_, fun e' he' => ?_⟩, fun _ => by rw[x9, if_pos rfl]⟩
        · rw[x9] at hk
          split at hk
          · rename_i hx; cases hk; rw[hx]; exact .inr rfl
          · exact q1.val k v hk
        · rw[Bool.or_eq_false_iff] at hc
          rw[x9] at hk;split at hk
          · cases hk; have := hc.2; simp only[decide_eq_false_iff_not] at this; omega
          · exact q1.lof hc.1 k v hk hne
        · rcases Bool.or_eq_true_iff.1 hc with h | h
          · exact q1.lot h
          · simp only[decide_eq_true_eq] at h
            cases hs : syl c with
            | true =>
              have : wt n.Decomp true c ≤ 3 := by
                rw[zXL hD c, zIR (z2Z hd hs)];have := zOB c;simp only[]; omega
              omega
            | false => obtain⟨x, hx, rfl⟩ := z5O h0 hs; exact⟨x, hx, h⟩
        · rw[x9]
          split
          · rename_i hx; rw[hx, hgn] at hk; cases hk
          · rename_i hx
            exact q2 k v (by rw[x9, if_neg hx]; exact hk)
        · rw[x9] at he'
          split at he'
          · injection he' with he'; omega
          · rename_i hx
            have := q3 e' he';rw[x9, if_neg hx] at this;exact this
theorem zUO (hp:n.Decomp.length≤90):∃lo,decompose_measure n=some (false,lo)∧(lo=false↔∀x∈n.Decomp,wt n.Decomp true x.From≤64):=by
 have hD:=zUM hd H;have key:∀(d i:Nat) (lo:Bool) (m:List (Int×Int)),n.Decomp.length-i=d→i≤n.Decomp.length→MeX n.Decomp m lo→(∀e,mget m e≠some (-1))→(∀x∈n.Decomp.take i,dep n.Decomp x.From≠[]→mget m x.From=some (wt n.Decomp true x.From))→
   ∃G,zC (fun (x:Int×Bool×Bool×(List (Int×Int)))=>kL n x.1 x.2.1 x.2.2.1 x.2.2.2) ((i:Int),false,lo,m)=some (false,G)∧(G=false↔∀x∈n.Decomp,wt n.Decomp true x.From≤64):=by
  intro d
  induction d with
  | zero=>
   intro i lo m Y h2 T Z h5;refine⟨lo,?_,fun h x hx=>?_,fun h=>?_⟩
   ·refine zF ?_
    simp only[kL,kB (show n.Decomp.length≤i by omega),cond_false]
   ·by_cases h0:dep n.Decomp x.From= []
    ·rw[(yD9 hd hD x.From).1 h0];decide
    ·have hg:=h5 x (by rw[List.take_of_length_le (by omega)];exact hx) h0
     have an:1≤wt n.Decomp true x.From∧wt n.Decomp true x.From≤65:=zM6 (l:=n.Decomp) (b:=true) n.Decomp.length x.From;exact T.lof h _ _ hg (by omega)
   ·cases lo with
    | false=>rfl
    | true=>obtain⟨x,hx,hg⟩:=T.lot rfl;have:=h x hx;omega
  | succ d ih=>
   intro i lo m Y h2 T Z h5;have hi:i<n.Decomp.length:=by omega
   have ai:pot n.Decomp m≤n.Decomp.length:=List.countP_le_length;obtain⟨k,hk⟩:=H n.Decomp[i] (List.getElem_mem hi);obtain⟨O,m1,hr,⟨r1,r2,r3⟩,r4⟩:=yIP hd hl H 100 n.Decomp[i].From m lo T (.inl (by omega)) ⟨k,hk,fun e he=>absurd he (Z e)⟩;rw[zJ (x':=(((i+1:Nat):Int),false,O,m1)) (by
    simp only[kL,yI hi,cond_true,zP hi,zA,hr,zK (k:=i) (by omega)])]
   refine ih (i+1) O m1 (by omega) (by omega) r1 (fun e he=>Z e (r3 e he)) (fun x hx z=>?_);rw[List.take_add_one,List.getElem?_eq_getElem hi] at hx;rcases List.mem_append.1 hx with hx | hx
   ·exact r2 _ _ (h5 x hx z)
   ·simp only[Option.toList_some,List.mem_singleton] at hx
    subst hx;exact r4 z
 obtain⟨lo,hr,Y⟩:=key n.Decomp.length 0 false [] (by omega) (by omega) ⟨fun k v h=>(by cases h),fun _ k v h=>(by cases h),fun h=>by cases h⟩ (fun e h=>by cases h) (fun x hx=>by cases hx);have ad:zC (fun (x:Int×Bool×Bool×(List (Int×Int)))=>kL n x.1 x.2.1 x.2.2.1 x.2.2.2) (0,false,false,[])=some (false,lo):=hr;refine⟨lo,?_,Y⟩;unfold decompose_measure;rw[ad];rfl
end
theorem yEA {n:Norm} (O:DS n.Decomp) (Y:n.Decomp.length≤90):decompose_measure n=some (false,false)↔(∀m∈n.Decomp,WW n.Decomp m.From)∧∀m∈n.Decomp,wt n.Decomp true m.From≤64:=by
 have T:n.Decomp.length≤2000:=by omega
 constructor;intro h;obtain⟨r,z,Z⟩:=zRO O T Y;rw[h] at z;injection z with z;subst z;have H:=Z rfl;obtain⟨lo,k,G⟩:=zUO O T H Y;rw[h] at k;injection k with k;injection k with _ k;exact⟨H,G.1 k.symm⟩
 rintro⟨H,h⟩
 obtain⟨lo,k,G⟩:=zUO O T H Y;rw[k,G.2 h]
theorem yMG {l:List Mapping} (G:DS l) (H:∀m∈l,WW l m.From) (h:∀m∈l,wt l true m.From≤64) (c:Int):wt l true c≤64:=by
 cases k:l.find? (isF c) with
 | some m=>obtain⟨z,rfl⟩:=zGQ k;exact h m z
 | none=>
  rw[zXL (zUM G H) c,zIR k];have:=zOB c;simp only[];omega
end Go.M
namespace Go.M
open Go.AV
set_option linter.unusedSimpArgs false
set_option linter.unusedVariables false
def sg (a b:Int):Int:=if a<b then -1 else if b<a then 1 else 0
theorem z7F (a b:Int):decide (sg a b<0)=decide (a<b):=by unfold sg;by_cases h:a<b;simp[h];by_cases k:b<a<;>simp[h,k]
theorem z7G {z:Type} [Inhabited z] {l m:List z} {k:Nat} (h:k<l.length):nth (l++m) k=nth l k:=by simp[nth,List.getElem?_append_left h]
theorem z7H {z:Type} [Inhabited z] {l m:List z} {k j:Nat} (h:k=l.length+j):nth (l++m) k=nth m j:=by subst h;simp[nth,List.getElem?_append_right]
theorem wn {n:Int} (h:0≤n) (k:n≤1000000):wi n=n:=kQ (by omega) (by omega)
theorem yKP:∀(U V p W s:List Int) (k:Nat) (N A B:Int),U.length=V.length→N=((k+U.length:Nat):Int)→A+k=(p.length:Int)→B+k=((p.length+U.length+W.length:Nat):Int)→0≤A→0≤B→p.length+U.length+W.length+V.length≤2000→k≤2000→
  zC (fun (x:Int×(List Int))=>yQ N B A x.1 x.2) ((k:Int),p++U++W++V++s)=some (p++V++W++U++s)
 | [],[],p,W,s,k,N,A,B,_,h,_,_,_,_,_,_=>by
  refine zF ?_;show yQ N B A (k:Int) _=_;simp only[yQ,h,kB (k:=k) (n:=k+0) (by omega),List.length_nil,cond_false]
 | u::U,v::V,p,W,s,k,N,A,B,hl,h,Y,z,G,H,hs,hk=>by
  have hU:U.length=V.length:=by simpa using hl
  simp only[List.length_cons] at h z hs;have ih:=yKP U V (p++ [v]) (W++ [u]) s (k+1) N A B hU (by rw[h];omega) (by simp;omega) (by simp;omega) G H (by simp;omega) (by omega)
  have Z:p++u::U++W++v::V++s=(p++u::U++W)++v::(V++s):=by simp
  have O:p++u::U++W++v::V++s=p++u::(U++W++v::V++s):=by simp
  have i1:z7 (p++u::U++W++v::V++s) (wi (B+k))=some v:=by
   rw[wn (by omega) (by omega),z,Z];exact wH (by simp;omega)
  have i2:z7 (p++u::U++W++v::V++s) (wi (A+k))=some u:=by
   rw[wn (by omega) (by omega),Y,O];exact wH rfl
  have s1:uQ (p++u::U++W++v::V++s) (wi (A+k)) v=some (p++v::(U++W++v::V++s)):=by
   rw[wn (by omega) (by omega),Y,O];exact uP rfl
  have T:p++v::(U++W++v::V++s)=(p++v::U++W)++v::(V++s):=by simp
  have i3:z7 (p++v::(U++W++v::V++s)) (wi (B+k))=some v:=by
   rw[wn (by omega) (by omega),z,T];exact wH (by simp;omega)
  have s2:uQ (p++v::(U++W++v::V++s)) (wi (B+k)) u=some ((p++v::U++W)++u::(V++s)):=by
   rw[wn (by omega) (by omega),z,T];exact uP (by simp;omega)
  rw[zJ (x':=(((k+1:Nat):Int),(p++ [v])++U++(W++ [u])++V++s))]
  ·rw[ih];simp
  ·show yQ N B A (k:Int) _=_
   simp only[yQ,h,yI (k:=k) (n:=k+(U.length+1)) (by omega),cond_true,i1,i2,s1,i3,s2,zA,zK (k:=k) (by omega)];simp
theorem zZR {U V p W s:List Int} {N A B:Int} {f:Int→Int→Option Int} (G:U.length=V.length) (z:N=(U.length:Int)) (h:A=(p.length:Int)) (k:B=((p.length+U.length+W.length:Nat):Int)) (H:p.length+U.length+W.length+V.length≤2000):
  kG (p++U++W++V++s) A B N f=some (p++V++W++U++s):=by
 unfold kG;have:=yKP U V p W s 0 N A B G (by rw[z];simp) (by rw[h];simp) (by rw[k];simp) (by omega) (by omega) H (by omega)
 rw[show ((0:Nat):Int)=0 from rfl] at this;rw[this];rfl
theorem yMH {f:Int→Int→Option Int} (M:Nat):∀(n:Nat) (P U V S:List Int),U.length+V.length≤n→(P++U).length=M→0<U.length→0<V.length→P.length+U.length+V.length≤2000→
  ∃(i:Nat) (d:List Int),zC (fun (x:Int×Int×(List Int))=>yJ (M:Int) f x.1 x.2.1 x.2.2) ((U.length:Int),(V.length:Int),P++U++V++S)=some ((i:Int),d)∧i≤M∧
   kG d (wi ((M:Int)-(i:Int))) (M:Int) (i:Int) f=some (P++V++U++S)
 | 0,P,U,V,S,hn,Z,hU,hV,hs=>by omega
 | n+1,P,U,V,S,hn,Z,hU,hV,hs=>by
  simp only[List.length_append] at Z;by_cases e:U.length=V.length
  ·refine⟨U.length,P++U++V++S,zF ?_,by omega,?_⟩
   ·show yJ (M:Int) f (U.length:Int) (V.length:Int) _=_
    simp only[yJ,e,decide_true,Bool.not_true,cond_false]
   ·rw[wn (by omega) (by omega)]
    have:=zZR (U:=U) (V:=V) (p:=P) (W:=[]) (s:=S) (N:=U.length) (A:=(M:Int)-(U.length:Int)) (B:=(M:Int)) (f:=f) e rfl (by omega) (by simp;omega) (by simp;omega)
    simpa using this
  ·by_cases z:V.length<U.length
   ·have Y:=yMH (f:=f) M n (P++V) (U.drop V.length) (U.take V.length) S (by simp;omega) (by simp;omega) (by simp;omega) (by simp;omega) (by simp;omega)
    obtain⟨i,d,H,O,T⟩:=Y;refine⟨i,d,?_,O,?_⟩
    ·rw[zJ (x':=(((U.drop V.length).length:Int),((U.take V.length).length:Int),(P++V)++U.drop V.length++U.take V.length++S))]
     ·exact H
     ·show yJ (M:Int) f (U.length:Int) (V.length:Int) _=_
      have h:=zZR (U:=U.take V.length) (V:=V) (p:=P) (W:=U.drop V.length) (s:=S) (N:=V.length) (A:=(M:Int)-(U.length:Int)) (B:=(M:Int)) (f:=f) (by simp;omega) (by simp;omega) (by omega) (by simp;omega) (by simp;omega)
      rw[show P++U.take V.length++U.drop V.length++V++S=P++U++V++S by rw[List.append_assoc P,List.take_append_drop]] at h;have G:(!decide ((U.length:Int)=(V.length:Int)))=true:=by simp;omega
      simp only[yJ,G,cond_true,yI z,wn (n:=(M:Int)-(U.length:Int)) (by omega) (by omega),wn (n:=(U.length:Int)-(V.length:Int)) (by omega) (by omega),h,zA];simp only[List.length_drop,List.length_take];rw[show ((U.length-V.length:Nat):Int)=(U.length:Int)-(V.length:Int) by omega,show ((min V.length U.length:Nat):Int)=(V.length:Int) by omega]
    ·rw[T,List.append_assoc (P++V),List.take_append_drop]
   ·have z:U.length<V.length:=by omega
    have Y:=yMH (f:=f) M n P (V.drop (V.length-U.length)) (V.take (V.length-U.length)) (U++S) (by simp;omega) (by simp;omega) (by simp;omega) (by simp;omega) (by simp;omega)
    obtain⟨i,d,H,O,T⟩:=Y;refine⟨i,d,?_,O,?_⟩
    ·rw[zJ (x':=(((V.drop (V.length-U.length)).length:Int),((V.take (V.length-U.length)).length:Int),P++V.drop (V.length-U.length)++V.take (V.length-U.length)++(U++S)))]
     ·exact H
     ·show yJ (M:Int) f (U.length:Int) (V.length:Int) _=_
      have h:=zZR (U:=U) (V:=V.drop (V.length-U.length)) (p:=P) (W:=V.take (V.length-U.length)) (s:=S) (N:=U.length) (A:=(M:Int)-(U.length:Int)) (B:=(M:Int)+(V.length:Int)-(U.length:Int)) (f:=f) (by simp;omega) rfl (by omega) (by simp;omega) (by simp;omega)
      rw[show P++U++V.take (V.length-U.length)++V.drop (V.length-U.length)++S=P++U++V++S by rw[List.append_assoc (P++U),List.take_append_drop]] at h;have G:(!decide ((U.length:Int)=(V.length:Int)))=true:=by simp;omega
      simp only[yJ,G,cond_true,kB (k:=V.length) (n:=U.length) (by omega),cond_false,wn (n:=(M:Int)-(U.length:Int)) (by omega) (by omega),wn (n:=(M:Int)+(V.length:Int)) (by omega) (by omega),wn (n:=(M:Int)+(V.length:Int)-(U.length:Int)) (by omega) (by omega),wn (n:=(V.length:Int)-(U.length:Int)) (by omega) (by omega),h,zA];simp only[List.length_drop,List.length_take,List.append_assoc];rw[show ((V.length-(V.length-U.length):Nat):Int)=(U.length:Int) by omega,show ((min (V.length-U.length) V.length:Nat):Int)=(V.length:Int)-(U.length:Int) by omega]
    ·rw[T]
     rw[show P++V.take (V.length-U.length)++V.drop (V.length-U.length)++(U++S)=P++(V.take (V.length-U.length)++V.drop (V.length-U.length))++U++S by simp,List.take_append_drop]
theorem yMI {f:Int→Int→Option Int} {P U V S:List Int} {a m b:Int} (ha:a=(P.length:Int)) (h:m=((P++U).length:Nat)) (hb:b=((P++U++V).length:Nat)) (O:0<U.length) (T:0<V.length) (Y:P.length+U.length+V.length≤2000):
  jU (P++U++V++S) a m b f=some (P++V++U++S):=by
 obtain⟨i,d,G,Z,H⟩:=yMH (f:=f) (P++U).length (U.length+V.length) P U V S (Nat.le_refl _) rfl O T Y;unfold jU;have k:wi (m-a)=(U.length:Int):=by rw[wn (by simp at h;omega) (by simp at h;omega)];simp at h;omega
 have z:wi (b-m)=(V.length:Int):=by rw[wn (by simp at h hb;omega) (by simp at h hb;omega)];simp at h hb;omega
 rw[k,z,h,G,zA,H];rfl
end Go.M
namespace Go.M
open Go.AV
set_option linter.unusedSimpArgs false
set_option linter.unusedVariables false
section
variable (key:Int→Int)
def Srt (l:List Int):Prop:=l.Pairwise fun x y=>key x≤key y
def Flt (a b:List Int):Prop:=a.Perm b∧∀k,a.filter (fun x=>decide (key x=k))=b.filter (fun x=>decide (key x=k))
end
section
variable {key:Int→Int}
theorem Flt.refl (a:List Int):Flt key a a:=⟨.refl _,fun _=>rfl⟩
theorem Flt.trans {a b c:List Int} (h:Flt key a b) (k:Flt key b c):Flt key a c:=⟨h.1.trans k.1,fun q=>(h.2 q).trans (k.2 q)⟩
theorem Flt.symm {a b:List Int} (h:Flt key a b):Flt key b a:=⟨h.1.symm,fun q=>(h.2 q).symm⟩
theorem Flt.app {a b c d:List Int} (h:Flt key a b) (k:Flt key c d):Flt key (a++c) (b++d):=⟨h.1.append k.1,fun q=>by rw[List.filter_append,List.filter_append,h.2 q,k.2 q]⟩
theorem Flt.swap {a b:List Int} (h:∀x∈a,∀y∈b,key x≠key y):Flt key (a++b) (b++a):=⟨List.perm_append_comm,fun q=>by
 rw[List.filter_append,List.filter_append];by_cases G:∃x∈a,key x=q
 ·obtain⟨x,H,e⟩:=G
  have:b.filter (fun x=>decide (key x=q))= []:=by
   rw[List.filter_eq_nil_iff];intro y z k;exact h x H y z (by rw[e];simpa using Eq.symm (by simpa using k))
  rw[this];simp
 ·have:a.filter (fun x=>decide (key x=q))= []:=by
   rw[List.filter_eq_nil_iff];intro y z k;exact G ⟨y,z,by simpa using k⟩
  rw[this];simp⟩
theorem Flt.mem {a b:List Int} (h:Flt key a b) {x:Int}:x∈a↔x∈b:=h.1.mem_iff
theorem Flt.len {a b:List Int} (h:Flt key a b):a.length=b.length:=h.1.length_eq
theorem zHV {a b:List Int}:Srt key (a++b)↔Srt key a∧Srt key b∧∀x∈a,∀y∈b,key x≤key y:=List.pairwise_append
theorem zJG {l:List Int} (h:Srt key l) {i j:Nat} (k:i≤j) (G:j<l.length):key (nth l i)≤key (nth l j):=by rcases Nat.lt_or_eq_of_le k with z | rfl;rw[zCC G,zCC (by omega:i<l.length)];exact List.pairwise_iff_getElem.1 h i j _ _ z;exact Int.le_refl _
theorem z21:∀{a b:List Int},Srt key a→Srt key b→Flt key a b→a=b
 | [],b,_,_,h=>by have:=h.len;exact(List.eq_nil_of_length_eq_zero (by simpa using this.symm)).symm
 | x::a,[],_,_,h=>by have:=h.len;simp at this
 | x::a,y::b,G,hb,h=>by
  have z:key x=key y:=by
   have O:x∈y::b:=h.mem.1 (by simp);have T:y∈x::a:=h.mem.2 (by simp);have l1:key y≤key x:=by
    rcases List.mem_cons.1 O with e | e;rw[e];exact Int.le_refl _;exact List.rel_of_pairwise_cons hb e
   have l2:key x≤key y:=by
    rcases List.mem_cons.1 T with e | e;rw[e];exact Int.le_refl _;exact List.rel_of_pairwise_cons G e
   omega
  have H:=h.2 (key x);rw[List.filter_cons_of_pos (by simp),List.filter_cons_of_pos (by simp[z])] at H;have Z:x=y:=(List.cons.inj H).1;subst Z;have Y:Flt key a b:=⟨h.1.cons_inv,fun k=>by
   have:=h.2 k;by_cases e:key x=k;rw[List.filter_cons_of_pos (by simpa using e),List.filter_cons_of_pos (by simpa using e)] at this;exact(List.cons.inj this).2;rw[List.filter_cons_of_neg (by simpa using e),List.filter_cons_of_neg (by simpa using e)] at this;exact this⟩
  rw[z21 (List.Pairwise.of_cons G) (List.Pairwise.of_cons hb) Y]
theorem yEB {k:Nat} (h:k+1≤1000000):wi (((k+1:Nat):Int)-1)=(k:Int):=by rw[wn (by omega) (by omega)];omega
theorem z22 (lt:Int→Int→Bool):∀(r:List Int) (x:Int) (s:List Int) (y:Int),y∈vW lt r x s→y∈r∨y=x∨y∈s
 | [],x,s,y,h=>by
  rcases List.mem_cons.1 h with h | h;exact .inr (.inl h);exact .inr (.inr h)
 | z::r,x,s,y,h=>by
  unfold vW at h;split at h;rcases z22 lt r x (z::s) y h with h | h | h
  exact .inl (List.mem_cons_of_mem _ h);exact .inr (.inl h);rcases List.mem_cons.1 h with h | h
  exact .inl (by rw[h];exact List.mem_cons_self)
  exact .inr (.inr h);rcases List.mem_append.1 h with h | h
  exact .inl (List.mem_reverse.1 h);rcases List.mem_cons.1 h with h | h
  exact .inr (.inl h);exact .inr (.inr h)
section
variable {Q:Int→Prop} {lt:Int→Int→Bool} {g:Int→Int→Option Int} (hq:∀x y,Q x→Q y→∃c,g x y=some c∧decide (c<0)=lt x y)
include hq
theorem yKQ (p t:List Int):∀(r:List Int) (x:Int) (s:List Int),Q x→(∀y∈r,Q y)→p.length+r.length≤2000→zC (fun (q:Int×List Int)=>zZ (p.length:Int) g q.1 q.2) (((p.length+r.length:Nat):Int),p++(r.reverse++x::s)++t)=some (p++vW lt r x s++t)
 | [],x,s,_,_,_=>by
  refine zF ?_;show zZ (p.length:Int) g _ _=_;simp only[zZ,List.length_nil,kB (k:=p.length) (n:=p.length+0) (by omega),zH,w8,zA,Bool.false_and,cond_false];rfl
 | y::r,x,s,hx,hr,h=>by
  simp only[List.length_cons] at h;have T:p++((y::r).reverse++x::s)++t=(p++r.reverse++ [y])++x::(s++t):=by simp
  have e2:p++((y::r).reverse++x::s)++t=(p++r.reverse)++y::(x::s++t):=by simp
  have Z:((p.length+(y::r).length:Nat):Int)=((p.length+r.length+1:Nat):Int):=by simp;omega
  have i1:z7 (p++((y::r).reverse++x::s)++t) ((p.length+r.length+1:Nat):Int)=some x:=by rw[T];exact wH (by simp;omega)
  have i2:z7 (p++((y::r).reverse++x::s)++t) ((p.length+r.length:Nat):Int)=some y:=by rw[e2];exact wH (by simp)
  have s1:uQ (p++((y::r).reverse++x::s)++t) ((p.length+r.length+1:Nat):Int) y=some ((p++r.reverse++ [y])++y::(s++t)):=by rw[T];exact uP (by simp;omega)
  have Y:(p++r.reverse++ [y])++y::(s++t)=(p++r.reverse)++y::(y::s++t):=by simp
  have i3:z7 ((p++r.reverse++ [y])++y::(s++t)) ((p.length+r.length:Nat):Int)=some y:=by rw[Y];exact wH (by simp)
  have s2:uQ ((p++r.reverse++ [y])++y::(s++t)) ((p.length+r.length:Nat):Int) x=some ((p++r.reverse)++x::(y::s++t)):=by rw[Y];exact uP (by simp)
  have hb:decide ((p.length:Int)<((p.length+r.length+1:Nat):Int))=true:=yI (by omega);obtain⟨c,H,G⟩:=hq x y hx (hr y (by simp));cases O:lt x y with
  | true=>
   rw[O] at G;rw[Z,zJ (x':=(((p.length+r.length:Nat):Int),p++(r.reverse++x::(y::s))++t)),yKQ p t r x (y::s) hx (fun z hz=>hr z (by simp[hz])) (by omega)];simp[vW,O];show zZ (p.length:Int) g _ _=_;simp only[zZ,hb,zH,j6,yEB (k:=p.length+r.length) (by omega),i1,i2,zA,H,G,Bool.and_self,cond_true,s1,i3,s2];simp
  | false=>
   rw[O] at G;rw[Z];refine zF ?_;show zZ (p.length:Int) g _ _=_;simp only[zZ,hb,zH,j6,yEB (k:=p.length+r.length) (by omega),i1,i2,zA,H,G,Bool.and_false,cond_false];simp[vW,O]
theorem yKR (p t:List Int):∀(l q:List Int),(∀y∈l,Q y)→(∀y∈q,Q y)→1≤q.length→p.length+q.length+l.length≤2000→zC (fun (x:Int×List Int)=>zU ((p.length+q.length+l.length:Nat):Int) (p.length:Int) g x.1 x.2) (((p.length+q.length:Nat):Int),p++(q++l)++t)=some (p++uW lt l q++t)
 | [],q,_,_,_,_=>by
  refine zF ?_;show zU _ (p.length:Int) g _ _=_;simp only[zU,List.length_nil,kB (k:=p.length+q.length) (n:=p.length+q.length+0) (by omega),cond_false];simp[uW]
 | x::l,q,O,G,aa,h=>by
  simp only[List.length_cons] at h;have hi:=yKQ hq p (l++t) q.reverse x [] (O x (by simp)) (fun y H=>G y (by simpa using H)) (by simp;omega)
  rw[List.length_reverse,List.reverse_reverse] at hi;have Y:p++(q++x::l)++t=p++(q++ [x])++(l++t):=by simp
  have z:=zUH lt q.reverse x [];simp only[List.length_reverse,List.length_nil] at z;have T:∀y∈vW lt q.reverse x [],Q y:=fun y H=>by
   rcases z22 lt q.reverse x [] y H with h | h | h;exact G y (by simpa using h);rw[h];exact O x (by simp);cases h
  have ih:=yKR p t l (vW lt q.reverse x []) (fun y H=>O y (by simp[H])) T (by omega) (by omega);rw[zJ (x':=(((p.length+(vW lt q.reverse x []).length:Nat):Int),p++(vW lt q.reverse x []++l)++t))];have Z:((p.length+q.length+(x::l).length:Nat):Int)=((p.length+(vW lt q.reverse x []).length+l.length:Nat):Int):=by simp;omega
  rw[Z,ih];rfl;show zU _ (p.length:Int) g _ _=_;simp only[zU,List.length_cons,yI (k:=p.length+q.length) (n:=p.length+q.length+(l.length+1)) (by omega),cond_true,Y,hi,zA,zK (k:=p.length+q.length) (by omega),z];simp only[List.append_assoc];rw[show p.length+q.length+1=p.length+(q.length+1+0) by omega]
theorem yOO {p m t:List Int} {a b:Int} (H:a=(p.length:Int)) (hb:b=((p.length+m.length:Nat):Int)) (G:∀y∈m,Q y) (h:p.length+m.length≤2000):kD (p++m++t) a b g=some (p++uW lt m []++t):=by
 unfold kD;have O:wi (a+1)=((p.length+1:Nat):Int):=by rw[wn (by omega) (by omega)];omega
 rw[O];cases m with
 | nil=>
  have:zC (fun (x:Int×List Int)=>zU b a g x.1 x.2) (((p.length+1:Nat):Int),p++ []++t)=some (p++ []++t):=zF (by
   show zU b a g _ _=_;simp only[zU,hb,List.length_nil,kB (k:=p.length+1) (n:=p.length+0) (by omega),cond_false])
  rw[this];rfl
 | cons x m=>
  have:=yKR hq p t m [x] (fun y z=>G y (by simp[z])) (fun y z=>by rw[List.mem_singleton.1 z];exact G x (by simp)) (by simp) (by simp at h ⊢;omega)
  rw[H,hb];have e:p.length+ [x].length+m.length=p.length+(x::m).length:=by simp;omega
  rw[e] at this;simp only[List.length_singleton,List.singleton_append] at this;rw[this];rfl
end
variable {f:Int→Int→Option Int} (hf:∀x y,f x y=some (sg (key x) (key y)))
include hf
theorem yOP {p m t:List Int} {a b:Int} (k:a=(p.length:Int)) (hb:b=((p.length+m.length:Nat):Int)) (h:p.length+m.length≤2000):kD (p++m++t) a b f=some (p++uW (fun a b=>decide (key a<key b)) m []++t):=
 yOO (Q:=fun _=>True) (fun x y _ _=>⟨_,hf x y,by simp only[z7F]⟩) k hb (fun _ _=>trivial) h
omit hf in
theorem z23:∀(r:List Int) (x:Int) (s:List Int),(∀y∈s,key x<key y)→Flt key (r.reverse++x::s) (vW (fun a b=>decide (key a<key b)) r x s)
 | [],x,s,_=>Flt.refl _
 | y::r,x,s,G=>by
  unfold vW;by_cases h:key x<key y
  ·
   simp only[h,decide_true,if_true];refine Flt.trans ?_ (z23 r x (y::s) (fun z H=>by
    rcases List.mem_cons.1 H with e | e
    · rw[e];exact h
    · exact G z e))
   have:Flt key ([y]++ [x]) ([x]++ [y]):=Flt.swap (by simp;omega)
   have k:=(Flt.refl (key:=key) r.reverse).app (this.app (Flt.refl s));simpa using k
  ·
   simp only[h,decide_false,Bool.false_eq_true,if_false];exact Flt.refl _
omit hf in
theorem zM7:∀(l q:List Int),Flt key (q++l) (uW (fun a b=>decide (key a<key b)) l q)
 | [],q=>by simp[uW];exact Flt.refl _
 | x::l,q=>by
  have h:=z23 (key:=key) q.reverse x [] (by simp);rw[List.reverse_reverse] at h;have k:=(h.app (Flt.refl l)).trans (zM7 l (vW (fun a b=>decide (key a<key b)) q.reverse x []));simpa[uW] using k
omit hf in
theorem zQ3 (l:List Int):Srt key (uW (fun a b=>decide (key a<key b)) l []):=by
 have:=zK0 (fun a b=>decide (key a<key b)) (fun a b c k z=>by simp at *;omega) (fun a b k=>by simp at *;omega) l [] .nil
 exact this.imp fun {a b} h=>by
  have h:decide (key b<key a)=false:=h;simp at h;exact h
end
end Go.M
namespace Go.M
open Go.AV
set_option linter.unusedSimpArgs false
set_option linter.unusedVariables false
theorem z5Q {body:Int×Int→Option (Stp (Int×Int) Int)} (q:Nat→Bool) (A B:Nat)
  (h:∀k:Nat,A≤k→k≤B→body ((k:Int),(k:Int))=some (.done (k:Int)))
  (G:∀lo hi:Nat,A≤lo→lo<hi→hi≤B→body ((lo:Int),(hi:Int))=some (.next (if q ((lo+hi)/2) then ((lo:Int),(((lo+hi)/2:Nat):Int)) else ((((lo+hi)/2+1:Nat):Int),(hi:Int)))))
  (hm:∀i j,A≤i→i≤j→j<B→q i=true→q j=true):
  ∀(n lo hi:Nat),hi-lo≤n→A≤lo→lo≤hi→hi≤B→∃j:Nat,lo≤j∧j≤hi∧zC body ((lo:Int),(hi:Int))=some (j:Int)∧(∀i,lo≤i→i<j→q i=false)∧(∀i,j≤i→i<hi→q i=true):=by
 intro n
 induction n with
 | zero=>
  intro lo hi h1 H h3 O;have:hi=lo:=by omega
  subst this;exact⟨hi,by omega,by omega,zF (h hi H O),fun i a b=>by omega,fun i a b=>by omega⟩
 | succ n ih=>
  intro lo hi h1 H h3 O;by_cases e:lo=hi
  ·subst e
   exact⟨lo,by omega,by omega,zF (h lo H O),fun i a b=>by omega,fun i a b=>by omega⟩
  ·have Y:=G lo hi H (by omega) O
   cases T:q ((lo+hi)/2) with
   | true=>
    rw[T,if_pos rfl] at Y;obtain⟨j,j1,j2,j3,j4,j5⟩:=ih lo ((lo+hi)/2) (by omega) H (by omega) (by omega);refine⟨j,j1,by omega,by rw[zJ Y];exact j3,j4,fun i a b=>?_⟩
    by_cases z:i<(lo+hi)/2
    ·exact j5 i a z
    ·exact hm ((lo+hi)/2) i (by omega) (by omega) (by omega) T
   | false=>
    rw[T,if_neg (by simp)] at Y;obtain⟨j,j1,j2,j3,j4,j5⟩:=ih ((lo+hi)/2+1) hi (by omega) (by omega) (by omega) O;refine⟨j,by omega,j2,by rw[zJ Y];exact j3,fun i a b=>?_,j5⟩
    by_cases z:(lo+hi)/2+1≤i
    ·exact j4 i z b
    ·cases Z:q i with
     | false=>rfl
     | true=>
      have:=hm i ((lo+hi)/2) (by omega) (by omega) (by omega) Z;rw[T] at this;cases this
theorem yOQ (t:List Int) (x:Int):∀(U p:List Int) (Y:Int),Y=((p.length+U.length+1:Nat):Int)→p.length+U.length≤2000→zC (fun (q:Int×(List Int))=>yS Y q.1 q.2) ((p.length:Int),p++x::U++t)=some (p++U++x::t)
 | [],p,Y,z,h=>by
  refine zF ?_;show yS Y _ _=_;have:wi (Y-1)=((p.length+0:Nat):Int):=by rw[wn (by rw[z];simp) (by rw[z];simp;simp at h;omega),z];simp
  simp only[yS,this,kB (k:=p.length) (n:=p.length+0) (by omega),cond_false];simp
 | y::U,p,Y,z,h=>by
  simp only[List.length_cons] at z h;have T:wi (Y-1)=((p.length+(U.length+1):Nat):Int):=by rw[wn (by rw[z];omega) (by rw[z];omega),z];omega
  have G:p++x::y::U++t=p++x::(y::U++t):=by simp
  have H:p++x::y::U++t=(p++ [x])++y::(U++t):=by simp
  have O:wi ((p.length:Int)+1)=((p.length+1:Nat):Int):=zK (by omega);have Z:z7 (p++x::y::U++t) ((p.length+1:Nat):Int)=some y:=by rw[H];exact wH (by simp)
  have i2:z7 (p++x::y::U++t) (p.length:Int)=some x:=by rw[G];exact wH rfl
  have s1:uQ (p++x::y::U++t) (p.length:Int) y=some ((p++ [y])++y::(U++t)):=by rw[G,uP rfl];simp
  have i3:z7 ((p++ [y])++y::(U++t)) ((p.length+1:Nat):Int)=some y:=wH (by simp);have s2:uQ ((p++ [y])++y::(U++t)) ((p.length+1:Nat):Int) x=some ((p++ [y])++x::(U++t)):=uP (by simp);rw[zJ (x':=(((p++ [y]).length:Int),(p++ [y])++x::U++t)),yOQ t x U (p++ [y]) Y (by rw[z];simp;omega) (by simp;omega)]
  simp;show yS Y _ _=_;simp only[yS,T,yI (k:=p.length) (n:=p.length+(U.length+1)) (by omega),cond_true,O,Z,i2,s1,i3,s2,zA];simp
theorem yOR (t p:List Int) (y:Int):∀(r:List Int),p.length+r.length≤2000→∀t,zC (fun (q:Int×(List Int))=>yU (p.length:Int) q.1 q.2) (((p.length+r.length:Nat):Int),p++r.reverse++y::t)=some (p++y::r.reverse++t)
 | [],h,t=>by
  refine zF ?_;show yU _ _ _=_;simp only[yU,List.length_nil,kB (k:=p.length) (n:=p.length+0) (by omega),cond_false];simp
 | x::r,h,t=>by
  simp only[List.length_cons] at h;have O:((p.length+(x::r).length:Nat):Int)=((p.length+r.length+1:Nat):Int):=by simp;omega
  have z:p++(x::r).reverse++y::t=(p++r.reverse++ [x])++y::t:=by simp
  have H:p++(x::r).reverse++y::t=(p++r.reverse)++x::(y::t):=by simp
  have T:z7 (p++(x::r).reverse++y::t) ((p.length+r.length:Nat):Int)=some x:=by rw[H];exact wH (by simp)
  have Y:z7 (p++(x::r).reverse++y::t) ((p.length+r.length+1:Nat):Int)=some y:=by rw[z];exact wH (by simp;omega)
  have s1:uQ (p++(x::r).reverse++y::t) ((p.length+r.length+1:Nat):Int) x=some ((p++r.reverse++ [x])++x::t):=by rw[z];exact uP (by simp;omega)
  have G:(p++r.reverse++ [x])++x::t=(p++r.reverse)++x::(x::t):=by simp
  have Z:z7 ((p++r.reverse++ [x])++x::t) ((p.length+r.length:Nat):Int)=some x:=by rw[G];exact wH (by simp)
  have s2:uQ ((p++r.reverse++ [x])++x::t) ((p.length+r.length:Nat):Int) y=some ((p++r.reverse)++y::(x::t)):=by rw[G];exact uP (by simp)
  rw[O,zJ (x':=(((p.length+r.length:Nat):Int),p++r.reverse++y::(x::t))),yOR t p y r (by omega) (x::t)];simp;show yU _ _ _=_;simp only[yU,yI (k:=p.length) (n:=p.length+r.length+1) (by omega),cond_true,yEB (k:=p.length+r.length) (by omega),T,Y,s1,Z,s2,zA]
theorem zFI {l:List Int} {x:Int} {n:Nat} (h:x∈l.take n):∃i,i<n∧i<l.length∧nth l i=x:=by obtain⟨i,hi,e⟩:=List.getElem_of_mem h;simp at hi;refine⟨i,by omega,by omega,?_⟩;rw[zCC (by omega)];simpa using e
theorem zHW {l:List Int} {x:Int} {n:Nat} (h:x∈l.drop n):∃i,n≤i∧i<l.length∧nth l i=x:=by obtain⟨i,hi,e⟩:=List.getElem_of_mem h;simp at hi;refine⟨n+i,by omega,by omega,?_⟩;rw[zCC (by omega)];simpa using e
section
variable {key:Int→Int} {f:Int→Int→Option Int} (hf:∀x y,f x y=some (sg (key x) (key y)))
include hf
theorem yQK {aa:List Int→Int→Int→Int→(Int→Int→Option Int)→Option (List Int)} {p R s:List Int} {x:Int} {a m b:Int} (hR:Srt key R) (ha:a=(p.length:Int)) (hm:m=((p.length+1:Nat):Int)) (hb:b=((p.length+1+R.length:Nat):Int)) (h:p.length+1+R.length≤2000):
  ∃M,yH aa (p++ [x]++R++s) a m b f=some (p++M++s)∧Srt key M∧Flt key ([x]++R) M:=by
 have hd:∀i,i<R.length→z7 (p++ [x]++R++s) ((p.length+1+i:Nat):Int)=some (nth R i):=fun i hi=>by
  rw[z1 (by simp;omega),List.append_assoc (p++ [x]),z7H (j:=i) (by simp),z7G hi]
 have hx:z7 (p++ [x]++R++s) (p.length:Int)=some x:=by
  rw[show p++ [x]++R++s=p++x::(R++s) by simp];exact wH rfl
 obtain⟨j,j1,j2,j3,j4,j5⟩:=z5Q (body:=fun (q:Int×Int)=>yR (p++ [x]++R++s) a f q.1 q.2) (fun k=>!decide (key (nth R (k-(p.length+1)))<key x)) (p.length+1) (p.length+1+R.length)
  (fun k _ _=>by
   show yR _ a f _ _=_;simp only[yR,kB (Nat.le_refl _),cond_false])
  (fun lo hi T G h3=>by
   show yR _ a f _ _=_;have e:(lo+hi)/2=p.length+1+((lo+hi)/2-(p.length+1)):=by omega
   have Z:z7 (p++ [x]++R++s) (((lo+hi)/2:Nat):Int)=some (nth R ((lo+hi)/2-(p.length+1))):=by
    have:=hd ((lo+hi)/2-(p.length+1)) (by omega);rw[←e] at this;exact this
   simp only[yR,yI G,cond_true,zOC (lo:=lo) (hi:=hi) (by omega),Z,ha,hx,zA,hf,z7F];by_cases hc:key (nth R ((lo+hi)/2-(p.length+1)))<key x
   ·simp only[hc,decide_true,cond_true,zA,Bool.not_true,Bool.false_eq_true,if_false,zK (k:=(lo+hi)/2) (by omega)]
   ·simp only[hc,decide_false,cond_false,zA,Bool.not_false,if_true])
  (fun i k T G h3 hq=>by
   simp only[Bool.not_eq_true',decide_eq_false_iff_not] at hq ⊢;have:=zJG hR (i:=i-(p.length+1)) (j:=k-(p.length+1)) (by omega) (by omega);omega) (R.length) (p.length+1) (p.length+1+R.length) (by omega) (by omega) (by omega) (by omega)
 refine⟨R.take (j-(p.length+1))++ [x]++R.drop (j-(p.length+1)),?_,?_,?_⟩
 ·unfold yH
  have e1:decide (wi (m-a)=1)=true:=by rw[wn (by omega) (by omega)];simp;omega
  rw[e1,cond_true,hm,hb,j3,zA];have:=yOQ (R.drop (j-(p.length+1))++s) x (R.take (j-(p.length+1))) p (j:Int) (by simp;omega) (by simp;omega)
  rw[ha];rw[show p++x::R.take (j-(p.length+1))++(R.drop (j-(p.length+1))++s)=p++ [x]++R++s by
   rw[←List.append_assoc,List.append_assoc p,List.cons_append,List.append_assoc p,List.cons_append,List.take_append_drop];simp] at this
  rw[this];simp
 ·have Y:∀y∈R.take (j-(p.length+1)),key y<key x:=fun y hy=>by
   obtain⟨i,i1,i2,rfl⟩:=zFI hy;have:=j4 (p.length+1+i) (by omega) (by omega);simpa using this
  have hD:∀y∈R.drop (j-(p.length+1)),key x≤key y:=fun y hy=>by
   obtain⟨i,i1,i2,rfl⟩:=zHW hy;have:=j5 (p.length+1+i) (by omega) (by omega);simpa using this
  have H:=hR;rw[←List.take_append_drop (j-(p.length+1)) R] at H;obtain⟨r1,r2,r3⟩:=zHV.1 H;refine zHV.2 ⟨zHV.2 ⟨r1,List.pairwise_singleton _ _,fun y hy z O=>?_⟩,r2,fun y hy z O=>?_⟩
  ·simp at O;rw[O];have:=Y y hy;omega
  ·rcases List.mem_append.1 hy with hy | hy
   ·exact r3 y hy z O
   ·simp at hy;rw[hy];exact hD z O
 ·have Y:∀y∈R.take (j-(p.length+1)),key y<key x:=fun y hy=>by
   obtain⟨i,i1,i2,rfl⟩:=zFI hy;have:=j4 (p.length+1+i) (by omega) (by omega);simpa using this
  have T:Flt key ([x]++R.take (j-(p.length+1))) (R.take (j-(p.length+1))++ [x]):=Flt.swap fun u hu v hv=>by
   simp at hu;rw[hu];have:=Y v hv;omega
  have G:=T.app (Flt.refl (R.drop (j-(p.length+1))));rw[List.append_assoc,List.take_append_drop] at G;exact G
theorem yQL {ab:List Int→Int→Int→Int→(Int→Int→Option Int)→Option (List Int)} {p L s:List Int} {y:Int} {a m b:Int} (hL:Srt key L) (H:2≤L.length) (ha:a=(p.length:Int)) (Z:m=((p.length+L.length:Nat):Int)) (hb:b=((p.length+L.length+1:Nat):Int)) (h:p.length+L.length+1≤2000):
  ∃M,yH ab (p++L++ [y]++s) a m b f=some (p++M++s)∧Srt key M∧Flt key (L++ [y]) M:=by
 have hd:∀i,i<L.length→z7 (p++L++ [y]++s) ((p.length+i:Nat):Int)=some (nth L i):=fun i hi=>by
  rw[z1 (by simp;omega),List.append_assoc,List.append_assoc,z7H (j:=i) rfl,z7G hi]
 have hy:z7 (p++L++ [y]++s) ((p.length+L.length:Nat):Int)=some y:=by
  rw[show p++L++ [y]++s=(p++L)++y::s by simp];exact wH (by simp)
 obtain⟨j,j1,j2,j3,j4,j5⟩:=z5Q (body:=fun (q:Int×Int)=>yT (p++L++ [y]++s) m f q.1 q.2) (fun k=>decide (key y<key (nth L (k-p.length)))) p.length (p.length+L.length)
  (fun k _ _=>by
   show yT _ m f _ _=_;simp only[yT,kB (Nat.le_refl _),cond_false])
  (fun lo hi T H h3=>by
   show yT _ m f _ _=_;have e:(lo+hi)/2=p.length+((lo+hi)/2-p.length):=by omega
   have Y:z7 (p++L++ [y]++s) (((lo+hi)/2:Nat):Int)=some (nth L ((lo+hi)/2-p.length)):=by
    have:=hd ((lo+hi)/2-p.length) (by omega);rw[←e] at this;exact this
   simp only[yT,yI H,cond_true,zOC (lo:=lo) (hi:=hi) (by omega),Y,Z,hy,zA,hf,z7F];by_cases hc:key y<key (nth L ((lo+hi)/2-p.length))
   ·simp only[hc,decide_true,Bool.not_true,cond_false,zA,if_true]
   ·simp only[hc,decide_false,Bool.not_false,cond_true,zA,Bool.false_eq_true,if_false,zK (k:=(lo+hi)/2) (by omega)])
  (fun i k T H h3 hq=>by
   simp only[decide_eq_true_eq] at hq ⊢;have:=zJG hL (i:=i-p.length) (j:=k-p.length) (by omega) (by omega);omega) L.length p.length (p.length+L.length) (by omega) (by omega) (by omega) (by omega)
 have hT:∀z∈L.take (j-p.length),key z≤key y:=fun z hz=>by
  obtain⟨i,i1,i2,rfl⟩:=zFI hz;have:=j4 (p.length+i) (by omega) (by omega);simpa using this
 have hD:∀z∈L.drop (j-p.length),key y<key z:=fun z hz=>by
  obtain⟨i,i1,i2,rfl⟩:=zHW hz;have:=j5 (p.length+i) (by omega) (by omega);simpa using this
 refine⟨L.take (j-p.length)++([y]++L.drop (j-p.length)),?_,?_,?_⟩
 ·unfold yH
  have e1:decide (wi (m-a)=1)=false:=by rw[wn (by omega) (by omega)];simp;omega
  have e2:decide (wi (b-m)=1)=true:=by rw[wn (by omega) (by omega)];simp;omega
  rw[e1,cond_false,e2,cond_true,ha,Z];rw[Z] at j3;rw[j3,zA];have:=yOR s (p++L.take (j-p.length)) y (L.drop (j-p.length)).reverse (by simp;omega) s
  rw[List.reverse_reverse] at this;have e3:((p++L.take (j-p.length)).length:Int)=(j:Int):=by simp;omega
  have e4:(((p++L.take (j-p.length)).length+(L.drop (j-p.length)).reverse.length:Nat):Int)=((p.length+L.length:Nat):Int):=by simp;omega
  rw[e3,e4] at this;rw[show p++L.take (j-p.length)++L.drop (j-p.length)++y::s=p++L++ [y]++s by rw[List.append_assoc p,List.take_append_drop];simp] at this
  rw[this];simp
 ·have O:=hL
  rw[←List.take_append_drop (j-p.length) L] at O;obtain⟨r1,r2,r3⟩:=zHV.1 O;refine zHV.2 ⟨r1,zHV.2 ⟨List.pairwise_singleton _ _,r2,fun u G v hv=>?_⟩,fun u G v hv=>?_⟩
  ·simp at G;rw[G];have:=hD v hv;omega
  ·rcases List.mem_append.1 hv with hv | hv
   ·simp at hv;rw[hv];exact hT u G
   ·exact r3 u G v hv
 ·have T:Flt key (L.drop (j-p.length)++ [y]) ([y]++L.drop (j-p.length)):=Flt.swap fun u G v hv=>by
   simp at hv;rw[hv];have:=hD u G;omega
  have H:=(Flt.refl (key:=key) (L.take (j-p.length))).app T;rw[←List.append_assoc,List.take_append_drop] at H;exact H
end
end Go.M
namespace Go.M
open Go.AV
set_option linter.unusedSimpArgs false
set_option linter.unusedVariables false
section
variable {key:Int→Int} {f:Int→Int→Option Int} (hf:∀x y,f x y=some (sg (key x) (key y)))
include hf
theorem yQM {ak:List Int→Int→Int→Int→(Int→Int→Option Int)→Option (List Int)} {p L R s:List Int} {a m b:Int} (hL:Srt key L) (hR:Srt key R) (l2:2≤L.length) (r2:2≤R.length) (ha:a=(p.length:Int)) (hm:m=((p.length+L.length:Nat):Int)) (hb:b=((p.length+L.length+R.length:Nat):Int)) (h:p.length+L.length+R.length≤2000)
  (ih:∀(p L' R' s:List Int) (a m b:Int),2*(L'.length+R'.length)≤L.length+R.length+1→0<L'.length→0<R'.length→Srt key L'→Srt key R'→a=(p.length:Int)→m=((p.length+L'.length:Nat):Int)→b=((p.length+L'.length+R'.length:Nat):Int)→p.length+L'.length+R'.length≤2000→
   ∃M,ak (p++L'++R'++s) a m b f=some (p++M++s)∧Srt key M∧Flt key (L'++R') M):
  ∃M,yH ak (p++L++R++s) a m b f=some (p++M++s)∧Srt key M∧Flt key (L++R) M:=by
 obtain⟨A,hA⟩:∃A,A=p.length:=⟨_,rfl⟩;obtain⟨K,hK⟩:∃K,K=L.length:=⟨_,rfl⟩;obtain⟨N,hN⟩:∃N,N=R.length:=⟨_,rfl⟩;obtain⟨z,bc⟩:∃z,z=(A+(A+K+N))/2:=⟨_,rfl⟩;have bt:∀i,i<K→z7 (p++L++R++s) ((A+i:Nat):Int)=some (nth L i):=fun i hi=>by
  rw[z1 (by simp;omega),List.append_assoc,List.append_assoc,z7H (j:=i) (by omega),z7G (by omega)]
 have bu:∀i,i<N→z7 (p++L++R++s) ((A+K+i:Nat):Int)=some (nth R i):=fun i hi=>by
  rw[z1 (by simp;omega),List.append_assoc (p++L),z7H (j:=i) (by simp;omega),z7G (by omega)]
 obtain⟨s0,r0,h0,bx,cx,cu,cv,ag⟩:∃s0 r0:Nat,(cond (decide ((z:Int)<m)) (some (wi (wi ((z:Int)+m)-b),(z:Int))) (some (a,m)):Option (Int×Int))=some ((s0:Int),(r0:Int))∧s0≤r0∧A≤s0∧r0≤A+K∧r0≤z∧((s0=A∧r0=A+K∧A+K≤z)∨(z=s0+N∧r0=z∧z<A+K)):=by
  by_cases hc:z<A+K
  ·refine⟨z+(A+K)-(A+K+N),z,?_,by omega,by omega,by omega,by omega,.inr ⟨by omega,rfl,by omega⟩⟩
   have:decide ((z:Int)<m)=true:=by simp;omega
   rw[this,cond_true,wn (n:=(z:Int)+m) (by omega) (by omega),wn (by omega) (by omega)];congr 2;omega
  ·refine⟨A,A+K,?_,by omega,by omega,by omega,by omega,.inl ⟨rfl,rfl,by omega⟩⟩
   have:decide ((z:Int)<m)=false:=by simp;omega
   rw[this,cond_false,ha,hm,hA,hK]
 have ah:wi ((wu (wi (a+b)))/2 ^ 1)=(z:Int):=by
  rw[ha,hb,←hA,←hK,←hN,zOC (lo:=A) (hi:=A+K+N) (by omega),bc]
 have ar:∀c,s0≤c→c<r0→A≤c∧c-A<K∧A+K≤z+(A+K)-1-c∧z+(A+K)-1-c-(A+K)<N:=fun c Y h2=>by
  rcases ag with h3 | h3<;>omega
 obtain⟨j,j1,j2,j3,j4,j5⟩:=z5Q (body:=fun (q:Int×Int)=>yV (p++L++R++s) a b m f q.1 q.2) (fun c=>decide (key (nth R (z+(A+K)-1-c-(A+K)))<key (nth L (c-A)))) s0 r0
  (fun k _ _=>by
   show yV _ a b m f _ _=_;simp only[yV,kB (Nat.le_refl _),cond_false])
  (fun lo hi Y h2 h3=>by
   show yV _ a b m f _ _=_;obtain⟨c1,c2,c3,c4⟩:=ar ((lo+hi)/2) (by omega) (by omega);have i1:z7 (p++L++R++s) (((lo+hi)/2:Nat):Int)=some (nth L ((lo+hi)/2-A)):=by
    have:=bt ((lo+hi)/2-A) c2;rw[show A+((lo+hi)/2-A)=(lo+hi)/2 by omega] at this;exact this
   have i2:z7 (p++L++R++s) ((z+(A+K)-1-(lo+hi)/2:Nat):Int)=some (nth R (z+(A+K)-1-(lo+hi)/2-(A+K))):=by
    have:=bu (z+(A+K)-1-(lo+hi)/2-(A+K)) c4;rw[show A+K+(z+(A+K)-1-(lo+hi)/2-(A+K))=z+(A+K)-1-(lo+hi)/2 by omega] at this;exact this
   have e1:wi (wi (wi ((z:Int)+m)-1)-(((lo+hi)/2:Nat):Int))=((z+(A+K)-1-(lo+hi)/2:Nat):Int):=by
    rw[wn (n:=(z:Int)+m) (by omega) (by omega),wn (n:=(z:Int)+m-1) (by omega) (by omega),wn (by omega) (by omega)];omega
   simp only[yV,yI h2,cond_true,ah,zOC (lo:=lo) (hi:=hi) (by omega),e1,i1,i2,zA,hf,z7F];by_cases hc:key (nth R (z+(A+K)-1-(lo+hi)/2-(A+K)))<key (nth L ((lo+hi)/2-A))
   ·simp only[hc,decide_true,Bool.not_true,cond_false,zA,if_true]
   ·simp only[hc,decide_false,Bool.not_false,cond_true,zA,Bool.false_eq_true,if_false,zK (k:=(lo+hi)/2) (by omega)])
  (fun i k Y h2 h3 hq=>by
   simp only[decide_eq_true_eq] at hq ⊢;obtain⟨c1,c2,c3,c4⟩:=ar i Y (by omega);obtain⟨d1,d2,d3,d4⟩:=ar k (by omega) h3;have q1:=zJG hL (i:=i-A) (j:=k-A) (by omega) (by omega);have q2:=zJG hR (i:=z+(A+K)-1-k-(A+K)) (j:=z+(A+K)-1-i-(A+K)) (by omega) (by omega);omega) (r0-s0) s0 r0 (by omega) (by omega) bx (by omega)
 obtain⟨L1,an⟩:∃x,x=L.take (j-A):=⟨_,rfl⟩;obtain⟨H,ao⟩:∃x,x=L.drop (j-A):=⟨_,rfl⟩;obtain⟨Z,ap⟩:∃x,x=R.take (z-j):=⟨_,rfl⟩;obtain⟨O,aq⟩:∃x,x=R.drop (z-j):=⟨_,rfl⟩;have eL:L=L1++H:=by rw[an,ao,List.take_append_drop]
 have eR:R=Z++O:=by rw[ap,aq,List.take_append_drop]
 have df:L1.length=j-A:=by rw[an];simp;omega
 have dj:Z.length=z-j:=by rw[ap];simp;rcases ag with h3 | h3<;>omega
 have dg:H.length=A+K-j:=by rw[ao];simp;omega
 have dk:O.length=N-(z-j):=by rw[aq];simp;omega
 have cp:j≤z:=by omega
 have cn:z-j≤N:=by rcases ag with h3 | h3<;>omega
 have bb:∀x∈Z,∀y∈H,key x<key y:=fun x T y hy=>by
  rw[ap] at T;rw[ao] at hy;obtain⟨i,i1,i2,rfl⟩:=zFI T;obtain⟨k,k1,k2,rfl⟩:=zHW hy;have bv:j<r0:=by rcases ag with h4 | h4<;>omega
  have:=j5 j (Nat.le_refl _) bv;simp only[decide_eq_true_eq] at this;have q1:=zJG hL (i:=j-A) (j:=k) (by omega) (by omega);have q2:=zJG hR (i:=i) (j:=z+(A+K)-1-j-(A+K)) (by omega) (by omega);omega
 have bw:∀x∈L1,∀y∈O,key x≤key y:=fun x T y hy=>by
  rw[an] at T;rw[aq] at hy;obtain⟨i,i1,i2,rfl⟩:=zFI T;obtain⟨k,k1,k2,rfl⟩:=zHW hy;have cq:s0<j:=by rcases ag with h4 | h4<;>omega
  have:=j4 (j-1) (by omega) (by omega);simp only[decide_eq_false_iff_not] at this;have q1:=zJG hL (i:=i) (j:=j-1-A) (by omega) (by omega);have q2:=zJG hR (i:=z+(A+K)-1-(j-1)-(A+K)) (j:=k) (by omega) (by omega);omega
 rw[eL] at hL;rw[eR] at hR;obtain⟨be,bf,bn⟩:=zHV.1 hL;obtain⟨bg,bh,bq⟩:=zHV.1 hR;have ba:wi (wi ((z:Int)+m)-(j:Int))=((z+(A+K)-j:Nat):Int):=by
  rw[wn (n:=(z:Int)+m) (by omega) (by omega),wn (by omega) (by omega)];omega
 unfold yH;have e1:decide (wi (m-a)=1)=false:=by rw[wn (by omega) (by omega)];simp;omega
 have e2:decide (wi (b-m)=1)=false:=by rw[wn (by omega) (by omega)];simp;omega
 simp only[e1,cond_false,e2,ah,h0,zA,j3,ba,zH];have bd:(cond (decide ((j:Int)<m)&&decide (m<((z+(A+K)-j:Nat):Int))) ((jU (p++L++R++s) (j:Int) m ((z+(A+K)-j:Nat):Int) f).bind fun bi=>some bi) (some (p++L++R++s)):Option (List Int))=some (p++L1++Z++(H++O++s)):=by
  by_cases hc:j<A+K∧A+K<z+(A+K)-j
  ·have G:(decide ((j:Int)<m)&&decide (m<((z+(A+K)-j:Nat):Int)))=true:=by simp;omega
   have hr:=yMI (f:=f) (P:=p++L1) (U:=H) (V:=Z) (S:=O++s) (a:=(j:Int)) (m:=m) (b:=((z+(A+K)-j:Nat):Int)) (by simp;omega) (by simp;omega) (by simp;omega) (by omega) (by omega) (by simp;omega)
   rw[show p++L1++H++Z++(O++s)=p++L++R++s by rw[eL,eR];simp] at hr
   rw[G,cond_true,hr];simp
  ·have G:(decide ((j:Int)<m)&&decide (m<((z+(A+K)-j:Nat):Int)))=false:=by
    simp only[Bool.and_eq_false_iff,decide_eq_false_iff_not];by_cases Y:j<A+K
    ·right;omega
    ·left;omega
   rw[G,cond_false];by_cases Y:j<A+K
   ·have:Z= []:=List.eq_nil_of_length_eq_zero (by omega)
    rw[eL,eR,this];simp
   ·have:H= []:=List.eq_nil_of_length_eq_zero (by omega)
    rw[eL,eR,this];simp
 rw[bd,zA];obtain⟨M1,bo,cb,am⟩:∃M1,(cond (decide (a<(j:Int))&&decide ((j:Int)<(z:Int))) ((ak (p++L1++Z++(H++O++s)) a (j:Int) (z:Int) f).bind fun bj=>some bj) (some (p++L1++Z++(H++O++s))):Option (List Int))=some (p++M1++(H++O++s))∧Srt key M1∧Flt key (L1++Z) M1:=by
  by_cases hc:A<j∧j<z
  ·have G:(decide (a<(j:Int))&&decide ((j:Int)<(z:Int)))=true:=by simp;omega
   obtain⟨M,Y,h2,h3⟩:=ih p L1 Z (H++O++s) a (j:Int) (z:Int) (by omega) (by omega) (by omega) be bg ha (by omega) (by omega) (by omega);exact⟨M,by rw[G,cond_true,Y];rfl,h2,h3⟩
  ·have G:(decide (a<(j:Int))&&decide ((j:Int)<(z:Int)))=false:=by
    simp only[Bool.and_eq_false_iff,decide_eq_false_iff_not];by_cases Y:A<j
    ·right;omega
    ·left;omega
   refine⟨L1++Z,by rw[G,cond_false];simp,?_,Flt.refl _⟩
   by_cases Y:A<j
   ·have:Z= []:=List.eq_nil_of_length_eq_zero (by omega)
    rw[this];simpa using be
   ·have:L1= []:=List.eq_nil_of_length_eq_zero (by omega)
    rw[this];simpa using bg
 rw[bo,zA];have dh:M1.length=z-A:=by rw[←am.len];simp;omega
 obtain⟨M2,bp,cc,ax⟩:∃M2,(cond (decide ((z:Int)<((z+(A+K)-j:Nat):Int))&&decide (((z+(A+K)-j:Nat):Int)<b)) ((ak (p++M1++(H++O++s)) (z:Int) ((z+(A+K)-j:Nat):Int) b f).bind fun bk=>some bk) (some (p++M1++(H++O++s))):Option (List Int))=some (p++(M1++M2)++s)∧Srt key M2∧Flt key (H++O) M2:=by
  by_cases hc:z<z+(A+K)-j∧z+(A+K)-j<A+K+N
  ·have G:(decide ((z:Int)<((z+(A+K)-j:Nat):Int))&&decide (((z+(A+K)-j:Nat):Int)<b))=true:=by simp;omega
   obtain⟨M,Y,h2,h3⟩:=ih (p++M1) H O s (z:Int) ((z+(A+K)-j:Nat):Int) b (by omega) (by omega) (by omega) bf bh (by simp;omega) (by simp;omega) (by simp;omega) (by simp;omega)
   rw[show p++M1++H++O++s=p++M1++(H++O++s) by simp] at Y;exact⟨M,by rw[G,cond_true,Y];simp,h2,h3⟩
  ·have G:(decide ((z:Int)<((z+(A+K)-j:Nat):Int))&&decide (((z+(A+K)-j:Nat):Int)<b))=false:=by
    simp only[Bool.and_eq_false_iff,decide_eq_false_iff_not];by_cases Y:z<z+(A+K)-j
    ·right;omega
    ·left;omega
   refine⟨H++O,by rw[G,cond_false];simp,?_,Flt.refl _⟩
   by_cases Y:z<z+(A+K)-j
   ·have:O= []:=List.eq_nil_of_length_eq_zero (by omega)
    rw[this];simpa using bf
   ·have:H= []:=List.eq_nil_of_length_eq_zero (by omega)
    rw[this];simpa using bh
 refine⟨M1++M2,bp,zHV.2 ⟨cb,cc,fun x T y hy=>?_⟩,?_⟩
 ·have T:=am.mem.2 T
  have hy:=ax.mem.2 hy;rcases List.mem_append.1 T with T | T<;>rcases List.mem_append.1 hy with hy | hy
  ·exact bn x T y hy
  ·exact bw x T y hy
  ·have:=bb x T y hy;omega
  ·exact bq x T y hy
 ·have Y:Flt key (H++Z) (Z++H):=Flt.swap fun x T y hy=>by have:=bb y hy x T;omega
  have h2:=(Flt.refl (key:=key) L1).app (Y.app (Flt.refl O));have h3:=am.app ax;rw[eL,eR];refine Flt.trans ?_ h3;simpa using h2
theorem yEC:∀(n:Nat) (p L R s:List Int) (a m b:Int),L.length+R.length≤2 ^ n→0<L.length→0<R.length→Srt key L→Srt key R→a=(p.length:Int)→m=((p.length+L.length:Nat):Int)→b=((p.length+L.length+R.length:Nat):Int)→p.length+L.length+R.length≤2000→
  ∃M,yX (n+1) (p++L++R++s) a m b f=some (p++M++s)∧Srt key M∧Flt key (L++R) M:=by
 intro n
 induction n with
 | zero=>intro p L R s a m b h;omega
 | succ n ih=>
  intro p L R s a m b Z l1 r1 G H k z hb h;show ∃M,yH (yX (n+1)) (p++L++R++s) a m b f=_∧_;by_cases hl:L.length=1
  ·obtain⟨x,rfl⟩:=List.length_eq_one_iff.1 hl
   exact yQK hf H k (by simpa using z) (by simpa using hb) (by simpa using h)
  ·by_cases hr:R.length=1
   ·obtain⟨y,rfl⟩:=List.length_eq_one_iff.1 hr
    exact yQL hf G (by omega) k z (by simpa using hb) (by simpa using h)
   ·refine yQM hf G H (by omega) (by omega) k z hb h fun p' O R' s' T m' Y h1=>ih p' O R' s' T m' Y ?_
    rw[Nat.pow_succ] at Z;omega
end
end Go.M
namespace Go.M
open Go.AV
set_option linter.unusedSimpArgs false
set_option linter.unusedVariables false
section
variable {key:Int→Int} {f:Int→Int→Option Int} (hf:∀x y,f x y=some (sg (key x) (key y)))
theorem k59:(2000:Nat)≤2 ^ 59:=by decide
def OkB (key:Int→Int) (bs:Nat) (Bs:List (List Int)):Prop:= ∀B∈Bs,B.length=bs∧Srt key B
include hf
theorem yQN:∀(n:Nat) (P rest:List Int) (Nn:Int),rest.length≤n→Nn=((P.length+rest.length:Nat):Int)→P.length+rest.length≤2000→
  ∃Bs G,zC (fun (x:Int×Int×(List Int))=>yC Nn f x.1 x.2.1 x.2.2) ((P.length:Int),((P.length+20:Nat):Int),P++rest)=some (((P.length+(Bs.flatten).length:Nat):Int),P++Bs.flatten++G)∧OkB key 20 Bs∧G.length<20∧Flt key rest (Bs.flatten++G):=by
 intro n
 induction n with
 | zero=>
  intro P rest Nn hn Y h;have:rest= []:=List.eq_nil_of_length_eq_zero (by omega);subst this;refine⟨[],[],zF ?_,(fun B z=>by cases z),by simp,Flt.refl _⟩;show yC Nn f _ _ _=_;have H:decide (((P.length+20:Nat):Int)≤Nn)=false:=by simp at Y ⊢;omega
  simp only[yC,H,cond_false];simp
 | succ n ih=>
  intro P rest Nn hn Y h;by_cases hc:20≤rest.length
  ·have Z:=yOP hf (p:=P) (m:=rest.take 20) (t:=rest.drop 20) (a:=(P.length:Int)) (b:=((P.length+20:Nat):Int)) rfl (by simp;omega) (by simp;omega)
   rw[List.append_assoc P,List.take_append_drop] at Z;have k:=zM7 (key:=key) (rest.take 20) [];rw[List.nil_append] at k;obtain⟨B,z⟩:∃B,B=uW (fun a b=>decide (key a<key b)) (rest.take 20) []:=⟨_,rfl⟩;rw[←z] at Z k;have O:B.length=20:=by rw[←k.len];simp;omega
   have T:Srt key B:=by rw[z];exact zQ3 _
   obtain⟨Bs,G,h1,h2,h3,h4⟩:=ih (P++B) (rest.drop 20) Nn (by simp;omega) (by rw[Y];simp;omega) (by simp;omega)
   refine⟨B::Bs,G,?_,?_,h3,?_⟩
   ·rw[zJ (x':=(((P++B).length:Int),(((P++B).length+20:Nat):Int),(P++B)++rest.drop 20)),h1]
    ·simp[Nat.add_assoc]
    ·show yC Nn f _ _ _=_
     have H:decide (((P.length+20:Nat):Int)≤Nn)=true:=by simp;omega
     have e2:wi (((P.length+20:Nat):Int)+20)=(((P++B).length+20:Nat):Int):=by rw[wn (by omega) (by omega)];simp;omega
     have e3:((P.length+20:Nat):Int)=((P++B).length:Int):=by simp;omega
     simp only[yC,H,cond_true,Z,zA,e2];rw[e3]
   ·intro C hC
    rcases List.mem_cons.1 hC with e | e
    ·rw[e];exact⟨O,T⟩
    ·exact h2 C e
   ·have:=k.app h4
    rw[List.take_append_drop] at this;simpa using this
  ·refine⟨[],rest,zF ?_,(fun B z=>by cases z),by omega,Flt.refl _⟩
   show yC Nn f _ _ _=_;have H:decide (((P.length+20:Nat):Int)≤Nn)=false:=by simp;omega
   simp only[yC,H,cond_false];simp
theorem yOS (bs:Nat) (Z:0<bs) (aa:bs≤2000) (T:List Int) (hT:T.length<bs):∀(Bs:List (List Int)) (P:List Int) (Nn:Int),OkB key bs Bs→Nn=((P.length+Bs.flatten.length+T.length:Nat):Int)→P.length+Bs.flatten.length+T.length≤2000→
  ∃Cs Ds,zC (fun (x:Int×Int×(List Int))=>yD Nn (bs:Int) f x.1 x.2.1 x.2.2) ((P.length:Int),((P.length+2*bs:Nat):Int),P++Bs.flatten++T)=some (((P.length+Cs.flatten.length:Nat):Int),P++Cs.flatten++Ds.flatten++T)∧OkB key (2*bs) Cs∧OkB key bs Ds∧Ds.length≤1∧Flt key Bs.flatten (Cs.flatten++Ds.flatten)
 | [],P,Nn,z,G,h=>by
  refine⟨[],[],zF ?_,(fun B k=>by cases k),(fun B k=>by cases k),by simp,Flt.refl _⟩;show yD Nn _ f _ _ _=_;have H:decide (((P.length+2*bs:Nat):Int)≤Nn)=false:=by simp at G ⊢;omega
  simp only[yD,H,cond_false];simp
 | [B],P,Nn,z,G,h=>by
  have k:=(z B (by simp)).1;refine⟨[],[B],zF ?_,(fun B k=>by cases k),z,by simp,by simpa using Flt.refl B⟩;show yD Nn _ f _ _ _=_;have H:decide (((P.length+2*bs:Nat):Int)≤Nn)=false:=by simp at G ⊢;omega
  simp only[yD,H,cond_false];simp
 | O::Y::Bs,P,Nn,z,G,h=>by
  obtain⟨l1,s1⟩:=z O (by simp);obtain⟨l2,s2⟩:=z Y (by simp);simp only[List.flatten_cons,List.length_append] at G h;obtain⟨M,m1,m2,m3⟩:=yEC hf 59 P O Y (Bs.flatten++T) (P.length:Int) ((P.length+bs:Nat):Int) ((P.length+2*bs:Nat):Int) (Nat.le_trans (by omega) k59) (by omega) (by omega) s1 s2 rfl (by rw[l1]) (by omega) (by omega);have hM:M.length=2*bs:=by rw[←m3.len];simp;omega
  obtain⟨Cs,Ds,h1,h2,h3,h4,h5⟩:=yOS bs Z aa T hT Bs (P++M) Nn (fun B k=>z B (by simp[k])) (by rw[G,List.length_append];omega) (by rw[List.length_append];omega)
  refine⟨M::Cs,Ds,?_,?_,h3,h4,?_⟩
  ·rw[zJ (x':=(((P++M).length:Int),(((P++M).length+2*bs:Nat):Int),(P++M)++Bs.flatten++T)),h1]
   ·simp[Nat.add_assoc]
   ·show yD Nn _ f _ _ _=_
    have H:decide (((P.length+2*bs:Nat):Int)≤Nn)=true:=by simp;omega
    have e0:wi ((P.length:Int)+(bs:Int))=((P.length+bs:Nat):Int):=by rw[wn (by omega) (by omega)];omega
    have e2:wi (2*(bs:Int))=((2*bs:Nat):Int):=by rw[wn (by omega) (by omega)];omega
    have e3:wi (((P.length+2*bs:Nat):Int)+((2*bs:Nat):Int))=(((P++M).length+2*bs:Nat):Int):=by rw[wn (by omega) (by omega)];simp;omega
    have e4:P++(O::Y::Bs).flatten++T=P++O++Y++(Bs.flatten++T):=by simp
    have e5:((P.length+2*bs:Nat):Int)=((P++M).length:Int):=by simp;omega
    simp only[yD,H,cond_true,e0,e2,e3,e4,m1,zA];rw[e5];simp
  ·intro C hC
   rcases List.mem_cons.1 hC with e | e
   ·rw[e];exact⟨hM,m2⟩
   ·exact h2 C e
  ·have:=m3.app h5
   simpa using this
theorem yQO (Nn:Int) (N:Nat) (G:Nn=(N:Int)) (ay:N≤2000):∀(n bs:Nat) (Bs:List (List Int)) (T:List Int),N-bs≤n→0<bs→bs≤4000→OkB key bs Bs→Srt key T→T.length<bs→Bs.flatten.length+T.length=N→
  ∃r,zC (fun (x:Int×(List Int))=>yK Nn f x.1 x.2) ((bs:Int),Bs.flatten++T)=some r∧Srt key r∧Flt key (Bs.flatten++T) r:=by
 have Y:∀(bs:Nat) (Bs:List (List Int)) (T:List Int),N≤bs→0<bs→OkB key bs Bs→Srt key T→T.length<bs→Bs.flatten.length+T.length=N→
  ∃r,zC (fun (x:Int×(List Int))=>yK Nn f x.1 x.2) ((bs:Int),Bs.flatten++T)=some r∧Srt key r∧Flt key (Bs.flatten++T) r:=by
  intro bs Bs T h1 Z H z h5 O;refine⟨Bs.flatten++T,zF ?_,?_,Flt.refl _⟩
  ·show yK Nn f _ _=_
   simp only[yK,G,kB h1,cond_false]
  ·cases Bs with
   | nil=>simpa using z
   | cons B Bs=>
    have hB:=H B (by simp);simp only[List.flatten_cons,List.length_append] at O;have e1:Bs.flatten= []:=List.eq_nil_of_length_eq_zero (by omega);have e2:T= []:=List.eq_nil_of_length_eq_zero (by omega);simp only[List.flatten_cons,e1,e2,List.append_nil];exact hB.2
 intro n
 induction n with
 | zero=>intro bs Bs T h1 Z ak H z h5 O;exact Y bs Bs T (by omega) Z H z h5 O
 | succ n ih=>
  intro bs Bs T h1 Z ak H z h5 O;by_cases hc:N≤bs
  ·exact Y bs Bs T hc Z H z h5 O
  ·obtain⟨Cs,Ds,c1,c2,c3,c4,c5⟩:=yOS hf bs Z (by omega) T h5 Bs [] Nn H (by rw[G,List.length_nil];omega) (by rw[List.length_nil];omega)
   simp only[List.length_nil,Nat.zero_add,List.nil_append] at c1;have ab:Cs.flatten.length+Ds.flatten.length=Bs.flatten.length:=by rw[c5.len,List.length_append]
   obtain⟨h,t1,t2,t3,t4⟩:∃h,(cond (decide ((wi (((Cs.flatten.length:Nat):Int)+(bs:Int)))<Nn)) ((yX 60 (Cs.flatten++Ds.flatten++T) ((Cs.flatten.length:Nat):Int) (wi (((Cs.flatten.length:Nat):Int)+(bs:Int))) Nn f).bind fun an=>some an) (some (Cs.flatten++Ds.flatten++T)):Option (List Int))=some (Cs.flatten++h)∧Srt key h∧h.length<2*bs∧Flt key (Ds.flatten++T) h:=by
    have e0:wi (((Cs.flatten.length:Nat):Int)+(bs:Int))=((Cs.flatten.length+bs:Nat):Int):=by rw[wn (by omega) (by omega)];omega
    match Ds,c3,c4 with
    | [],_,_=>
     simp only[List.flatten_nil,List.length_nil] at ab;refine⟨T,?_,z,by omega,by simpa using Flt.refl T⟩;rw[e0,G,kB (k:=Cs.flatten.length+bs) (n:=N) (by omega),cond_false];simp
    | [D],c3,_=>
     have hD:=c3 D (by simp);simp only[List.flatten_cons,List.flatten_nil,List.append_nil] at ab ⊢;by_cases am:T.length=0
     ·have:T= []:=List.eq_nil_of_length_eq_zero am
      subst this;refine⟨D,?_,hD.2,by omega,by simpa using Flt.refl D⟩;rw[e0,G,kB (k:=Cs.flatten.length+bs) (n:=N) (by rw[List.length_nil] at O;omega),cond_false]
      simp
     ·obtain⟨M,m1,m2,m3⟩:=yEC hf 59 Cs.flatten D T [] (Cs.flatten.length:Int) ((Cs.flatten.length+bs:Nat):Int) Nn (Nat.le_trans (by omega) k59) (by omega) (by omega) hD.2 z rfl (by rw[hD.1]) (by omega) (by omega)
      simp only[List.append_nil] at m1;refine⟨M,?_,m2,by rw[←m3.len,List.length_append];omega,m3⟩
      rw[e0,G,yI (k:=Cs.flatten.length+bs) (n:=N) (by omega),cond_true,←G,m1];rfl
   obtain⟨r,r1,r2,r3⟩:=ih (2*bs) Cs h (by omega) (by omega) (by omega) c2 t2 t3 (by rw[←t4.len,List.length_append];omega)
   refine⟨r,?_,r2,?_⟩
   ·rw[zJ (x':=(((2*bs:Nat):Int),Cs.flatten++h)),r1]
    show yK Nn f _ _=_;have e1:decide ((bs:Int)<Nn)=true:=by rw[G];exact yI (by omega)
    have e2:wi (2*(bs:Int))=((2*bs:Nat):Int):=by rw[wn (by omega) (by omega)];omega
    have e3:wi ((bs:Int)*2)=((2*bs:Nat):Int):=by rw[wn (by omega) (by omega)];omega
    simp only[yK,e1,cond_true,e2];have ac:zC (fun (x:Int×Int×(List Int))=>yD Nn (bs:Int) f x.1 x.2.1 x.2.2) (0,((2*bs:Nat):Int),Bs.flatten++T)=some (((Cs.flatten.length:Nat):Int),Cs.flatten++Ds.flatten++T):=c1;rw[ac,zA];simp only[t1,zA,e3]
   ·refine Flt.trans ?_ r3
    have:=c5.app (Flt.refl (key:=key) T);refine this.trans ?_;rw[List.append_assoc];exact(Flt.refl _).app t4
theorem yAL (l:List Int) (h:l.length≤2000):∃r,kM l f=some r∧Srt key r∧Flt key l r:=by
 unfold kM vA;obtain⟨Bs,z,O,Z,h3,T⟩:=yQN hf l.length [] l (l.length:Int) (Nat.le_refl _) (by simp) (by simpa using h);simp only[List.length_nil,Nat.zero_add,List.nil_append] at O;have G:zC (fun (x:Int×Int×(List Int))=>yC (l.length:Int) f x.1 x.2.1 x.2.2) (0,20,l)=some (((Bs.flatten.length:Nat):Int),Bs.flatten++z):=O;rw[G,zA];have hl:Bs.flatten.length+z.length=l.length:=by rw[T.len,List.length_append]
 have Y:=yOP hf (p:=Bs.flatten) (m:=z) (t:=[]) (a:=((Bs.flatten.length:Nat):Int)) (b:=(l.length:Int)) rfl (by omega) (by omega);simp only[List.append_nil] at Y;have k:=zM7 (key:=key) z [];rw[List.nil_append] at k;obtain⟨r,r1,r2,r3⟩:=yQO hf (l.length:Int) l.length rfl h l.length 20 Bs (uW (fun a b=>decide (key a<key b)) z []) (by omega) (by omega) (by omega) Z (zQ3 _) (by rw[←k.len];exact h3) (by rw[←k.len];exact hl)
 have H:zC (fun (x:Int×(List Int))=>yK (l.length:Int) f x.1 x.2) (20,Bs.flatten++uW (fun a b=>decide (key a<key b)) z [])=some r:=r1;refine⟨r,?_,r2,T.trans (((Flt.refl _).app k).trans r3)⟩;simp only[Y,zA,H]
end
end Go.M


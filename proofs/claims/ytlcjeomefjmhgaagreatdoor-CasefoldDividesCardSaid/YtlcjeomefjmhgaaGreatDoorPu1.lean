/- What the plain counterparts answer. Conditions: none. -/
import Derived.Test.YtlcjeomefjmhgaaGreatDoorMir
set_option linter.unusedSimpArgs false
set_option linter.unusedVariables false
set_option linter.unnecessarySimpa false
namespace Go.M
open Go.AV
theorem wi_id {n:Int} (h1: -9223372036854775808≤n) (h2:n≤9223372036854775807):wi n=n:=w64 h1 h2
theorem wi_succ {k:Nat} (h:k+1≤9223372036854775807):wi ((k:Int)+1)=((k+1:Nat):Int):=by rw [wi_id (by omega) (by omega)];omega
theorem wi_pred {k:Nat} (h:k+1≤9223372036854775807):wi (((k+1:Nat):Int) - 1)=(k:Int):=by rw [wi_id (by omega) (by omega)];omega
theorem lt_t {k n:Nat} (h:k < n):decide ((k:Int) < (n:Int))=true:=by simp;omega
theorem lt_f {k n:Nat} (h:n≤k):decide ((k:Int) < (n:Int))=false:=by simp;omega
theorem idx_nat {α:Type} {l:List α} {k:Nat} (h:k < l.length):idx l (k:Int)=some l[k]:=by
 unfold idx;rw [if_pos (by omega)];simp [h]
theorem idx_zero {α:Type} {x: α} {l:List α}:idx (x::l) 0=some x:=rfl
theorem setM_nat {α:Type} {l:List α} {k:Nat} (h:k < l.length) (x: α):setM l (k:Int) x=some (l.set k x):=by
 unfold setM;rw [if_pos ⟨by omega,by simpa using h⟩];simp
theorem app_ok {α:Type} {l m:List α} (h:l.length+m.length≤4294967296):app l m=some (l++m):=by
 unfold app;rw [if_pos (by unfold LIM;exact h)]
theorem slc_ok {α:Type} {l:List α} {a b:Nat} (h1:a≤b) (h2:b≤l.length):slc l (a:Int) (b:Int)=some ((l.take b).drop a):=by
 unfold slc;rw [if_pos ⟨by omega,by omega,by simpa using h2⟩];simp
theorem slc_take {α:Type} {l:List α} {b:Nat} (h2:b≤l.length):slc l 0 (b:Int)=some (l.take b):=by
 have:=slc_ok (l:=l) (a:=0) (b:=b) (by omega) h2
 simpa using this
theorem slc_drop {α:Type} {l:List α} {a:Nat} (h2:a≤l.length):slc l (a:Int) (l.length:Int)=some (l.drop a):=by
 have:=slc_ok (l:=l) (a:=a) (b:=l.length) h2 (Nat.le_refl _)
 simpa using this
theorem pv_bind {α β:Type} (x: α) (f: α→Option β):(pv x).bind f=f x:=rfl
theorem gM_t {α:Type} [Inhabited α] (m:Option α):gM true m=m:=rfl
theorem gM_f {α:Type} [Inhabited α] (m:Option α):gM false m=some default:=rfl
theorem some_bind {α β:Type} (x: α) (f: α→Option β):(some x).bind f=f x:=rfl
theorem loopM_next {X Y:Type} {body:X→Option (Stp X Y)} {x x':X} (h:body x=some (.next x')):loopM body x=loopM body x':=by
 rw [loopM_eq,h]
theorem loopM_done {X Y:Type} {body:X→Option (Stp X Y)} {x:X} {y:Y} (h:body x=some (.done y)):loopM body x=some y:=by
 rw [loopM_eq,h]
theorem z0:((0:Nat):Int)=0:=rfl
end Go.M
namespace Go.M
open Go.AV
def chk {A Y:Type} (p:Nat→A→Option Y):List A→Nat→Option Y
 | [],_=>none
 | x::xs,k=>match p k x with
  | some y=>some y
  | none=>chk p xs (k+1)
def toS {Y:Type}:Option Y→Unit⊕Y
 | some y=> .inr y
 | none=> .inl ()
def stp {Y:Type} (k:Nat):Option Y→Stp Int (Unit⊕Y)
 | some y=> .done (.inr y)
 | none=> .next ((k+1:Nat):Int)
theorem loop_chk {A Y : Type} (l : List A) {body : Int → Option (Stp Int (Unit ⊕ Y))} (p : Nat → A → Option Y)
    (s : Nat) (hb : ∀ k (h : k < l.length), s ≤ k → body (k : Int) = some (stp k (p k l[k]))) (he : ∀ k : Nat, l.length ≤ k → body (k : Int) = some (.done (.inl ()))) :
    ∀ (n k : Nat), s ≤ k → l.length - k = n → loopM body (k : Int) = some (toS (chk p (l.drop k) k)) := by
  intro n
  induction n with
  | zero =>
    intro k hs hk
    rw [loopM_eq, he k (by omega), List.drop_of_length_le (by omega)]
    rfl
  | succ n ih =>
    intro k hs hk
    have hlt : k < l.length := by omega
    rw [loopM_eq, hb k hlt hs, List.drop_eq_getElem_cons hlt]
    simp only [chk]
    cases hp : p k l[k] with
    | some y => rfl
    | none => exact ih (k + 1) (by omega) (by omega)
theorem loop_chk0 {A Y : Type} (l : List A) {body : Int → Option (Stp Int (Unit ⊕ Y))} (p : Nat → A → Option Y)
    (hb : ∀ k (h : k < l.length), body (k : Int) = some (stp k (p k l[k]))) (he : ∀ k : Nat, l.length ≤ k → body (k : Int) = some (.done (.inl ()))) : loopM body 0 = some (toS (chk p l 0)) := by
  have := loop_chk l p 0 (fun k h _ => hb k h) he l.length 0 (by omega) (by omega)
  simpa using this
theorem toS_elim {Y Z:Type} (o:Option Y) (f:Unit→Option Z) (g:Y→Option Z):(toS o).elim f g=match o with | some y=>g y | none=>f ():=by cases o <;> rfl
abbrev MX:Nat:=9223372036854775807
def byteOk (t:Int):Bool:=((((decide (65≤t)&&decide (t≤90)) ||(decide (97≤t)&&decide (t≤122))) ||(decide (48≤t)&&decide (t≤57))) ||decide (t=95))
theorem sidx_nat {s:Str} {k:Nat} (h:k < s.length):sidx s (k:Int)=some (s[k].toNat:Int):=by
 unfold sidx
 rw [idx_nat h]
 rfl
def nameB (s:Str):Bool:=match chk (fun _ (b:UInt8)=>if byteOk (b.toNat:Int) then none else some false) s 0 with
 | some y=>y
 | none=>decide (1≤s.length)&&decide (s.length≤32)
end Go.M
namespace Go.M
open Go.AV
def vld (c:Int):Bool:=decide (0≤c)&&decide (c≤1114111)
theorem valid_eq (c:Int):codepoint_Valid c=some (vld c):=rfl
theorem refvalid_eq (c:Int):ref01_Valid c=some (vld c):=rfl
def cmpE (a b:List Int):Int:=match chk (fun _ (p:Int×Int)=>if p.1=p.2 then none else some (if p.1 < p.2 then (-1:Int) else 1)) (a.zip b) 0 with
 | some y=>y
 | none=>if a.length < b.length then -1 else if b.length < a.length then 1 else 0
section
variable {a b:List Int} (ha:a.length≤4611686018427387904) (hb:b.length≤2000)
theorem cmpI (x y:Int):cmp_Compare_int x y=some (if x < y then -1 else if y < x then 1 else 0):=by
 unfold cmp_Compare_int cmp_isNaN_int
 simp only [some_bind,decide_true,Bool.not_true,cond_false]
 by_cases h1:x < y
 simp [h1]
 by_cases h2:y < x <;> simp [h1,h2]
include ha in
theorem rcL0:loopM (fun (v:Int)=>ref01_Compare_L0 a b v) 0=some (toS (chk (fun _ (p:Int×Int)=>if p.1=p.2 then none else some (if p.1 < p.2 then (-1:Int) else 1)) (a.zip b) 0)):=by
 refine loop_chk0 (a.zip b) _ (fun k h=>?_) (fun k h=>?_)
 have hk:=h
 rw [List.length_zip] at hk
 have h1:k < a.length:=by omega
 have h2:k < b.length:=by omega
 simp only [ref01_Compare_L0,lt_t h1,lt_t h2,pv_bind,Bool.and_self,cond_true,idx_nat h1,idx_nat h2,some_bind,wi_succ (k:=k) (by omega),List.getElem_zip]
 by_cases hl:a[k] < b[k]
 have:¬a[k]=b[k]:=by omega
 simp [hl,this,stp]
 by_cases hr:b[k] < a[k]
 have:¬a[k]=b[k]:=by omega
 simp [hl,hr,this,stp]
 have:a[k]=b[k]:=by omega
 simp [this,stp]
 rw [List.length_zip] at h
 have e1:(decide ((k:Int) < (a.length:Int))&&decide ((k:Int) < (b.length:Int)))=false:=by
  rw [Bool.and_eq_false_iff];simp;omega
 simp only [ref01_Compare_L0,pv_bind,e1,cond_false]
include ha in
theorem refcompare_eq:ref01_Compare a b=some (cmpE a b):=by
 unfold ref01_Compare cmpE
 rw [rcL0 ha,some_bind,toS_elim]
 cases chk (fun _ (p:Int×Int)=>if p.1=p.2 then none else some (if p.1 < p.2 then (-1:Int) else 1)) (a.zip b) 0 with
 | some y=>rfl
 | none=>
  simp only []
  by_cases h1:a.length < b.length
  have:(a.length:Int) < b.length:=by omega
  simp [h1,this]
  have h1':¬(a.length:Int) < b.length:=by omega
  by_cases h2:b.length < a.length
  have:(b.length:Int) < a.length:=by omega
  simp [h1,h1',h2,this]
  have h2':¬(b.length:Int) < a.length:=by omega
  simp [h1,h1',h2,h2']
end
end Go.M
namespace Go.M
open Go.AV
theorem chk_prop {A Y:Type} {p:Nat→A→Option Y} {P:Y→Prop} (hp:∀k x y,p k x=some y→P y):∀{l:List A} {k:Nat} {y:Y},chk p l k=some y→P y
 | [],_,_,h=>by cases h
 | x::xs,k,y,h=>by
  simp only [chk] at h
  cases hq:p k x with
  | some y'=>rw [hq] at h;cases h;exact hp _ _ _ hq
  | none=>rw [hq] at h;exact chk_prop hp h
end Go.M
namespace Go.M
open Go.AV
def lx:List Int→List Int→Prop
 | [],[]=>False
 | [],_::_=>True
 | _::_,[]=>False
 | x::a,y::b=>x < y∨(x=y∧lx a b)
def pC (_:Nat) (p:Int×Int):Option Int:=if p.1=p.2 then none else some (if p.1 < p.2 then (-1:Int) else 1)
def cmpR (a b:List Int) (k:Nat):Int:=match chk pC (a.zip b) k with
 | some y=>y
 | none=>if a.length < b.length then -1 else if b.length < a.length then 1 else 0
theorem cmpR_spec : ∀ (a b : List Int) (k : Nat), (cmpR a b k < 0 ↔ lx a b) ∧ (cmpR a b k = 0 ↔ a = b)
  | [], [], k => by simp [cmpR, chk, lx]
  | [], y :: b, k => by simp [cmpR, chk, lx]
  | x :: a, [], k => by simp [cmpR, chk, lx]
  | x :: a, y :: b, k => by
    have ih := cmpR_spec a b (k + 1)
    by_cases he : x = y
    · subst he
      have e1 : cmpR (x :: a) (x :: b) k = cmpR a b (k + 1) := by
        simp only [cmpR, List.zip_cons_cons, chk, pC, if_true, List.length_cons]
        cases chk pC (a.zip b) (k + 1) with
        | some y => rfl
        | none =>
          simp only []
          by_cases h1 : a.length < b.length
          · simp [h1]
          · by_cases h2 : b.length < a.length <;> simp [h1, h2]
      rw [e1]
      refine ⟨ih.1.trans ?_, ih.2.trans ?_⟩
      · simp [lx]
      · simp
    · have e1 : cmpR (x :: a) (y :: b) k = if x < y then -1 else 1 := by
        simp only [cmpR, List.zip_cons_cons, chk, pC, he, if_false]
      rw [e1]
      by_cases hl : x < y
      · simp [hl, lx, he]
      · simp [hl, lx, he]
theorem cmpE_R (a b:List Int):cmpE a b=cmpR a b 0:=rfl
end Go.M
namespace Go.M
open Go.AV
theorem app0 {α:Type} {l:List α} (h:l.length≤2000):app [] l=some l:=by
 rw [app_ok (by simp;omega)]
 rfl
theorem equal_eq {a b:List Int} (ha:a.length≤4611686018427387904):ref01_Equal a b=some (decide (a=b)):=by
 unfold ref01_Equal
 rw [refcompare_eq ha,some_bind,cmpE_R]
 congr 1
 rw [Bool.eq_iff_iff]
 simp only [decide_eq_true_eq]
 exact (cmpR_spec a b 0).2
end Go.M
namespace Go.M
open Go.AV
def nth {α:Type} [Inhabited α] (l:List α) (k:Nat): α:=l.getD k default
theorem idx_nth {α:Type} [Inhabited α] {l:List α} {k:Nat} (h:k < l.length):idx l (k:Int)=some (nth l k):=by
 rw [idx_nat h];simp [nth,h]
theorem nth_mem {α:Type} [Inhabited α] {l:List α} {k:Nat} (h:k < l.length):nth l k∈l:=by
 simp [nth,h]
theorem nth_eq {α:Type} [Inhabited α] {l:List α} {k:Nat} (h:k < l.length):nth l k=l[k]:=by simp [nth,h]
theorem all_nth {α:Type} [Inhabited α] {l:List α} {p: α→Prop}:(∀k,k < l.length→p (nth l k))↔∀x∈l,p x:=by
 constructor
 intro h x hx
 obtain ⟨k,hk,rfl⟩:=List.getElem_of_mem hx
 have:=h k hk
 rwa [nth_eq hk] at this
 intro h k hk;exact h _ (nth_mem hk)
def Ver (m:Option Int) (p:Prop):Prop:= ∃e,m=some e∧(e=0↔p)
theorem loop_ver {Y : Type} {body : Int → Option (Stp Int (Unit ⊕ Y))} (N : Nat) (P : Nat → Prop) (Q : Y → Prop) (s : Nat)
    (hb : ∀ k, s ≤ k → k < N → (P k ∧ body (k : Int) = some (.next ((k + 1 : Nat) : Int))) ∨ (¬ P k ∧ ∃ y, Q y ∧ body (k : Int) = some (.done (.inr y))))
    (he : ∀ k, N ≤ k → body (k : Int) = some (.done (.inl ()))) :
    ∀ (n k : Nat), N - k = n → s ≤ k → (loopM body (k : Int) = some (.inl ()) ∧ ∀ j, k ≤ j → j < N → P j) ∨ (∃ y, Q y ∧ loopM body (k : Int) = some (.inr y) ∧ ¬ ∀ j, k ≤ j → j < N → P j) := by
  intro n
  induction n with
  | zero =>
    intro k hk _
    refine .inl ⟨loopM_done (he k (by omega)), fun j h1 h2 => by omega⟩
  | succ n ih =>
    intro k hk hs
    rcases hb k hs (by omega) with ⟨hp, h⟩ | ⟨hp, y, hy, h⟩
    · rw [loopM_next h]
      rcases ih (k + 1) (by omega) (by omega) with ⟨h1, h2⟩ | ⟨y, hy, h1, h2⟩
      · refine .inl ⟨h1, fun j hj1 hj2 => ?_⟩
        by_cases e : j = k
        · subst e; exact hp
        · exact h2 j (by omega) hj2
      · exact .inr ⟨y, hy, h1, fun hh => h2 fun j hj1 hj2 => hh j (by omega) hj2⟩
    · exact .inr ⟨y, hy, loopM_done h, fun hh => hp (hh k (Nat.le_refl _) (by omega))⟩
theorem ver_if {X Y:Type} {P:Prop} {b:Bool} {k':X} {y:Y} {Q:Y→Prop} (hb:b=true↔¬P) (hy:Q y):(P∧(cond b (some (Stp.done (Sum.inr y))) (some (.next k')):Option (Stp X (Unit⊕Y)))=some (.next k'))∨(¬P∧∃y',Q y'∧(cond b (some (Stp.done (Sum.inr y))) (some (.next k')):Option (Stp X (Unit⊕Y)))=some (.done (.inr y'))):=by
 cases b with
 | true=>exact .inr ⟨hb.1 rfl,y,hy,rfl⟩
 | false=>exact .inl ⟨Classical.byContradiction (fun h=>Bool.noConfusion (hb.2 h)),rfl⟩
theorem loop_ver0 {Y : Type} {body : Int → Option (Stp Int (Unit ⊕ Y))} (N : Nat) (P : Nat → Prop) (Q : Y → Prop)
    (hb : ∀ k, k < N → (P k ∧ body (k : Int) = some (.next ((k + 1 : Nat) : Int))) ∨ (¬ P k ∧ ∃ y, Q y ∧ body (k : Int) = some (.done (.inr y))))
    (he : ∀ k, N ≤ k → body (k : Int) = some (.done (.inl ()))) :
    (loopM body 0 = some (.inl ()) ∧ ∀ j, j < N → P j) ∨ (∃ y, Q y ∧ loopM body 0 = some (.inr y) ∧ ¬ ∀ j, j < N → P j) := by
  rcases loop_ver N P Q 0 (fun k _ h => hb k h) he N 0 (by omega) (by omega) with ⟨h1, h2⟩ | ⟨y, hy, h1, h2⟩
  · exact .inl ⟨h1, fun j hj => h2 j (by omega) hj⟩
  · exact .inr ⟨y, hy, h1, fun hh => h2 fun j _ hj => hh j hj⟩
theorem loop_ver1 {Y : Type} {body : Int → Option (Stp Int (Unit ⊕ Y))} (N : Nat) (P : Nat → Prop) (Q : Y → Prop)
    (hb : ∀ k, k + 1 < N → (P k ∧ body ((k + 1 : Nat) : Int) = some (.next ((k + 2 : Nat) : Int))) ∨ (¬ P k ∧ ∃ y, Q y ∧ body ((k + 1 : Nat) : Int) = some (.done (.inr y))))
    (he : ∀ k, N ≤ k → body (k : Int) = some (.done (.inl ()))) :
    (loopM body 1 = some (.inl ()) ∧ ∀ j, j + 1 < N → P j) ∨ (∃ y, Q y ∧ loopM body 1 = some (.inr y) ∧ ¬ ∀ j, j + 1 < N → P j) := by
  have := loop_ver N (fun k => P (k - 1)) Q 1 (fun k h1 h2 => by
    cases k with
    | zero => omega
    | succ k => exact hb k h2) he (N - 1) 1 (by omega) (by omega)
  rcases this with ⟨h1, h2⟩ | ⟨y, hy, h1, h2⟩
  · exact .inl ⟨h1, fun j hj => h2 (j + 1) (by omega) hj⟩
  · refine .inr ⟨y, hy, h1, fun hh => h2 fun j hj1 hj2 => ?_⟩
    cases j with
    | zero => omega
    | succ j => exact hh j hj2
def spOk (s:Span):Prop:=0≤s.Lo∧s.Hi≤1114111∧s.Lo≤s.Hi∧1≤s.Value∧s.Value≤254
def adOk (a b:Span):Prop:=a.Hi < b.Lo∧¬(b.Lo=a.Hi+1∧b.Value=a.Value)
def hgOk (s:Span):Prop:= ¬(s.Lo≤4370∧4352≤s.Hi)∧¬(s.Lo≤4469∧4449≤s.Hi)∧¬(s.Lo≤4546∧4520≤s.Hi)∧¬(s.Lo≤55203∧44032≤s.Hi)
structure CV (l:List Span):Prop where
 sp:∀k,k < l.length→spOk (nth l k)
 ad:∀k,k+1 < l.length→adOk (nth l k) (nth l (k+1))
 hg:∀k,k < l.length→hgOk (nth l k)
end Go.M
namespace Go.M
open Go.AV
theorem bl_lt:∀(x y:Str),Op.bytesLess x y=decide (x < y)
 | [],[]=>by simp [Op.bytesLess]
 | _::_,[]=>by simp [Op.bytesLess]
 | [],_::_=>by simp [Op.bytesLess]
 | a::x,b::y=>by
  rw [Op.bytesLess,bl_lt x y]
  rw [Bool.eq_iff_iff]
  simp [List.cons_lt_cons_iff]
theorem mname_loop (s:Str) (hs:s.length≤MX):loopM (fun (x:Int)=>mapping_isName_L0 s x) 0=some (toS (chk (fun _ (b:UInt8)=>if byteOk (b.toNat:Int) then none else some false) s 0)):=by
 refine loop_chk0 s _ (fun k h=>?_) (fun k h=>?_)
 simp only [mapping_isName_L0,lt_t h,cond_true,sidx_nat h,some_bind,pv_bind,wi_succ (k:=k) (by unfold MX at hs;omega)]
 have e:(((!(decide ((65:Int)≤(s[k].toNat:Int))&&decide ((s[k].toNat:Int)≤90) ||decide ((97:Int)≤(s[k].toNat:Int))&&decide ((s[k].toNat:Int)≤122)))&& !(decide ((48:Int)≤(s[k].toNat:Int))&&decide ((s[k].toNat:Int)≤57)))&& !decide ((s[k].toNat:Int)=95))= !byteOk (s[k].toNat:Int):=by
  unfold byteOk
  generalize (decide ((65:Int)≤(s[k].toNat:Int))&&decide ((s[k].toNat:Int)≤90) ||decide ((97:Int)≤(s[k].toNat:Int))&&decide ((s[k].toNat:Int)≤122))=A
  generalize (decide ((48:Int)≤(s[k].toNat:Int))&&decide ((s[k].toNat:Int)≤57))=B
  generalize decide ((s[k].toNat:Int)=95)=C
  cases A <;> cases B <;> cases C <;> rfl
 rw [e]
 cases byteOk (s[k].toNat:Int) <;> rfl
 simp only [mapping_isName_L0,lt_f h,cond_false]
theorem mname_eq {s:Str} (hs:s.length≤MX):mapping_isName s=some (nameB s):=by
 unfold mapping_isName
 rw [pv_bind]
 cases s with
 | nil=>rfl
 | cons x l=>
  have h1:((x::l:Str)== [])=false:=rfl
  rw [h1,Bool.false_or]
  by_cases h2:32 < (x::l).length
  ·
   have:decide ((32:Int) < ((x::l).length:Int))=true:=by simp at h2 ⊢;omega
   rw [this,cond_true]
   unfold nameB
   cases hc:chk (fun _ (b:UInt8)=>if byteOk (b.toNat:Int) then none else some false) (x::l) 0 with
   | none=>
    have:decide ((x::l).length≤32)=false:=by simp at h2 ⊢;omega
    simp only [this,Bool.and_false]
   | some y=>
    have:y=false:=chk_prop (P:=fun y=>y=false) (fun k b y h=>by split at h <;> simp_all) hc
    simp [this]
  ·
   have:decide ((32:Int) < ((x::l).length:Int))=false:=by simp at h2 ⊢;omega
   rw [this,cond_false,mname_loop _ hs,some_bind,toS_elim]
   unfold nameB
   cases chk (fun _ (b:UInt8)=>if byteOk (b.toNat:Int) then none else some false) (x::l) 0 with
   | none=>simp at h2 ⊢;omega
   | some y=>rfl
def codesOk (m:Mapping):Prop:=vld m.From=true∧∀c∈m.To,vld c=true
def tagOk (m:Mapping):Prop:=m.Tag= []∨nameB m.Tag=true
def mlt (a b:Mapping):Prop:=a.From < b.From∨(a.From=b.From∧a.Tag < b.Tag)
structure MV (l:List Mapping):Prop where
 co:∀m∈l,codesOk m
 sz:∀m∈l,m.To.length≤64
 tg:∀m∈l,tagOk m
 lt:∀k,k+1 < l.length→mlt (nth l k) (nth l (k+1))
theorem toVer {body : Int → Option (Stp Int (Unit ⊕ Int))} {P : Prop} (h : (loopM body 0 = some (.inl ()) ∧ P) ∨ (∃ y, y ≠ 0 ∧ loopM body 0 = some (.inr y) ∧ ¬ P)) {f : Unit → Option Int} {R : Prop} (hf : P → Ver (f ()) R) (hR : R → P) :
    Ver ((loopM body 0).bind fun y => y.elim f fun y => some y) R := by
  rcases h with ⟨h, p⟩ | ⟨y, hy, h, p⟩
  · rw [h]; exact hf p
  · rw [h]; exact ⟨y, rfl, by simp only [hy, false_iff]; exact fun r => p (hR r)⟩
section
variable {l:List Mapping} (hl:l.length≤2000) (hto:∀m∈l,m.To.length≤2000) (htg:∀m∈l,m.Tag.length≤MX)
include hl hto htg
theorem partsVer : Ver (mapping_parts l) ((∀ m ∈ l, codesOk m) ∧ (∀ m ∈ l, m.To.length ≤ 64) ∧ ∀ m ∈ l, tagOk m) := by
  unfold mapping_parts
  refine toVer (P := ∀ m ∈ l, codesOk m) ?_ (fun p0 => ?_) (fun r => r.1)
  · have h := loop_ver0 (body := fun (x : Int) => mapping_parts_L0 l x) l.length (fun k => codesOk (nth l k)) (fun y => y ≠ 0) (fun k hk => ?_) (fun k hk => by simp only [mapping_parts_L0, lt_f hk, cond_false])
    · rw [all_nth (p := codesOk)] at h; exact h
    · simp only [mapping_parts_L0, lt_t hk, cond_true, idx_nth hk, some_bind, valid_eq, wi_succ (k := k) (by omega)]
      by_cases hv : vld (nth l k).From = true
      · have h2 := loop_ver0 (body := fun (x : Int) => mapping_parts_L1 (nth l k) x) (nth l k).To.length (fun j => vld (nth (nth l k).To j) = true) (fun y => y ≠ 0) (fun j hj => by
          simp only [mapping_parts_L1, lt_t hj, cond_true, idx_nth hj, some_bind, valid_eq, wi_succ (k := j) (by have := hto _ (nth_mem hk); omega)]
          exact ver_if (by simp) (by decide)) (fun j hj => by simp only [mapping_parts_L1, lt_f hj, cond_false])
        rw [all_nth (p := fun c => vld c = true)] at h2
        simp only [hv, Bool.not_true, cond_false]
        rcases h2 with ⟨h2, p⟩ | ⟨y, hy, h2, p⟩
        · rw [h2]; exact .inl ⟨⟨hv, p⟩, rfl⟩
        · rw [h2]; exact .inr ⟨fun q => p q.2, y, hy, rfl⟩
      · simp only [Bool.not_eq_true] at hv
        simp only [hv, Bool.not_false, cond_true]
        exact .inr ⟨fun q => (by rw [q.1] at hv; cases hv), 1, by decide, rfl⟩
  · refine toVer (P := ∀ m ∈ l, m.To.length ≤ 64) ?_ (fun p1 => ?_) (fun r => r.2.1)
    · have h := loop_ver0 (body := fun (x : Int) => mapping_parts_L2 l x) l.length (fun k => (nth l k).To.length ≤ 64) (fun y => y ≠ 0) (fun k hk => by
        simp only [mapping_parts_L2, lt_t hk, cond_true, idx_nth hk, some_bind, wi_succ (k := k) (by omega)]
        exact ver_if (by simp only [decide_eq_true_eq]; omega) (by decide)) (fun k hk => by simp only [mapping_parts_L2, lt_f hk, cond_false])
      rw [all_nth (p := fun (m : Mapping) => m.To.length ≤ 64)] at h; exact h
    · refine toVer (P := ∀ m ∈ l, tagOk m) ?_ (fun p2 => ⟨0, rfl, by simp only [true_iff]; exact ⟨p0, p1, p2⟩⟩) (fun r => r.2.2)
      have h := loop_ver0 (body := fun (x : Int) => mapping_parts_L3 l x) l.length (fun k => tagOk (nth l k)) (fun y => y ≠ 0) (fun k hk => by
        simp only [mapping_parts_L3, lt_t hk, cond_true, idx_nth hk, some_bind, pv_bind, wi_succ (k := k) (by omega), tagOk]
        have hb : ((nth l k).Tag == []) = decide ((nth l k).Tag = []) := by cases (nth l k).Tag <;> rfl
        rw [hb]
        by_cases ht : (nth l k).Tag = []
        · simp only [ht, decide_true, Bool.not_true, gM_f, some_bind, Bool.false_and, cond_false]
          exact .inl ⟨.inl trivial, trivial⟩
        · simp only [ht, decide_false, Bool.not_false, gM_t, mname_eq (htg _ (nth_mem hk)), some_bind, Bool.true_and, false_or]
          exact ver_if (by simp) (by decide)) (fun k hk => by simp only [mapping_parts_L3, lt_f hk, cond_false])
      rw [all_nth (p := tagOk)] at h; exact h
omit hl hto htg in
theorem cmpOr (a b:Int):cmp_Or_int [a,b]=some (if a=0 then b else a):=by
 have e0:decide ((0:Int) < (([a,b]:List Int).length:Int))=true:=rfl
 have e1:decide ((1:Int) < (([a,b]:List Int).length:Int))=true:=rfl
 have e2:decide ((2:Int) < (([a,b]:List Int).length:Int))=false:=rfl
 unfold cmp_Or_int
 rw [loopM_eq]
 simp only [cmp_Or_int_L0,e0,cond_true,idx_zero,some_bind]
 by_cases ha:a=0
 subst ha
 simp only [decide_true,Bool.not_true,cond_false,if_true]
 have w1:wi (0+1)=1:=wi_id (by omega) (by omega)
 rw [w1,loopM_eq]
 simp only [cmp_Or_int_L0,e1,cond_true]
 have:idx ([0,b]:List Int) 1=some b:=rfl
 rw [this]
 simp only [some_bind]
 by_cases hb:b=0
 subst hb
 simp only [decide_true,Bool.not_true,cond_false]
 have w2:wi (1+1)=2:=wi_id (by omega) (by omega)
 rw [w2,loopM_eq]
 simp only [cmp_Or_int_L0,e2,cond_false]
 rfl
 simp [hb]
 simp [ha]
omit hl hto htg in
theorem cmpS (x y : Str) : cmp_Compare_string x y = some (if x < y then -1 else if y < x then 1 else 0) := by
  unfold cmp_Compare_string cmp_isNaN_string
  simp only [some_bind, beq_self_eq_true, Bool.not_true, cond_false, bl_lt]
  by_cases h : x < y
  · simp [h]
  · by_cases h2 : x = y
    · subst h2; simp [h]
    · have h3 : y < x := by
        by_cases h3 : y < x
        · exact h3
        · exact absurd (List.le_antisymm (List.not_lt.1 h3) (List.not_lt.1 h)) h2
      have hb : (x == y) = false := by simpa using h2
      simp [h, h3, hb]
omit hl hto htg in
theorem mcmp (a b:Mapping):∃e,mapping_compare a b=some e∧(0≤e↔¬mlt a b):=by
 unfold mapping_compare
 simp only [cmpI,cmpS,some_bind,cmpOr]
 refine ⟨_,rfl,?_⟩
 unfold mlt
 by_cases h1:a.From < b.From
 simp [h1]
 by_cases h2:b.From < a.From
 have:¬a.From=b.From:=by omega
 simp [h1,h2,this]
 have:a.From=b.From:=by omega
 by_cases h3:a.Tag < b.Tag
 simp [this,h3]
 by_cases h4:b.Tag < a.Tag <;> simp [this,h3,h4]
omit hto htg in
theorem ascLoop:∀(n k:Nat) (b:Bool),l.length - k=n→1≤k→∃r,loopM (fun (x:Bool×Int)=>mapping_Check_L0 l x.1 x.2) (b,(k:Int))=some r∧(r=true↔b=true∧∀j,k≤j+1→j+1 < l.length→mlt (nth l j) (nth l (j+1))):=by
 intro n
 induction n with
 | zero=>
  intro k b hk h1
  refine ⟨b,?_,?_⟩
  rw [loopM_eq];simp only [mapping_Check_L0,lt_f (show l.length≤k by omega),cond_false]
  exact ⟨fun h=>⟨h,fun j h2 h3=>by omega⟩,fun h=>h.1⟩
 | succ n ih=>
  intro k b hk h1
  obtain ⟨k,rfl⟩:∃k',k=k'+1:=⟨k - 1,by omega⟩
  have hlt:k+1 < l.length:=by omega
  obtain ⟨e,he,hp⟩:=mcmp (nth l k) (nth l (k+1))
  obtain ⟨r,hr,hq⟩:=ih (k+2) (cond (decide (0≤e)) false b) (by omega) (by omega)
  refine ⟨r,?_,?_⟩
  rw [loopM_eq]
  simp only [mapping_Check_L0,lt_t hlt,cond_true,wi_pred (k:=k) (by omega),idx_nth (show k < l.length by omega),idx_nth hlt,some_bind,he,wi_succ (k:=k+1) (by omega)]
  rw [←hr]
  cases decide (0≤e) <;> rfl
  rw [hq]
  by_cases hm:mlt (nth l k) (nth l (k+1))
  have:decide (0≤e)=false:=by simp only [decide_eq_false_iff_not];exact fun h=>hp.1 h hm
  rw [this,cond_false]
  constructor
  rintro ⟨a,c⟩
  refine ⟨a,fun j h2 h3=>?_⟩
  by_cases ej:j=k
  subst ej;exact hm
  exact c j (by omega) h3
  rintro ⟨a,c⟩;exact ⟨a,fun j h2 h3=>c j (by omega) h3⟩
  have:decide (0≤e)=true:=by simp only [decide_eq_true_eq];exact hp.2 hm
  rw [this,cond_true]
  constructor
  rintro ⟨a,_⟩;cases a
  rintro ⟨_,c⟩;exact absurd (c k (by omega) hlt) hm
omit hto htg in
theorem twLoop:∀(n k:Nat) (m:List (Mapping_key×Bool)),l.length - k=n→∃r,loopM (fun (x:Int×(List (Mapping_key×Bool)))=>mapping_Check_L1 l x.1 x.2) ((k:Int),m)=some r∧(r= .inl ()∨r= .inr 5):=by
 intro n
 induction n with
 | zero=>
  intro k m hk
  refine ⟨.inl (),?_,.inl rfl⟩
  rw [loopM_eq];simp only [mapping_Check_L1,lt_f (show l.length≤k by omega),cond_false]
 | succ n ih=>
  intro k m hk
  have hlt:k < l.length:=by omega
  rw [loopM_eq]
  simp only [mapping_Check_L1,lt_t hlt,cond_true,idx_nth hlt,some_bind,mapping_keyOf,wi_succ (k:=k) (by omega)]
  cases mgetD m ({from_:=(nth l k).From,tag:=(nth l k).Tag}:Mapping_key) false with
  | true=>exact ⟨.inr 5,rfl,.inr rfl⟩
  | false=>exact ih (k+1) _ (by omega)
theorem mapVer:Ver (mapping_Check l) (MV l):=by
 obtain ⟨e,he,hp⟩:=partsVer hl hto htg
 unfold mapping_Check
 rw [he,some_bind]
 by_cases h0:e=0
 subst h0
 simp only [decide_true,Bool.not_true,cond_false]
 obtain ⟨p0,p1,p2⟩:=hp.1 rfl
 obtain ⟨r,hr,hq⟩:=ascLoop hl (l.length - 1) 1 true rfl (by omega)
 have hr':loopM (fun (x:Bool×Int)=>mapping_Check_L0 l x.1 x.2) (true,1)=some r:=hr
 rw [hr',some_bind]
 cases r with
 | true=>exact ⟨0,rfl,by simp only [true_iff];exact ⟨p0,p1,p2,fun k hk=>(hq.1 rfl).2 k (by omega) hk⟩⟩
 | false=>
  have hno:¬MV l:=fun h=>by have:=hq.2 ⟨rfl,fun j _ hj=>h.lt j hj⟩;cases this
  obtain ⟨r,hr,hrr⟩:=twLoop hl l.length 0 [] (by omega)
  have hr':loopM (fun (x:Int×(List (Mapping_key×Bool)))=>mapping_Check_L1 l x.1 x.2) (0,[])=some r:=hr
  simp only [cond_false]
  rw [hr',some_bind]
  rcases hrr with rfl | rfl
  exact ⟨4,rfl,by simp only [show ((4:Int)=0)=False by simp,false_iff];exact hno⟩
  exact ⟨5,rfl,by simp only [show ((5:Int)=0)=False by simp,false_iff];exact hno⟩
 have:(!decide (e=0))=true:=by simp [h0]
 rw [this,cond_true]
 exact ⟨e,rfl,by simp only [h0,false_iff];exact fun h=>h0 (hp.2 ⟨h.co,h.sz,h.tg⟩)⟩
end
end Go.M
namespace Go.M
open Go.AV
section
variable {α:Type} (lt: α→α→Bool)
def insB:List α→α→List α→List α
 | [],x,s=>x::s
 | y::r,x,s=>if lt x y then insB r x (y::s) else (y::r).reverse++x::s
def iSort (l:List α) (p:List α):List α:=l.foldl (fun p x=>insB lt p.reverse x []) p
theorem insB_app:∀(r:List α) (x: α) (s t:List α),insB lt r x (s++t)=insB lt r x s++t
 | [],x,s,t=>rfl
 | y::r,x,s,t=>by
  unfold insB
  split
  exact insB_app r x (y::s) t
  simp
theorem insB_perm:∀(r:List α) (x: α) (s:List α),(insB lt r x s).Perm (r.reverse++x::s)
 | [],x,s=> .refl _
 | y::r,x,s=>by
  unfold insB
  split
  ·
   refine (insB_perm r x (y::s)).trans ?_
   simp only [List.reverse_cons,List.append_assoc,List.singleton_append]
   exact List.Perm.append_left _ (List.Perm.swap y x s)
  · exact .refl _
theorem insB_len (r:List α) (x: α) (s:List α):(insB lt r x s).length=r.length+1+s.length:=by
 rw [(insB_perm lt r x s).length_eq];simp;omega
theorem iSort_perm:∀(l p:List α),(iSort lt l p).Perm (p++l)
 | [],p=>by simp [iSort]
 | x::l,p=>by
  have h:=iSort_perm l (insB lt p.reverse x [])
  refine h.trans ?_
  have h2:=insB_perm lt p.reverse x []
  rw [List.reverse_reverse] at h2
  have h3:=List.Perm.append_right l h2
  simpa using h3
variable (tr:∀a b c,lt b a=false→lt c b=false→lt c a=false) (asy:∀a b,lt a b=true→lt b a=false)
abbrev LeB (a b: α):Prop:=lt b a=false
include tr asy
theorem insB_sorted:∀(r:List α) (x: α) (s:List α),(r.reverse++s).Pairwise (LeB lt)→(∀y∈s,LeB lt x y)→(insB lt r x s).Pairwise (LeB lt)
 | [],x,s,h,hx=>by simpa [insB] using ⟨hx,h⟩
 | y::r,x,s,h,hx=>by
  unfold insB
  split
  rename_i hlt
  refine insB_sorted r x (y::s) (by simpa using h) ?_
  intro z hz
  rcases List.mem_cons.1 hz with rfl | hz
  exact asy _ _ hlt
  exact hx z hz
  rename_i hlt
  have hyx:LeB lt y x:=by simpa using hlt
  rw [List.pairwise_append] at h ⊢
  refine ⟨h.1,List.pairwise_cons.2 ⟨hx,h.2.1⟩,?_⟩
  intro a ha b hb
  have hay:LeB lt a y∨a=y:=by
   have h1:=h.1
   rw [List.reverse_cons,List.pairwise_append] at h1
   rw [List.reverse_cons,List.mem_append] at ha
   rcases ha with ha | ha
   exact .inl (h1.2.2 a ha y (by simp))
   exact .inr (by simpa using ha)
  rcases List.mem_cons.1 hb with rfl | hb
  rcases hay with hay | rfl
  exact tr _ _ _ hay hyx
  exact hyx
  exact h.2.2 a ha b hb
theorem iSort_sorted:∀(l p:List α),p.Pairwise (LeB lt)→(iSort lt l p).Pairwise (LeB lt)
 | [],p,h=>h
 | x::l,p,h=>iSort_sorted l _ (insB_sorted lt tr asy p.reverse x [] (by simpa using h) (by simp))
omit tr asy in
theorem iSort_id:∀(l p:List α),(p++l).Pairwise (LeB lt)→iSort lt l p=p++l
 | [],p,_=>by simp [iSort]
 | x::l,p,h=>by
  have e:insB lt p.reverse x []=p++ [x]:=by
   cases hp:p.reverse with
   | nil=>
    have:p= []:=by simpa using hp
    subst this;rfl
   | cons y r=>
    unfold insB
    have hp':p=r.reverse++ [y]:=by have:=congrArg List.reverse hp;simpa using this
    have:lt x y=false:=by
     rw [hp',List.pairwise_append] at h
     exact h.2.2 y (by simp) x (by simp)
    rw [this]
    simp [hp']
  show iSort lt l (insB lt p.reverse x [])=_
  rw [e,iSort_id l (p++ [x]) (by simpa using h)]
  simp
end
def rlt (a b:Range):Bool:=decide (a.Lo < b.Lo) ||(decide (a.Lo=b.Lo)&&decide (a.Hi < b.Hi))
theorem rcmp (a b:Range):∃e,cpset_Make_1 a b=some e∧(e < 0↔rlt a b=true):=by
 unfold cpset_Make_1
 simp only [cmpI,some_bind,cmpOr]
 refine ⟨_,rfl,?_⟩
 unfold rlt
 by_cases h1:a.Lo < b.Lo
 simp [h1]
 by_cases h2:b.Lo < a.Lo
 have:¬a.Lo=b.Lo:=by omega
 simp [h1,h2,this]
 have:a.Lo=b.Lo:=by omega
 by_cases h3:a.Hi < b.Hi
 simp [this,h3]
 by_cases h4:b.Hi < a.Hi <;> simp [this,h3,h4]
theorem idx_mid {α:Type} {p s:List α} {x: α} {k:Nat} (h:k=p.length):idx (p++x::s) (k:Int)=some x:=by
 subst h
 rw [idx_nat (by simp)]
 simp
theorem setM_mid {α:Type} {p s:List α} {x y: α} {k:Nat} (h:k=p.length):setM (p++x::s) (k:Int) y=some (p++y::s):=by
 subst h
 rw [setM_nat (by simp)]
 simp
section
variable {f:Range→Range→Option Int} {lt:Range→Range→Bool} (hf:∀a b,∃e,f a b=some e∧(e < 0↔lt a b=true))
include hf
theorem insIn:∀(r:List Range) (x:Range) (s:List Range),r.length≤2000→loopM (fun (q:Int×List Range)=>slices_insertionSortCmpFunc_api_Range_L1 0 f q.1 q.2) ((r.length:Int),r.reverse++x::s)=some (insB lt r x s)
 | [],x,s,_=>by
  rw [loopM_eq]
  simp only [slices_insertionSortCmpFunc_api_Range_L1,List.length_nil,pv_bind]
  have:decide ((0:Int) < ((0:Nat):Int))=false:=rfl
  rw [this]
  simp [gM_f,insB]
 | y::r,x,s,hr=>by
  simp only [List.length_cons] at hr ⊢
  have hd:decide ((0:Int) < ((r.length+1:Nat):Int))=true:=by simp <;> omega
  have hl:(y::r).reverse++x::s=r.reverse++y::(x::s):=by simp
  have hw:wi (((r.length+1:Nat):Int) - 1)=(r.length:Int):=wi_pred (by omega)
  have i1:idx ((y::r).reverse++x::s) ((r.length+1:Nat):Int)=some x:=idx_mid (by simp)
  have i0:idx ((y::r).reverse++x::s) (r.length:Int)=some y:=by rw [hl];exact idx_mid (by simp)
  obtain ⟨e,he,hp⟩:=hf x y
  rw [loopM_eq]
  simp only [slices_insertionSortCmpFunc_api_Range_L1,hd,pv_bind,gM_t,i1,hw,i0,some_bind,he,Bool.true_and]
  unfold insB
  by_cases hx:lt x y=true
  have hd2:decide (e < 0)=true:=by simpa using hp.2 hx
  have s1:setM ((y::r).reverse++x::s) ((r.length+1:Nat):Int) y=some ((y::r).reverse++y::s):=setM_mid (by simp)
  have hl2:(y::r).reverse++y::s=r.reverse++y::(y::s):=by simp
  have i2:idx ((y::r).reverse++y::s) (r.length:Int)=some y:=by rw [hl2];exact idx_mid (by simp)
  have s2:setM ((y::r).reverse++y::s) (r.length:Int) x=some (r.reverse++x::(y::s)):=by rw [hl2];exact setM_mid (by simp)
  simp only [hd2,cond_true,s1,some_bind,i2,s2,hx,if_true]
  exact insIn r x (y::s) (by omega)
  have hd2:decide (e < 0)=false:=by simp only [decide_eq_false_iff_not];exact fun h=>hx (hp.1 h)
  simp only [hd2,cond_false,hx]
  rfl
theorem insOut:∀(l p:List Range),1≤p.length→p.length+l.length≤2000→loopM (fun (q:Int×List Range)=>slices_insertionSortCmpFunc_api_Range_L0 ((p.length+l.length:Nat):Int) 0 f q.1 q.2) ((p.length:Int),p++l)=some (iSort lt l p)
 | [],p,_,_=>by
  rw [loopM_eq]
  simp only [slices_insertionSortCmpFunc_api_Range_L0,List.length_nil,Nat.add_zero,lt_f (Nat.le_refl _),cond_false,List.append_nil]
  rfl
 | x::l,p,h1,h2=>by
  simp only [List.length_cons] at h2 ⊢
  have hin:=insIn hf p.reverse x l (by simp;omega)
  rw [List.length_reverse,List.reverse_reverse] at hin
  rw [loopM_eq]
  simp only [slices_insertionSortCmpFunc_api_Range_L0,lt_t (show p.length < p.length+(l.length+1) by omega),cond_true]
  rw [hin,some_bind]
  have e1:insB lt p.reverse x l=insB lt p.reverse x []++l:=by
   have:=insB_app lt p.reverse x [] l
   simpa using this
  have hlen:(insB lt p.reverse x []).length=p.length+1:=by rw [insB_len];simp
  have ih:=insOut l (insB lt p.reverse x []) (by omega) (by omega)
  rw [hlen] at ih
  have e3:((p.length+1+l.length:Nat):Int)=((p.length+(l.length+1):Nat):Int):=by congr 1;omega
  rw [e3] at ih
  rw [e1,wi_succ (by omega)]
  exact ih
theorem insSort (l:List Range) (h:l.length≤2000):slices_insertionSortCmpFunc_api_Range l 0 (l.length:Int) f=some (iSort lt l []):=by
 unfold slices_insertionSortCmpFunc_api_Range
 have hw:wi (0+1)=((1:Nat):Int):=wi_id (by omega) (by omega)
 rw [hw]
 cases l with
 | nil=>
  rw [loopM_eq]
  simp only [slices_insertionSortCmpFunc_api_Range_L0,lt_f (show ([]:List Range).length≤1 by simp),cond_false]
  rfl
 | cons x l=>
  have:=insOut hf l [x] (by simp) (by simp at h ⊢;omega)
  have e:((([x]:List Range).length+l.length:Nat):Int)=((x::l).length:Int):=by simp;omega
  rw [e] at this
  have e2:(([x]:List Range).length:Int)=((1:Nat):Int):=rfl
  rw [e2] at this
  rw [show ([x]++l:List Range)=x::l from rfl] at this
  rw [this]
  rfl
end
theorem bitsLen:∀n:Fin 13,∃e,math_bits_Len (wu ((n.val:Nat):Int))=some e:=by
 intro n
 have:∀n:Fin 13,(math_bits_Len (wu ((n.val:Nat):Int))).isSome=true:=by decide
 exact Option.isSome_iff_exists.1 (this n)
theorem sort_eq {l:List Range} (h:l.length≤12):slices_SortFunc_api_Range_api_Range l (fun a b=>cpset_Make_1 a b)=some (iSort rlt l []):=by
 unfold slices_SortFunc_api_Range_api_Range slices_pdqsortCmpFunc_api_Range
 obtain ⟨e,he⟩:=bitsLen ⟨l.length,by omega⟩
 rw [he,some_bind]
 have hb:slices_pdqsortCmpFunc_api_Range_L0 (l.length:Int) 0 l (fun a b=>cpset_Make_1 a b) e=some (.done (iSort rlt l [])):=by
  unfold slices_pdqsortCmpFunc_api_Range_L0
  have hw:wi ((l.length:Int) - 0)=(l.length:Int):=wi_id (by omega) (by omega)
  have hd:decide ((l.length:Int)≤12)=true:=by simp;omega
  rw [hw,hd,cond_true,insSort (lt:=rlt) rcmp l (by omega)]
  rfl
 rw [loopM_done (body:=fun (_:Unit)=>slices_pdqsortCmpFunc_api_Range_L0 (l.length:Int) 0 l (fun a b=>cpset_Make_1 a b) e) hb]
 rfl
theorem rlt_tr (a b c:Range) (h1:rlt b a=false) (h2:rlt c b=false):rlt c a=false:=by
 unfold rlt at*
 simp only [Bool.or_eq_false_iff,Bool.and_eq_false_iff,decide_eq_false_iff_not] at*
 omega
theorem rlt_asy (a b:Range) (h1:rlt a b=true):rlt b a=false:=by
 unfold rlt at*
 simp only [Bool.or_eq_false_iff,Bool.and_eq_false_iff,decide_eq_false_iff_not,Bool.or_eq_true,Bool.and_eq_true,decide_eq_true_eq] at*
 omega
end Go.M
namespace Go.M
open Go.AV
def rgOk (r:Range):Prop:=0≤r.Lo∧r.Lo≤r.Hi∧r.Hi≤1114111
def Can:List Range→Prop
 | []=>True
 | [r]=>rgOk r
 | r::q::l=>rgOk r∧r.Hi+1 < q.Lo∧Can (q::l)
theorem Can.head {r:Range} {l:List Range} (h:Can (r::l)):rgOk r:=by
 cases l with
 | nil=>exact h
 | cons q l=>exact h.1
theorem Can.tail {r:Range} {l:List Range} (h:Can (r::l)):Can l:=by
 cases l with
 | nil=>trivial
 | cons q l=>exact h.2.2
theorem Can.ok:∀{l:List Range},Can l→∀r∈l,rgOk r
 | [],_,r,hr=>by cases hr
 | q::l,h,r,hr=>by
  rcases List.mem_cons.1 hr with rfl | hr
  exact h.head
  exact Can.ok h.tail r hr
theorem Can.gap:∀{l:List Range} {r:Range},Can (r::l)→∀q∈l,r.Hi+1 < q.Lo
 | [],_,_,q,hq=>by cases hq
 | a::l,r,h,q,hq=>by
  rcases List.mem_cons.1 hq with rfl | hq
  exact h.2.1
  have h1:=Can.gap h.2.2 q hq
  have h2:=(h.2.2.head)
  have h3:=h.2.1
  unfold rgOk at h2
  omega
theorem Can.sorted:∀{l:List Range},Can l→l.Pairwise (LeB rlt)
 | [],_=> .nil
 | r::l,h=>by
  refine List.pairwise_cons.2 ⟨fun q hq=>?_,Can.sorted h.tail⟩
  have h1:=Can.gap h q hq
  have h2:=h.head
  unfold rgOk at h2
  unfold LeB rlt
  simp only [Bool.or_eq_false_iff,Bool.and_eq_false_iff,decide_eq_false_iff_not]
  omega
def clip (r:Range):Range:={Lo:=max r.Lo 0,Hi:=min r.Hi 1114111}
def clipL (l:List Range):List Range:=(l.map clip).filter fun r=>decide (r.Lo≤r.Hi)
theorem clipL_cons (x:Range) (l:List Range):clipL (x::l)=(if (clip x).Lo≤(clip x).Hi then [clip x] else [])++clipL l:=by
 unfold clipL
 rw [List.map_cons,List.filter_cons]
 by_cases h:(clip x).Lo≤(clip x).Hi <;> simp [h]
theorem clipL_cons' (x:Range) (l:List Range):clipL (x::l)=(if max x.Lo 0≤min x.Hi 1114111 then [({Lo:=max x.Lo 0,Hi:=min x.Hi 1114111}:Range)] else [])++clipL l:=clipL_cons x l
theorem clipL_ok (l:List Range):∀r∈clipL l,rgOk r:=by
 intro r hr
 unfold clipL at hr
 rw [List.mem_filter,List.mem_map] at hr
 obtain ⟨⟨q,_,rfl⟩,h⟩:=hr
 simp only [decide_eq_true_eq] at h
 unfold clip at h ⊢
 unfold rgOk
 simp only at h ⊢
 omega
theorem clipL_id {l:List Range} (h:∀r∈l,rgOk r):clipL l=l:=by
 induction l with
 | nil=>rfl
 | cons x l ih=>
  have hx:=h x (by simp)
  have:clip x=x:=by
   unfold rgOk at hx
   unfold clip
   cases x
   simp only [Range.mk.injEq] at hx ⊢
   omega
  rw [clipL_cons,this,if_pos hx.2.1,ih fun r hr=>h r (by simp [hr])]
  rfl
theorem clipL_len (l:List Range):(clipL l).length≤l.length:=by
 unfold clipL
 exact Nat.le_trans (List.length_filter_le _ _) (by simp)
theorem mkL0 {l:List Range} (hl:l.length≤2000):∀(n k:Nat) (o:List Range),l.length - k=n→k≤l.length→o.length≤k→loopM (fun (x:Int×(List Range))=>cpset_Make_L0 l x.1 x.2) ((k:Int),o)=some (o++clipL (l.drop k)):=by
 intro n
 induction n with
 | zero=>
  intro k o h1 h2 h3
  rw [loopM_eq]
  simp only [cpset_Make_L0,lt_f (show l.length≤k by omega),cond_false]
  rw [List.drop_of_length_le (by omega)]
  simp [clipL]
 | succ n ih=>
  intro k o h1 h2 h3
  have hlt:k < l.length:=by omega
  rw [loopM_eq]
  simp only [cpset_Make_L0,lt_t hlt,cond_true,idx_nat hlt,some_bind,wi_succ (k:=k) (by omega)]
  rw [List.drop_eq_getElem_cons hlt,clipL_cons']
  by_cases hc:max l[k].Lo 0≤min l[k].Hi 1114111
  simp only [hc,decide_true,cond_true,if_true]
  rw [app_ok (by simp;omega)]
  simp only [some_bind]
  have:=ih (k+1) (o++ [({Lo:=max l[k].Lo 0,Hi:=min l[k].Hi 1114111}:Range)]) (by omega) (by omega) (by simp;omega)
  rw [List.append_assoc] at this
  exact this
  simp only [hc,decide_false,cond_false,if_false,some_bind,List.nil_append]
  exact ih (k+1) o (by omega) (by omega) (by omega)
def mrg:List Range→Range→List Range
 | [],r=>[r]
 | q::l,r=>if r.Lo≤q.Hi+1 then {q with Hi:=max q.Hi r.Hi}::l else r::q::l
theorem mrg_cons (q:Range) (l:List Range) (r:Range):mrg (q::l) r=if r.Lo≤q.Hi+1 then {q with Hi:=max q.Hi r.Hi}::l else r::q::l:=rfl
theorem mrg_len (o:List Range) (r:Range):(mrg o r).length≤o.length+1:=by
 cases o with
 | nil=>simp [mrg]
 | cons q l=>rw [mrg_cons];split <;> simp
theorem mrg_ok {o:List Range} {r:Range} (h:∀q∈o,rgOk q) (hr:rgOk r):∀q∈mrg o r,rgOk q:=by
 cases o with
 | nil=>simpa [mrg] using hr
 | cons q l=>
  intro x hx
  have hq:=h q (by simp)
  unfold rgOk at hq hr
  rw [mrg_cons] at hx
  split at hx
  rcases List.mem_cons.1 hx with rfl | hx
  unfold rgOk;simp only;omega
  exact h x (by simp [hx])
  rcases List.mem_cons.1 hx with rfl | hx
  exact hr
  exact h x hx
theorem mkL1 {t:List Range} (ht:t.length≤2000) (hok:∀r∈t,rgOk r):∀(n k:Nat) (o:List Range),t.length - k=n→k≤t.length→o.length≤k→(∀r∈o,rgOk r)→loopM (fun (x:Int×(List Range))=>cpset_Make_L1 t x.1 x.2) ((k:Int),o.reverse)=some ((t.drop k).foldl mrg o).reverse:=by
 intro n
 induction n with
 | zero=>
  intro k o h1 h2 h3 h4
  rw [loopM_eq]
  simp only [cpset_Make_L1,lt_f (show t.length≤k by omega),cond_false]
  rw [List.drop_of_length_le (by omega)]
  rfl
 | succ n ih=>
  intro k o h1 h2 h3 h4
  have hlt:k < t.length:=by omega
  have hr:=hok _ (List.getElem_mem hlt)
  rw [List.drop_eq_getElem_cons hlt,List.foldl_cons]
  rw [←ih (k+1) (mrg o t[k]) (by omega) (by omega) (by have:=mrg_len o t[k];omega) (mrg_ok h4 hr)]
  rw [loopM_eq]
  simp only [cpset_Make_L1,lt_t hlt,cond_true,idx_nat hlt,some_bind,pv_bind,wi_succ (k:=k) (by omega)]
  cases o with
  | nil=>
   have e0:decide ((0:Int) < ((([]:List Range).reverse).length:Int))=false:=rfl
   simp only [e0,gM_f,some_bind,Bool.false_and,cond_false]
   rw [app_ok (by simp)]
   rfl
  | cons q l=>
   have hq:=h4 q (by simp)
   unfold rgOk at hq
   have hlen:((q::l).reverse).length=l.length+1:=by simp
   simp only [List.length_cons] at h3
   have e0:decide ((0:Int) < (((q::l).reverse).length:Int))=true:=by rw [hlen];simp <;> omega
   have e1:wi ((((q::l).reverse).length:Int) - 1)=(l.length:Int):=by rw [hlen];exact wi_pred (by omega)
   have e2:(q::l).reverse=l.reverse++q:: []:=by simp
   have i1:idx (q::l).reverse (l.length:Int)=some q:=by rw [e2];exact idx_mid (by simp)
   have e3:wi (q.Hi+1)=q.Hi+1:=wi_id (by omega) (by omega)
   simp only [e0,e1,i1,gM_t,some_bind,Bool.true_and,e3]
   rw [mrg_cons]
   by_cases hc:t[k].Lo≤q.Hi+1
   simp only [hc,decide_true,cond_true,if_true]
   have s1:setM (q::l).reverse (l.length:Int) ({q with Hi:=max q.Hi t[k].Hi})=some (({q with Hi:=max q.Hi t[k].Hi}::l).reverse):=by
    rw [e2,setM_mid (by simp)];simp
   rw [s1]
   rfl
   simp only [hc,decide_false,cond_false,if_false]
   rw [app_ok (by simp;omega)]
   simp only [some_bind]
   congr 2
   simp
def mkE (l:List Range):List Range:=((iSort rlt (clipL l) []).foldl mrg []).reverse
theorem make_eq {l:List Range} (hl:l.length≤12):cpset_Make l=some {Ranges:=mkE l}:=by
 unfold cpset_Make
 have h0:=mkL0 (l:=l) (by omega) l.length 0 [] (by omega) (by omega) (by simp)
 simp only [List.drop_zero,List.nil_append] at h0
 have h0':loopM (fun (x:Int×(List Range))=>cpset_Make_L0 l x.1 x.2) (0,[])=some (clipL l):=h0
 rw [h0',some_bind,sort_eq (Nat.le_trans (clipL_len l) hl),some_bind]
 have hp:=iSort_perm rlt (clipL l) []
 simp only [List.nil_append] at hp
 have h1:=mkL1 (t:=iSort rlt (clipL l) []) (by rw [hp.length_eq];have:=clipL_len l;omega) (fun r hr=>clipL_ok l r (hp.mem_iff.1 hr)) (iSort rlt (clipL l) []).length 0 [] (by omega) (by omega) (by simp) (by simp)
 simp only [List.drop_zero] at h1
 have h1':loopM (fun (x:Int×(List Range))=>cpset_Make_L1 (iSort rlt (clipL l) []) x.1 x.2) (0,[])=some (mkE l):=h1
 rw [h1']
 rfl
def CanR:List Range→Prop
 | []=>True
 | [r]=>rgOk r
 | r::q::l=>rgOk r∧q.Hi+1 < r.Lo∧CanR (q::l)
theorem CanR.tail {r:Range} {l:List Range} (h:CanR (r::l)):CanR l:=by
 cases l with
 | nil=>trivial
 | cons q l=>exact h.2.2
theorem CanR.head {r:Range} {l:List Range} (h:CanR (r::l)):rgOk r:=by
 cases l with
 | nil=>exact h
 | cons q l=>exact h.1
theorem can_rev:∀(r l:List Range),CanR r→Can l→(∀x y,r.head? =some x→l.head? =some y→x.Hi+1 < y.Lo)→Can (r.reverse++l)
 | [],l,_,h,_=>h
 | x::r,l,hr,hl,hc=>by
  have:=can_rev r (x::l) hr.tail (by
   cases l with
   | nil=>exact hr.head
   | cons y l=>exact ⟨hr.head,hc x y rfl rfl,hl⟩) (fun a b ha hb=>by
    cases r with
    | nil=>cases ha
    | cons q r=>simp only [List.head?_cons,Option.some.injEq] at ha hb;subst ha;subst hb;exact hr.2.1)
  simpa using this
theorem mrg_can:∀(t o:List Range),t.Pairwise (LeB rlt)→(∀r∈t,rgOk r)→CanR o→(∀q r,o.head? =some q→r∈t→q.Lo≤r.Lo)→CanR (t.foldl mrg o)
 | [],o,_,_,h,_=>h
 | r::t,o,hs,hok,ho,hlo=>by
  have hs':=List.pairwise_cons.1 hs
  have hr:=hok r (by simp)
  have hrt:∀x∈t,r.Lo≤x.Lo:=fun x hx=>by
   have:=hs'.1 x hx
   unfold LeB rlt at this
   simp only [Bool.or_eq_false_iff,decide_eq_false_iff_not] at this
   omega
  rw [List.foldl_cons]
  refine mrg_can t (mrg o r) hs'.2 (fun x hx=>hok x (by simp [hx])) ?_ ?_
  cases o with
  | nil=>exact hr
  | cons q l=>
   have hq:=ho.head
   have hql:=hlo q r rfl (by simp)
   rw [mrg_cons]
   split
   rename_i hc
   unfold rgOk at hq hr
   cases l with
   | nil=>show rgOk _;unfold rgOk;simp only;omega
   | cons z l=>exact ⟨by unfold rgOk;simp only;omega,ho.2.1,ho.2.2⟩
   rename_i hc
   exact ⟨hr,by omega,ho⟩
  intro q' x hq' hx
  cases o with
  | nil=>simp only [mrg,List.head?_cons,Option.some.injEq] at hq';subst hq';exact hrt x hx
  | cons q l=>
   rw [mrg_cons] at hq'
   split at hq'
   simp only [List.head?_cons,Option.some.injEq] at hq';subst hq';exact hlo q x rfl (by simp [hx])
   simp only [List.head?_cons,Option.some.injEq] at hq';subst hq';exact hrt x hx
theorem mkE_can (l:List Range):Can (mkE l):=by
 have hp:=iSort_perm rlt (clipL l) []
 simp only [List.nil_append] at hp
 have h:=mrg_can (iSort rlt (clipL l) []) [] (iSort_sorted rlt rlt_tr rlt_asy _ _ .nil) (fun r hr=>clipL_ok l r (hp.mem_iff.1 hr)) trivial (fun _ _ h=>by cases h)
 have:=can_rev _ [] h trivial (fun _ _ _ h=>by cases h)
 simpa [mkE] using this
theorem mrg_id:∀(t o:List Range),Can (o.reverse++t)→t.foldl mrg o=t.reverse++o
 | [],o,_=>by simp
 | r::t,o,h=>by
  rw [List.foldl_cons]
  have e:mrg o r=r::o:=by
   cases o with
   | nil=>rfl
   | cons q l=>
    rw [mrg_cons]
    have:Can (q::r::t):=by
     have h':Can (l.reverse++(q::r::t)):=by simpa using h
     clear h
     generalize l.reverse=z at h'
     induction z with
     | nil=>exact h'
     | cons a z ih=>exact ih h'.tail
    have:=this.2.1
    rw [if_neg (by omega)]
  rw [e,mrg_id t (r::o) (by simpa using h)]
  simp
theorem mkE_id {l:List Range} (h:Can l):mkE l=l:=by
 unfold mkE
 rw [clipL_id h.ok,iSort_id rlt l [] (by simpa using h.sorted)]
 simp only [List.nil_append]
 rw [mrg_id l [] (by simpa using h)]
 simp
theorem can_iff (l:List Range):mkE l=l↔Can l:=⟨fun h=>h▸mkE_can l,mkE_id⟩
theorem validVer {s:Set} (hl:s.Ranges.length≤12):∃b,cpset_Valid s=some b∧(b=true↔Can s.Ranges):=by
 unfold cpset_Valid
 rw [make_eq hl,some_bind,←can_iff]
 by_cases hlen:(mkE s.Ranges).length=s.Ranges.length
 have e0:(!decide (((mkE s.Ranges).length:Int)=(s.Ranges.length:Int)))=false:=by simp [hlen]
 simp only [e0,cond_false]
 have h:=loop_ver0 (body:=fun (x:Int)=>cpset_Valid_L0 {Ranges:=mkE s.Ranges} s x) (mkE s.Ranges).length (fun k=>nth (mkE s.Ranges) k=nth s.Ranges k) (fun y=>y=false) (fun k hk=>by
  have hk2:k < s.Ranges.length:=by omega
  simp only [cpset_Valid_L0,lt_t hk,cond_true,idx_nth hk,idx_nth hk2,some_bind,wi_succ (k:=k) (by omega)]
  exact ver_if (by simp) rfl) (fun k hk=>by simp only [cpset_Valid_L0,lt_f hk,cond_false])
 have e:(∀j,j < (mkE s.Ranges).length→nth (mkE s.Ranges) j=nth s.Ranges j)↔mkE s.Ranges=s.Ranges:=by
  constructor
  intro h
  refine List.ext_getElem hlen fun j h1 h2=>?_
  have:=h j h1
  rwa [nth_eq h1,nth_eq h2] at this
  intro h j _;rw [h]
 rw [e] at h
 rcases h with ⟨h,p⟩ | ⟨y,rfl,h,p⟩
 rw [h];exact ⟨true,rfl,by simp [p]⟩
 rw [h];exact ⟨false,rfl,by simp [p]⟩
 have e0:(!decide (((mkE s.Ranges).length:Int)=(s.Ranges.length:Int)))=true:=by simp;omega
 simp only [e0,cond_true]
 exact ⟨false,rfl,by simp only [Bool.false_eq_true,false_iff];exact fun h=>hlen (by rw [h])⟩
end Go.M
namespace Go.M
open Go.AV
def syl (c:Int):Bool:=decide (44032≤c)&&decide (c≤55203)
def hdE (c:Int):List Int:=if syl c=true then [4352+(c - 44032) / 28 / 21,4449+(c - 44032) / 28 % 21]++(if 0 < (c - 44032) % 28 then [4520+(c - 44032) % 28 - 1] else []) else [c]
theorem CV.mono {l:List Span} (h:CV l):∀(d i:Nat),i+d+1 < l.length→(nth l i).Hi < (nth l (i+d+1)).Lo
 | 0,i,hi=>(h.ad i hi).1
 | d+1,i,hi=>by
  have h1:=CV.mono h d i (by omega)
  have h2:=h.sp (i+d+1) (by omega)
  have h3:=(h.ad (i+d+1) (by omega)).1
  unfold spOk at h2
  have:i+(d+1)+1=i+d+1+1:=by omega
  rw [this]
  omega
theorem CV.lt {l:List Span} (h:CV l) {i j:Nat} (hij:i < j) (hj:j < l.length):(nth l i).Hi < (nth l j).Lo:=by
 have:=CV.mono h (j - i - 1) i (by omega)
 rwa [show i+(j - i - 1)+1=j by omega] at this
theorem CV.hi {l:List Span} (h:CV l) {i j:Nat} (hij:i≤j) (hj:j < l.length):(nth l i).Hi≤(nth l j).Hi:=by
 rcases Nat.lt_or_eq_of_le hij with h1 | rfl
 have:=h.lt h1 hj
 have h2:=h.sp j hj
 unfold spOk at h2
 omega
 exact Int.le_refl _
end Go.M
namespace Go.M
open Go.AV
theorem mlt_tr {a b c:Mapping} (h1:mlt a b) (h2:mlt b c):mlt a c:=by
 unfold mlt at*
 rcases h1 with h1 | ⟨h1,t1⟩
 rcases h2 with h2 | ⟨h2,t2⟩
 exact .inl (by omega)
 exact .inl (by omega)
 rcases h2 with h2 | ⟨h2,t2⟩
 exact .inl (by omega)
 exact .inr ⟨by omega,List.lt_trans t1 t2⟩
theorem mlt_irr {a b:Mapping} (h:mlt a b):¬(a.From=b.From∧a.Tag=b.Tag):=by
 rintro ⟨h1,h2⟩
 unfold mlt at h
 rcases h with h | ⟨_,h⟩
 omega
 rw [h2] at h;exact List.lt_irrefl _ h
theorem mlt_all {l:List Mapping} (h:∀k,k+1 < l.length→mlt (nth l k) (nth l (k+1))):∀(d i:Nat),i+d+1 < l.length→mlt (nth l i) (nth l (i+d+1))
 | 0,i,hi=>h i hi
 | d+1,i,hi=>by
  have h1:=mlt_all h d i (by omega)
  have h3:=h (i+d+1) (by omega)
  have:i+(d+1)+1=i+d+1+1:=by omega
  rw [this]
  exact mlt_tr h1 h3
theorem bstr (x y:Str):(x==y)=decide (x=y):=by
 rw [Bool.eq_iff_iff];simp
section
variable {l:List Mapping} (hl:l.length≤2000) (hto:∀m∈l,m.To.length≤2000) (htg:∀m∈l,m.Tag.length≤MX)
include hl hto htg
omit hl hto htg in
theorem refCodes {m:Mapping} (hm:m.To.length≤2000):∃b,ref11_codes m=some b∧(b=true↔codesOk m):=by
 unfold ref11_codes
 have h:=loop_ver0 (body:=fun (x:Int)=>ref11_codes_L0 m x) m.To.length (fun j=>vld (nth m.To j)=true) (fun y=>y=false) (fun j hj=>by
  simp only [ref11_codes_L0,lt_t hj,cond_true,idx_nth hj,some_bind,refvalid_eq,wi_succ (k:=j) (by omega)]
  exact ver_if (by simp) rfl) (fun j hj=>by simp only [ref11_codes_L0,lt_f hj,cond_false])
 rw [all_nth (p:=fun c=>vld c=true)] at h
 rcases h with ⟨h,p⟩ | ⟨y,rfl,h,p⟩
 rw [h]
 simp only [some_bind,Sum.elim_inl,refvalid_eq]
 exact ⟨_,rfl,⟨fun a=>⟨a,p⟩,fun a=>a.1⟩⟩
 rw [h];exact ⟨false,rfl,by simp only [Bool.false_eq_true,false_iff];exact fun a=>p a.2⟩
omit hto htg in
theorem refTwice:∃b,ref11_twice l=some b∧(b=true→¬∀k,k+1 < l.length→mlt (nth l k) (nth l (k+1)))∧(b=false→True):=by
 unfold ref11_twice
 have inner:∀i,i < l.length→(loopM (fun (x:Int)=>ref11_twice_L1 (i:Int) l x) 0=some (.inl ())∧∀j,j < i→¬((nth l i).From=(nth l j).From∧(nth l i).Tag=(nth l j).Tag))∨(∃y,y=true∧loopM (fun (x:Int)=>ref11_twice_L1 (i:Int) l x) 0=some (.inr y)∧¬∀j,j < i→¬((nth l i).From=(nth l j).From∧(nth l i).Tag=(nth l j).Tag)):=by
  intro i hi
  refine loop_ver0 (body:=fun (x:Int)=>ref11_twice_L1 (i:Int) l x) i _ (fun y=>y=true) (fun j hj=>?_) (fun j hj=>by simp only [ref11_twice_L1,lt_f hj,cond_false])
  have hj':j < l.length:=by omega
  simp only [ref11_twice_L1,lt_t hj,cond_true,idx_nth hi,idx_nth hj',some_bind,pv_bind,wi_succ (k:=j) (by omega),bstr]
  by_cases a:(nth l i).From=(nth l j).From
  simp only [a,decide_true,gM_t,some_bind,Bool.true_and,true_and]
  exact ver_if (by simp) rfl
  simp only [a,decide_false,gM_f,some_bind,Bool.false_and,cond_false,false_and]
  exact .inl ⟨by simp,trivial⟩
 have h:=loop_ver0 (body:=fun (x:Int)=>ref11_twice_L0 l x) l.length (fun i=> ∀j,j < i→¬((nth l i).From=(nth l j).From∧(nth l i).Tag=(nth l j).Tag)) (fun y=>y=true) (fun k hk=>by
  simp only [ref11_twice_L0,lt_t hk,cond_true,wi_succ (k:=k) (by omega)]
  rcases inner k hk with ⟨h,p⟩ | ⟨y,hy,h,p⟩
  rw [h];exact .inl ⟨p,rfl⟩
  rw [h];exact .inr ⟨p,y,hy,rfl⟩) (fun j hj=>by simp only [ref11_twice_L0,lt_f hj,cond_false])
 rcases h with ⟨h,p⟩ | ⟨y,rfl,h,p⟩
 rw [h];exact ⟨false,rfl,fun h=>(by cases h),fun _=>trivial⟩
 rw [h]
 refine ⟨true,rfl,fun _ hh=>p fun i hi j hj=>?_,fun _=>trivial⟩
 have:=mlt_all hh (i - j - 1) j (by omega)
 rw [show j+(i - j - 1)+1=i by omega] at this
 have:=mlt_irr this
 exact fun ⟨a,b⟩=>this ⟨a.symm,b.symm⟩
end
end Go.M
namespace Go.M
open Go.AV
def pM (c:Int) (b:Bool) (k:Nat) (m:Mapping):Option Nat:=if m.From=c∧(b ||(m.Tag== []))=true then some k else none
def fi (l:List Mapping) (c:Int) (b:Bool):Option Nat:=chk (pM c b) l 0
end Go.M
namespace Go.M
open Go.AV
section
def lenOf (l:List Mapping) (b:Bool) (out:List Int) (e:Int):Int:=match fi l e b with
 | some m=>nth out m
 | none=>((hdE e).length:Int)
def updL (l:List Mapping) (b:Bool) (out:List Int) (i:Nat):Int:=if (b ||((nth l i).Tag== []))=true then min (max (((nth l i).To.map (lenOf l b out)).sum) 1) 65 else 1
end
end Go.M
namespace Go.M
open Go.AV
def plF (n:Int):Bool→List Int→Bool×List Int
 | true,l=>(true,l)
 | false,[]=>(false,[])
 | false,x::l=>if n≤x then (true,if n < x then n::x::l else x::l) else ((plF n false l).1,x::(plF n false l).2)
def plE (n:Int):List Int→List Int
 | []=>[n]
 | x::l=>if n≤x then (if n < x then n::x::l else x::l) else x::plE n l
theorem plF_E (n:Int):∀l:List Int,(if (plF n false l).1=true then (plF n false l).2 else (plF n false l).2++ [n])=plE n l
 | []=>rfl
 | x::l=>by
  have:=plF_E n l
  unfold plF plE
  by_cases h:n≤x
  simp [h]
  simp only [h,if_false]
  rw [←this]
  split <;> simp
theorem place_loop {l : List Int} {n : Int} (hl : l.length ≤ 2000) : ∀ (d k : Nat) (b : Bool) (out : List Int), l.length - k = d → k ≤ l.length → out.length ≤ 2 * k →
    loopM (fun (x : Bool × Int × (List Int)) => ref02_place_L0 l n x.1 x.2.1 x.2.2) (b, (k : Int), out) = some ((plF n b (l.drop k)).1, out ++ (plF n b (l.drop k)).2) := by
  intro d
  induction d with
  | zero =>
    intro k b out h1 h2 h3
    rw [List.drop_of_length_le (show l.length ≤ k by omega)]
    refine loopM_done ?_
    simp only [ref02_place_L0, lt_f (show l.length ≤ k by omega), cond_false]
    cases b <;> simp [plF]
  | succ d ih =>
    intro k b out h1 h2 h3
    have hk : k < l.length := by omega
    have ha : ∀ {o : List Int} (x : Int), o.length ≤ 2 * k + 1 → app o [x] = some (o ++ [x]) := fun {o} x ho => app_ok (by simp; omega)
    rw [List.drop_eq_getElem_cons hk]
    have nx : ∀ (b' : Bool) (o' : List Int), o'.length ≤ 2 * (k + 1) → ref02_place_L0 l n b (k : Int) out = some (.next (b', ((k + 1 : Nat) : Int), o')) → (plF n b' (l.drop (k + 1))).1 = (plF n b (l[k] :: l.drop (k + 1))).1 → o' ++ (plF n b' (l.drop (k + 1))).2 = out ++ (plF n b (l[k] :: l.drop (k + 1))).2 →
        loopM (fun (x : Bool × Int × (List Int)) => ref02_place_L0 l n x.1 x.2.1 x.2.2) (b, (k : Int), out) = some ((plF n b (l[k] :: l.drop (k + 1))).1, out ++ (plF n b (l[k] :: l.drop (k + 1))).2) := by
      intro b' o' ho hb e1 e2
      rw [loopM_next (body := fun (x : Bool × Int × (List Int)) => ref02_place_L0 l n x.1 x.2.1 x.2.2) (x := (b, (k : Int), out)) hb, ih (k + 1) b' o' (by omega) (by omega) ho, e1, e2]
    cases b with
    | true =>
      refine nx true (out ++ [l[k]]) (by simp; omega) ?_ ?_ ?_
      · simp only [ref02_place_L0, lt_t hk, cond_true, pv_bind, Bool.not_true, gM_f, some_bind, Bool.false_and, cond_false, idx_nat hk, ha _ (show out.length ≤ 2 * k + 1 by omega), wi_succ (k := k) (by omega)]
      · simp [plF]
      · simp [plF]
    | false =>
      by_cases h4 : n ≤ l[k]
      · by_cases h5 : n < l[k]
        · refine nx true (out ++ [n] ++ [l[k]]) (by simp; omega) ?_ ?_ ?_
          · simp only [ref02_place_L0, lt_t hk, cond_true, pv_bind, Bool.not_false, gM_t, some_bind, Bool.true_and, idx_nat hk, h4, h5, decide_true, ha _ (show out.length ≤ 2 * k + 1 by omega), ha _ (show (out ++ [n]).length ≤ 2 * k + 1 by simp; omega), wi_succ (k := k) (by omega)]
          · simp [plF, h4]
          · simp [plF, h4, h5]
        · refine nx true (out ++ [l[k]]) (by simp; omega) ?_ ?_ ?_
          · simp only [ref02_place_L0, lt_t hk, cond_true, pv_bind, Bool.not_false, gM_t, some_bind, Bool.true_and, idx_nat hk, h4, h5, decide_true, decide_false, cond_false, ha _ (show out.length ≤ 2 * k + 1 by omega), wi_succ (k := k) (by omega)]
          · simp [plF, h4]
          · simp [plF, h4, h5]
      · refine nx false (out ++ [l[k]]) (by simp; omega) ?_ ?_ ?_
        · simp only [ref02_place_L0, lt_t hk, cond_true, pv_bind, Bool.not_false, gM_t, some_bind, Bool.true_and, idx_nat hk, h4, decide_false, cond_false, ha _ (show out.length ≤ 2 * k + 1 by omega), wi_succ (k := k) (by omega)]
        · simp [plF, h4]
        · simp [plF, h4]
theorem plF_len (n:Int):∀l:List Int,(plF n false l).2.length≤l.length+1
 | []=>by simp [plF]
 | x::l=>by
  have:=plF_len n l
  unfold plF
  by_cases h:n≤x
  by_cases h5:n < x <;> simp [h,h5]
  simp only [h,if_false,List.length_cons];omega
theorem place_eq {l:List Int} (hl:l.length≤2000) (n:Int):ref02_place l n=some (plE n l):=by
 unfold ref02_place
 have h:=place_loop (n:=n) hl l.length 0 false [] (by omega) (by omega) (by simp)
 have hlen:=plF_len n l
 rw [List.drop_zero,List.nil_append] at h
 have h':loopM (fun (x:Bool×Int×(List Int))=>ref02_place_L0 l n x.1 x.2.1 x.2.2) (false,0,[])=some ((plF n false l).1,(plF n false l).2):=h
 rw [h',some_bind,←plF_E]
 cases (plF n false l).1 with
 | true=>rfl
 | false=>simp only [Bool.not_false,cond_true,app_ok (show (plF n false l).2.length+ [n].length≤4294967296 by simp;omega),some_bind];rfl
def Gd (l:List Int):Prop:=l.Pairwise (· < ·)∧∀x∈l,0≤x∧x≤1114111
theorem plE_mem (n:Int):∀{l:List Int} {x:Int},x∈plE n l→x=n∨x∈l
 | [],x,h=>by simp [plE] at h;exact .inl h
 | y::l,x,h=>by
  unfold plE at h
  split at h
  split at h
  rcases List.mem_cons.1 h with h | h
  exact .inl h
  exact .inr h
  exact .inr h
  rcases List.mem_cons.1 h with h | h
  exact .inr (by simp [h])
  rcases plE_mem n h with h | h
  exact .inl h
  exact .inr (by simp [h])
theorem plE_asc (n:Int):∀{l:List Int},l.Pairwise (· < ·)→(plE n l).Pairwise (· < ·)
 | [],_=>by simp [plE]
 | y::l,h=>by
  obtain ⟨h1,h2⟩:=List.pairwise_cons.1 h
  unfold plE
  split
  split
  rename_i hn
  refine List.pairwise_cons.2 ⟨fun z hz=>?_,h⟩
  rcases List.mem_cons.1 hz with rfl | hz
  exact hn
  have:=h1 z hz;omega
  exact h
  rename_i hn
  refine List.pairwise_cons.2 ⟨fun z hz=>?_,plE_asc n h2⟩
  rcases plE_mem n hz with rfl | hz
  omega
  exact h1 z hz
theorem plE_gd {n:Int} (hn:0≤n∧n≤1114111) {l:List Int} (h:Gd l):Gd (plE n l):=by
 refine ⟨plE_asc n h.1,fun x hx=>?_⟩
 rcases plE_mem n hx with rfl | hx
 exact hn
 exact h.2 x hx
theorem plE_len (n:Int):∀l:List Int,(plE n l).length≤l.length+1
 | []=>by simp [plE]
 | x::l=>by
  have:=plE_len n l
  unfold plE
  split
  split <;> simp
  simp only [List.length_cons];omega
theorem plE_end {n:Int}:∀{l:List Int},(∀x∈l,x < n)→plE n l=l++ [n]
 | [],_=>rfl
 | y::l,h=>by
  have hy:=h y (by simp)
  unfold plE
  rw [if_neg (by omega),plE_end fun x hx=>h x (by simp [hx])]
  rfl
def cuS (c:List Int) (r:Range):List Int:=if 0≤r.Hi∧r.Hi < 1114111 then plE (r.Hi+1) (if vld r.Lo=true then plE r.Lo c else c) else (if vld r.Lo=true then plE r.Lo c else c)
theorem cuS_len (c:List Int) (r:Range):(cuS c r).length≤c.length+2:=by
 have h1:=plE_len r.Lo c
 unfold cuS
 split
 ·
  have h2:=plE_len (r.Hi+1) (if vld r.Lo=true then plE r.Lo c else c)
  split at h2 <;> split <;> simp_all <;> omega
 · split <;> omega
theorem cuS_gd {c:List Int} {r:Range} (h:Gd c):Gd (cuS c r):=by
 have h1:Gd (if vld r.Lo=true then plE r.Lo c else c):=by
  split
  rename_i hv
  unfold vld at hv
  simp only [Bool.and_eq_true,decide_eq_true_eq] at hv
  exact plE_gd hv h
  exact h
 unfold cuS
 split
 exact plE_gd (by omega) h1
 exact h1
def cuE (l:List Range) (c:List Int):List Int:=l.foldl cuS c
theorem cuE_gd:∀(l:List Range) {c:List Int},Gd c→Gd (cuE l c)
 | [],_,h=>h
 | r::l,_,h=>cuE_gd l (cuS_gd h)
theorem cuE_len:∀(l:List Range) (c:List Int),(cuE l c).length≤c.length+2*l.length
 | [],c=>by simp [cuE]
 | r::l,c=>by
  have h1:=cuE_len l (cuS c r)
  have h2:=cuS_len c r
  show (cuE l (cuS c r)).length≤_
  simp only [List.length_cons];omega
theorem cuts_loop {s : Set} (hl : s.Ranges.length ≤ 12) : ∀ (d k : Nat) (c : List Int), s.Ranges.length - k = d → k ≤ s.Ranges.length → c.length ≤ 100 + 2 * k →
    loopM (fun (x : (List Int) × Int) => ref02_Cuts_L0 s x.1 x.2) (c, (k : Int)) = some (cuE (s.Ranges.drop k) c) := by
  intro d
  induction d with
  | zero =>
    intro k c h1 h2 h3
    rw [List.drop_of_length_le (show s.Ranges.length ≤ k by omega)]
    refine loopM_done ?_
    simp only [ref02_Cuts_L0, lt_f (show s.Ranges.length ≤ k by omega), cond_false]
    rfl
  | succ d ih =>
    intro k c h1 h2 h3
    have hk : k < s.Ranges.length := by omega
    have hs := cuS_len c s.Ranges[k]
    have hb : ref02_Cuts_L0 s c (k : Int) = some (.next (cuS c s.Ranges[k], ((k + 1 : Nat) : Int))) := by
      have hp := plE_len s.Ranges[k].Lo c
      simp only [ref02_Cuts_L0, lt_t hk, cond_true, idx_nat hk, some_bind, refvalid_eq, pv_bind, wi_succ (k := k) (by omega), place_eq (show c.length ≤ 2000 by omega)]
      unfold cuS
      by_cases hv : vld s.Ranges[k].Lo = true
      · simp only [hv, cond_true, some_bind, if_true]
        by_cases ha : 0 ≤ s.Ranges[k].Hi
        · by_cases hc : s.Ranges[k].Hi < 1114111
          · simp only [ha, hc, decide_true, Bool.and_self, cond_true, and_self, if_true]
            rw [wi_id (n := s.Ranges[k].Hi + 1) (by omega) (by omega), place_eq (by omega)]
            rfl
          · simp [ha, hc]
        · simp [ha]
      · simp only [hv, Bool.false_eq_true, if_false, cond_false, some_bind]
        by_cases ha : 0 ≤ s.Ranges[k].Hi
        · by_cases hc : s.Ranges[k].Hi < 1114111
          · simp only [ha, hc, decide_true, Bool.and_self, cond_true, and_self, if_true]
            rw [wi_id (n := s.Ranges[k].Hi + 1) (by omega) (by omega), place_eq (by omega)]
            rfl
          · simp [ha, hc]
        · simp [ha]
    rw [loopM_next (body := fun (x : (List Int) × Int) => ref02_Cuts_L0 s x.1 x.2) (x := (c, (k : Int))) hb, ih (k + 1) _ (by omega) (by omega) (by omega), List.drop_eq_getElem_cons hk]
    rfl
theorem cuts_eq {s:Set} (hl:s.Ranges.length≤12) {c:List Int} (hc:c.length≤100):ref02_Cuts c s=some (plE 0 (cuE s.Ranges c)):=by
 unfold ref02_Cuts
 have h:=cuts_loop hl s.Ranges.length 0 c (by omega) (by omega) (by omega)
 rw [List.drop_zero] at h
 have h':loopM (fun (x:(List Int)×Int)=>ref02_Cuts_L0 s x.1 x.2) (c,0)=some (cuE s.Ranges c):=h
 have:=cuE_len s.Ranges c
 rw [h',some_bind,place_eq (by omega)]
 rfl
def hasE (l:List Range) (c:Int):Bool:=l.any fun r=>vld c&&decide (r.Lo≤c)&&decide (c≤r.Hi)
theorem has_eq {s:Set} (hl:s.Ranges.length≤2000) (c:Int):ref02_Has s c=some (hasE s.Ranges c):=by
 unfold ref02_Has
 have h:=loop_ver0 (body:=fun (x:Int)=>ref02_Has_L0 s c x) s.Ranges.length (fun k=> ¬(vld c&&decide ((nth s.Ranges k).Lo≤c)&&decide (c≤(nth s.Ranges k).Hi))=true) (fun y=>y=true) (fun k hk=>by
  simp only [ref02_Has_L0,lt_t hk,cond_true,refvalid_eq,some_bind,pv_bind,idx_nth hk,wi_succ (k:=k) (by omega)]
  cases hv:vld c with
  | false=>simp only [gM_f,some_bind,Bool.false_and,cond_false];exact .inl ⟨by simp,trivial⟩
  | true=>
   simp only [gM_t,some_bind,Bool.true_and]
   by_cases h1:(nth s.Ranges k).Lo≤c
   simp only [h1,decide_true,gM_t,some_bind,Bool.true_and]
   exact ver_if (by simp) rfl
   simp only [h1,decide_false,gM_f,some_bind,Bool.false_and,cond_false]
   exact .inl ⟨by simp,trivial⟩) (fun k hk=>by simp only [ref02_Has_L0,lt_f hk,cond_false])
 rw [all_nth (p:=fun r:Range=> ¬(vld c&&decide (r.Lo≤c)&&decide (c≤r.Hi))=true)] at h
 rcases h with ⟨h,p⟩ | ⟨y,rfl,h,p⟩
 rw [h]
 have:hasE s.Ranges c=false:=by unfold hasE;rw [List.any_eq_false];exact p
 rw [this];rfl
 rw [h]
 have:hasE s.Ranges c=true:=by
  cases he:hasE s.Ranges c with
  | true=>rfl
  | false=>exfalso;apply p;unfold hasE at he;rw [List.any_eq_false] at he;exact he
 rw [this];rfl
def nxt:List Int→Int
 | []=>1114111
 | d::_=>d - 1
def coF (has : Int → Bool) : List Int → Bool → List Range → List Range
  | [], _, o => o
  | c :: cs, op, o => if has c = true then (if op = true then coF has cs true (match o with
      | q :: o' => { q with Hi := nxt cs } :: o'
      | [] => []) else coF has cs true ({ Lo := c, Hi := nxt cs } :: o)) else coF has cs false o
theorem co_loop {C : List Int} {s : Set} (hl : s.Ranges.length ≤ 12) (hC : C.length ≤ 200) (hg : Gd C) : ∀ (d k : Nat) (op : Bool) (o : List Range), C.length - k = d → k ≤ C.length → o.length ≤ k → (op = true → o ≠ []) →
    loopM (fun (x : Bool × Int × (List Range)) => ref02_combine_L0 C s { Ranges := [] } 1 x.1 x.2.1 x.2.2) (op, (k : Int), o.reverse) = some (coF (hasE s.Ranges) (C.drop k) op o).reverse := by
  intro d
  induction d with
  | zero =>
    intro k op o h1 h2 h3 h4
    rw [List.drop_of_length_le (show C.length ≤ k by omega)]
    refine loopM_done ?_
    simp only [ref02_combine_L0, lt_f (show C.length ≤ k by omega), cond_false]
    rfl
  | succ d ih =>
    intro k op o h1 h2 h3 h4
    have hk : k < C.length := by omega
    have he : ref02_Has { Ranges := [] } C[k] = some false := by rw [has_eq (by simp)]; rfl
    have hnx : (cond (decide (((k + 1 : Nat) : Int) < (C.length : Int))) ((idx C ((k + 1 : Nat) : Int)).bind fun t31 => some (wi (t31 - 1))) (some 1114111) : Option Int) = some (nxt (C.drop (k + 1))) := by
      by_cases hk1 : k + 1 < C.length
      · have := hg.2 _ (List.getElem_mem hk1)
        rw [lt_t hk1, cond_true, idx_nat hk1, some_bind, wi_id (by omega) (by omega), List.drop_eq_getElem_cons hk1]
        rfl
      · rw [lt_f (by omega), cond_false, List.drop_of_length_le (by omega)]
        rfl
    rw [List.drop_eq_getElem_cons hk]
    have nx : ∀ (op' : Bool) (o' : List Range), o'.length ≤ k + 1 → (op' = true → o' ≠ []) → ref02_combine_L0 C s { Ranges := [] } 1 op (k : Int) o.reverse = some (.next (op', ((k + 1 : Nat) : Int), o'.reverse)) → coF (hasE s.Ranges) (C.drop (k + 1)) op' o' = coF (hasE s.Ranges) (C[k] :: C.drop (k + 1)) op o →
        loopM (fun (x : Bool × Int × (List Range)) => ref02_combine_L0 C s { Ranges := [] } 1 x.1 x.2.1 x.2.2) (op, (k : Int), o.reverse) = some (coF (hasE s.Ranges) (C[k] :: C.drop (k + 1)) op o).reverse := by
      intro op' o' ho hne hb e
      rw [loopM_next (body := fun (x : Bool × Int × (List Range)) => ref02_combine_L0 C s { Ranges := [] } 1 x.1 x.2.1 x.2.2) (x := (op, (k : Int), o.reverse)) hb, ih (k + 1) op' o' (by omega) (by omega) ho hne, e]
    have hb0 : ref02_combine_L0 C s { Ranges := [] } 1 op (k : Int) o.reverse = ((cond (hasE s.Ranges C[k] && op) ((idx o.reverse (wi ((o.reverse.length : Int) - 1))).bind fun t59 => (setM o.reverse (wi ((o.reverse.length : Int) - 1)) ({ t59 with Hi := nxt (C.drop (k + 1)) })).bind fun r4160_4 => some r4160_4) (some o.reverse)).bind fun (y3 : List Range) =>
        (cond (hasE s.Ranges C[k] && !op) ((app y3 [({ Lo := C[k], Hi := nxt (C.drop (k + 1)) } : Range)]).bind fun r => some r) (some y3)).bind fun (y5 : List Range) => some (Stp.next (hasE s.Ranges C[k], ((k + 1 : Nat) : Int), y5))) := by
      unfold ref02_combine_L0
      simp only [wi_succ (k := k) (show k + 1 ≤ 9223372036854775807 by omega), lt_t hk, cond_true, hnx, some_bind, idx_nat hk, has_eq (show s.Ranges.length ≤ 2000 by omega), he, ref02_keeps, decide_true, pv_bind, Bool.or_false]
    cases hh : hasE s.Ranges C[k] with
    | false =>
      refine nx false o (by omega) (fun h => by cases h) ?_ ?_
      · rw [hb0, hh]; rfl
      · simp [coF, hh]
    | true =>
      cases op with
      | false =>
        refine nx true ({ Lo := C[k], Hi := nxt (C.drop (k + 1)) } :: o) (by simp; omega) (fun _ => by simp) ?_ ?_
        · rw [hb0, hh]
          simp only [Bool.and_false, cond_false, some_bind, Bool.not_false, Bool.and_self, cond_true, app_ok (show o.reverse.length + [({ Lo := C[k], Hi := nxt (C.drop (k + 1)) } : Range)].length ≤ 4294967296 by simp; omega)]
          simp
        · simp [coF, hh]
      | true =>
        cases o with
        | nil => exact absurd rfl (h4 rfl)
        | cons q o =>
          refine nx true ({ q with Hi := nxt (C.drop (k + 1)) } :: o) (by simp only [List.length_cons] at h3 ⊢; omega) (fun _ => by simp) ?_ ?_
          · rw [hb0, hh]
            have e1 : wi (((q :: o).reverse.length : Int) - 1) = ((o.length : Nat) : Int) := by
              simp only [List.length_cons] at h3
              have hL : ((q :: o).reverse.length : Int) = (o.length : Int) + 1 := by simp
              rw [hL, wi_id (by omega) (by omega)]; omega
            have e2 : (q :: o).reverse = o.reverse ++ q :: [] := by simp
            rw [e1, e2, idx_mid (by simp), some_bind, setM_mid (by simp)]
            simp
          · simp [coF, hh]
theorem make_ref {l:List Range} (hl:l.length≤12):ref02_Make l=some {Ranges:=(coF (hasE l) (plE 0 (plE 0 (cuE l []))) false []).reverse}:=by
 unfold ref02_Make ref02_combine
 have h1:=cuE_len l []
 have h2:=plE_len 0 (cuE l [])
 have h3:=plE_len 0 (plE 0 (cuE l []))
 simp only [List.length_nil] at h1
 have e0:cuE ([]:List Range) (plE 0 (cuE l []))=plE 0 (cuE l []):=rfl
 have hg:Gd (plE 0 (plE 0 (cuE l []))):=plE_gd (by omega) (plE_gd (by omega) (cuE_gd l ⟨.nil,fun x hx=>by cases hx⟩))
 rw [cuts_eq (s:={Ranges:=l}) hl (by simp),some_bind,cuts_eq (s:={Ranges:=[]}) (by simp) (show (plE 0 (cuE l [])).length≤100 by omega)]
 rw [some_bind]
 have h:=co_loop (s:={Ranges:=l}) hl (by omega) hg _ 0 false [] rfl (by omega) (by simp) (fun h=>by cases h)
 rw [List.drop_zero] at h
 have h':loopM (fun (x:Bool×Int×(List Range))=>ref02_combine_L0 (plE 0 (plE 0 (cuE l []))) {Ranges:=l} {Ranges:=[]} 1 x.1 x.2.1 x.2.2) (false,0,[])=some (coF (hasE l) (plE 0 (plE 0 (cuE l []))) false []).reverse:=h
 change ((loopM (fun (x:Bool×Int×(List Range))=>ref02_combine_L0 (plE 0 (plE 0 (cuE l []))) {Ranges:=l} {Ranges:=[]} 1 x.1 x.2.1 x.2.2) (false,0,[])).bind fun y1=>some ({Ranges:=y1}:Set)).bind (fun t6=>some t6)=_
 rw [h']
 rfl
end Go.M
namespace Go.M
open Go.AV
theorem coF_can {has:Int→Bool}:∀(C:List Int) (op:Bool) (o:List Range),Gd C→CanR o→(op=true→∀c,C.head? =some c→∃q o',o=q::o'∧q.Hi=c - 1∧q.Lo≤c)→(op=false→∀c q,C.head? =some c→o.head? =some q→q.Hi+1 < c)→(op=true→o≠[])→CanR (coF has C op o)
 | [],_,_,_,h,_,_,_=>h
 | c::cs,op,o,hg,ho,h1,h2,h3=>by
  obtain ⟨ha,hb⟩:=List.pairwise_cons.1 hg.1
  have hgs:Gd cs:=⟨hb,fun x hx=>hg.2 x (by simp [hx])⟩
  have hc:=hg.2 c (by simp)
  have hnx:c≤nxt cs∧nxt cs≤1114111∧∀d,cs.head? =some d→nxt cs=d - 1∧c < d:=by
   cases cs with
   | nil=>exact ⟨hc.2,Int.le_refl _,fun d hd=>by cases hd⟩
   | cons d cs=>
    have h5:=ha d (by simp)
    have h6:=hg.2 d (by simp)
    refine ⟨show c≤d - 1 by omega,show d - 1≤1114111 by omega,fun e he=>?_⟩
    simp only [List.head?_cons,Option.some.injEq] at he
    subst he
    exact ⟨rfl,h5⟩
  unfold coF
  split
  split
  rename_i hop
  obtain ⟨q,o',rfl,e1,e2⟩:=h1 hop c rfl
  refine coF_can cs true _ hgs ?_ (fun _ d hd=>⟨_,_,rfl,(hnx.2.2 d hd).1,?_⟩) (fun h=>by cases h) (fun _=>by simp)
  have hq:=ho.head
  unfold rgOk at hq
  cases o' with
  | nil=>show rgOk _;unfold rgOk;simp only;omega
  | cons z o'=>exact ⟨by unfold rgOk;simp only;omega,ho.2.1,ho.2.2⟩
  have:=(hnx.2.2 d hd).2
  show q.Lo≤d
  omega
  rename_i hop
  simp only [Bool.not_eq_true] at hop
  refine coF_can cs true _ hgs ?_ (fun _ d hd=>⟨_,_,rfl,(hnx.2.2 d hd).1,?_⟩) (fun h=>by cases h) (fun _=>by simp)
  cases o with
  | nil=>show rgOk _;unfold rgOk;simp only;omega
  | cons z o'=>exact ⟨by unfold rgOk;simp only;omega,h2 hop c z rfl rfl,ho⟩
  have:=(hnx.2.2 d hd).2
  show c≤d
  omega
  refine coF_can cs false o hgs ho (fun h=>by cases h) (fun _ d q hd hq=>?_) (fun h=>by cases h)
  have h7:=(hnx.2.2 d hd).2
  cases op with
  | true=>
   obtain ⟨q',o',rfl,e1,_⟩:=h1 rfl c rfl
   simp only [List.head?_cons,Option.some.injEq] at hq
   subst hq
   omega
  | false=>
   have:=h2 rfl c q rfl hq
   omega
def cutL (l:List Range):List Int:=l.flatMap fun r=>r.Lo::if r.Hi < 1114111 then [r.Hi+1] else []
theorem cu_can:∀(l:List Range) (c:List Int),Can l→(∀x∈c,∀r,l.head? =some r→x < r.Lo)→cuE l c=c++cutL l
 | [],c,_,_=>by simp [cuE,cutL]
 | r::l,c,h,hc=>by
  have hr:=h.head
  unfold rgOk at hr
  have hv:vld r.Lo=true:=by unfold vld;simp;omega
  have e1:plE r.Lo c=c++ [r.Lo]:=plE_end fun x hx=>hc x hx r rfl
  have e2:cuS c r=c++(r.Lo::if r.Hi < 1114111 then [r.Hi+1] else []):=by
   unfold cuS
   rw [if_pos hv,e1]
   by_cases hm:r.Hi < 1114111
   rw [if_pos ⟨by omega,hm⟩,if_pos hm,plE_end]
   simp
   intro x hx
   rcases List.mem_append.1 hx with hx | hx
   have:=hc x hx r rfl;omega
   simp only [List.mem_singleton] at hx;omega
   rw [if_neg (fun h=>hm h.2),if_neg hm]
  show cuE l (cuS c r)=_
  rw [cu_can l (cuS c r) h.tail,e2]
  simp [cutL]
  intro x hx q hq
  have hg:r.Hi+1 < q.Lo:=h.gap q (by cases l with | nil=>cases hq | cons a l=>simp only [List.head?_cons,Option.some.injEq] at hq;simp [hq])
  rw [e2] at hx
  rcases List.mem_append.1 hx with hx | hx
  have:=hc x hx r rfl;omega
  rcases List.mem_cons.1 hx with rfl | hx
  omega
  split at hx
  simp only [List.mem_singleton] at hx;omega
  cases hx
theorem has_lo {l:List Range} (h:Can l) {r:Range} (hr:r∈l):hasE l r.Lo=true:=by
 have:=h.ok r hr
 unfold rgOk at this
 unfold hasE
 refine List.any_eq_true.2 ⟨r,hr,?_⟩
 unfold vld
 simp;omega
theorem has_hi:∀{l:List Range},Can l→∀{r:Range},r∈l→hasE l (r.Hi+1)=false
 | [],_,r,hr=>by cases hr
 | a::l,h,r,hr=>by
  unfold hasE
  rw [List.any_eq_false]
  intro q hq
  have no:∀(c:Int) (q:Range),(c < q.Lo∨q.Hi < c)→¬(vld c&&decide (q.Lo≤c)&&decide (c≤q.Hi))=true:=by
   intro c q hc
   simp only [Bool.and_eq_true,decide_eq_true_eq]
   omega
  rcases List.mem_cons.1 hr with rfl | hr'
  refine no _ _ ?_
  rcases List.mem_cons.1 hq with rfl | hq
  omega
  have:=h.gap q hq;omega
  rcases List.mem_cons.1 hq with rfl | hq
  refine no _ _ ?_
  have h1:=h.gap r hr'
  have h2:=h.tail.ok r hr'
  unfold rgOk at h2
  omega
  have:=has_hi h.tail hr'
  unfold hasE at this
  rw [List.any_eq_false] at this
  exact this q hq
theorem co_walk {has : Int → Bool} : ∀ (l : List Range) (o : List Range), Can l → (∀ r ∈ l, has r.Lo = true ∧ (r.Hi < 1114111 → has (r.Hi + 1) = false)) → coF has (cutL l) false o = l.reverse ++ o
  | [], o, _, _ => by simp [cutL, coF]
  | r :: l, o, h, hh => by
    obtain ⟨h1, h2⟩ := hh r (by simp)
    have ih := co_walk (has := has) l (r :: o) h.tail fun q hq => hh q (by simp [hq])
    have hr := h.head
    unfold rgOk at hr
    by_cases hm : r.Hi < 1114111
    · have e : cutL (r :: l) = r.Lo :: (r.Hi + 1) :: cutL l := by simp [cutL, hm]
      have en : nxt ((r.Hi + 1) :: cutL l) = r.Hi := by show r.Hi + 1 - 1 = r.Hi; omega
      rw [e]
      unfold coF
      rw [if_pos h1, if_neg (by simp), en]
      unfold coF
      rw [if_neg (by rw [h2 hm]; simp), ih]
      simp
    · have hl : l = [] := by
        cases l with
        | nil => rfl
        | cons q l =>
          have := h.2.1
          have h3 := h.tail.head
          unfold rgOk at h3
          omega
      subst hl
      have e : cutL [r] = [r.Lo] := by simp [cutL, hm]
      rw [e]
      unfold coF
      rw [if_pos h1, if_neg (by simp)]
      unfold coF
      have : nxt [] = r.Hi := by show (1114111 : Int) = r.Hi; omega
      rw [this]
      rfl
theorem pl0_idem {l:List Int} (h:Gd l):plE 0 (plE 0 l)=plE 0 l:=by
 cases l with
 | nil=>rfl
 | cons x l=>
  have:=h.2 x (by simp)
  by_cases hx:0 < x
  have e:plE 0 (x::l)=0::x::l:=by unfold plE;rw [if_pos (by omega),if_pos hx]
  rw [e]
  unfold plE
  rw [if_pos (by omega),if_neg (by omega)]
  have e:plE 0 (x::l)=x::l:=by unfold plE;rw [if_pos (by omega),if_neg hx]
  rw [e,e]
theorem make_can {l:List Range} (h:Can l):(coF (hasE l) (plE 0 (plE 0 (cuE l []))) false []).reverse=l:=by
 rw [pl0_idem (cuE_gd l ⟨.nil,fun x hx=>by cases hx⟩),cu_can l [] h (fun x hx=>by cases hx),List.nil_append]
 have hw:=co_walk (has:=hasE l) l [] h fun r hr=>⟨has_lo h hr,fun _=>has_hi h hr⟩
 rw [List.append_nil] at hw
 have h0:plE 0 (cutL l)=cutL l∨(plE 0 (cutL l)=0::cutL l∧hasE l 0=false):=by
  cases l with
  | nil=>exact .inr ⟨rfl,rfl⟩
  | cons r l=>
   have hr:=h.head
   unfold rgOk at hr
   have e:cutL (r::l)=r.Lo::((if r.Hi < 1114111 then [r.Hi+1] else [])++cutL l):=by simp [cutL]
   rw [e]
   by_cases hx:0 < r.Lo
   refine .inr ⟨by unfold plE;rw [if_pos (by omega),if_pos hx],?_⟩
   unfold hasE
   rw [List.any_eq_false]
   intro q hq
   simp only [Bool.and_eq_true,decide_eq_true_eq]
   rcases List.mem_cons.1 hq with rfl | hq
   omega
   have:=h.gap q hq;omega
   exact .inl (by unfold plE;rw [if_pos (by omega),if_neg hx])
 rcases h0 with h0 | ⟨h0,h1⟩
 rw [h0,hw,List.reverse_reverse]
 rw [h0]
 unfold coF
 rw [if_neg (by rw [h1];simp),hw,List.reverse_reverse]
theorem make_can2 (l:List Range):Can (coF (hasE l) (plE 0 (plE 0 (cuE l []))) false []).reverse:=by
 have hg:Gd (plE 0 (plE 0 (cuE l []))):=plE_gd (by omega) (plE_gd (by omega) (cuE_gd l ⟨.nil,fun x hx=>by cases hx⟩))
 have:=coF_can (has:=hasE l) _ false [] hg trivial (fun h=>by cases h) (fun _ c q _ hq=>by cases hq) (fun h=>by cases h)
 have h2:=can_rev _ [] this trivial (fun _ _ _ h=>by cases h)
 simpa using h2
theorem sets_eq {a b:Set} (ha:a.Ranges.length≤2000):ref02_Same a b=some (decide (a.Ranges=b.Ranges)):=by
 unfold ref02_Same
 by_cases hl:a.Ranges.length=b.Ranges.length
 have e:(!decide ((a.Ranges.length:Int)=(b.Ranges.length:Int)))=false:=by simp [hl]
 rw [e,cond_false]
 have h:=loop_ver0 (body:=fun (x:Int)=>ref02_Same_L0 a b x) a.Ranges.length (fun k=>nth a.Ranges k=nth b.Ranges k) (fun y=>y=false) (fun k hk=>by
  simp only [ref02_Same_L0,lt_t hk,cond_true,idx_nth hk,idx_nth (show k < b.Ranges.length by omega),some_bind,wi_succ (k:=k) (by omega)]
  exact ver_if (by simp) rfl) (fun k hk=>by simp only [ref02_Same_L0,lt_f hk,cond_false])
 have he:(∀j,j < a.Ranges.length→nth a.Ranges j=nth b.Ranges j)↔a.Ranges=b.Ranges:=by
  constructor
  intro h
  refine List.ext_getElem hl fun i h1 h2=>?_
  have:=h i h1
  rwa [nth_eq h1,nth_eq h2] at this
  intro h j _;rw [h]
 rw [he] at h
 rcases h with ⟨h,p⟩ | ⟨y,rfl,h,p⟩
 rw [h];simp [p]
 rw [h];simp [p]
 have e:(!decide ((a.Ranges.length:Int)=(b.Ranges.length:Int)))=true:=by simp;omega
 rw [e,cond_true]
 have:a.Ranges≠b.Ranges:=fun h=>hl (by rw [h])
 simp [this]
theorem refSet {s:Set} (hl:s.Ranges.length≤12):∃b,ref02_Valid s=some b∧(b=true↔Can s.Ranges):=by
 unfold ref02_Valid
 rw [make_ref hl,some_bind,sets_eq (by omega),some_bind]
 refine ⟨_,rfl,?_⟩
 simp only [decide_eq_true_eq]
 constructor
 intro h;rw [h];exact make_can2 _
 intro h;rw [make_can h]
end Go.M
namespace Go.M
open Go.AV
theorem xname_loop (s:Str) (hs:s.length≤MX):loopM (fun (x:Int)=>ref11_Name_L0 s x) 0=some (toS (chk (fun _ (b:UInt8)=>if byteOk (b.toNat:Int) then none else some false) s 0)):=by
 refine loop_chk0 s _ (fun k h=>?_) (fun k h=>?_)
 simp only [ref11_Name_L0,lt_t h,cond_true,sidx_nat h,some_bind,pv_bind,wi_succ (k:=k) (by unfold MX at hs;omega)]
 by_cases hb:byteOk (s[k].toNat:Int)=true
 simp only [hb,if_true,stp]
 unfold byteOk at hb
 rw [hb]
 rfl
 simp only [hb,if_false,stp]
 unfold byteOk at hb
 simp only [Bool.not_eq_true] at hb
 rw [hb]
 rfl
 simp only [ref11_Name_L0,lt_f h,cond_false]
theorem Name_eq {s:Str} (hs:s.length≤MX):ref11_Name s=some (nameB s):=by
 unfold ref11_Name nameB
 rw [xname_loop s hs,some_bind,toS_elim]
 cases chk (fun _ (b:UInt8)=>if byteOk (b.toNat:Int) then none else some false) s 0 with
 | some y=>rfl
 | none=>
  simp only [pv_bind]
  congr 1
  congr 1
  simp;omega
  simp;omega
section
variable {l:List Mapping} (hl:l.length≤2000) (hto:∀m∈l,m.To.length≤2000) (htg:∀m∈l,m.Tag.length≤MX)
include hl hto htg
theorem refUns:∃e,ref11_unsorted l=some e∧(e=0→(∀m∈l,codesOk m)∧(∀m∈l,m.To.length≤64)∧∀m∈l,tagOk m)∧(e≠0→¬MV l):=by
 unfold ref11_unsorted
 have h0:=loop_ver0 (body:=fun (x:Int)=>ref11_unsorted_L0 l x) l.length (fun k=>codesOk (nth l k)) (fun y=>y≠0) (fun k hk=>by
  obtain ⟨b,hb,hp⟩:=refCodes (hto _ (nth_mem hk))
  simp only [ref11_unsorted_L0,lt_t hk,cond_true,idx_nth hk,some_bind,hb,wi_succ (k:=k) (by omega)]
  exact ver_if (by rw [←hp];simp) (by decide)) (fun k hk=>by simp only [ref11_unsorted_L0,lt_f hk,cond_false])
 rw [all_nth (p:=codesOk)] at h0
 rcases h0 with ⟨h0,p0⟩ | ⟨y,hy,h0,p0⟩
 case inr=>rw [h0];exact ⟨y,rfl,fun h=>absurd h hy,fun _ h=>p0 h.co⟩
 rw [h0]
 simp only [some_bind,Sum.elim_inl]
 have h1:=loop_ver0 (body:=fun (x:Int)=>ref11_unsorted_L1 l x) l.length (fun k=>(nth l k).To.length≤64) (fun y=>y≠0) (fun k hk=>by
  simp only [ref11_unsorted_L1,lt_t hk,cond_true,idx_nth hk,some_bind,wi_succ (k:=k) (by omega)]
  exact ver_if (by simp only [decide_eq_true_eq];omega) (by decide)) (fun k hk=>by simp only [ref11_unsorted_L1,lt_f hk,cond_false])
 rw [all_nth (p:=fun (m:Mapping)=>m.To.length≤64)] at h1
 rcases h1 with ⟨h1,p1⟩ | ⟨y,hy,h1,p1⟩
 case inr=>rw [h1];exact ⟨y,rfl,fun h=>absurd h hy,fun _ h=>p1 h.sz⟩
 rw [h1]
 simp only [some_bind,Sum.elim_inl]
 have h2:=loop_ver0 (body:=fun (x:Int)=>ref11_unsorted_L2 l x) l.length (fun k=>tagOk (nth l k)) (fun y=>y≠0) (fun k hk=>by
  simp only [ref11_unsorted_L2,lt_t hk,cond_true,idx_nth hk,some_bind,pv_bind,wi_succ (k:=k) (by omega),tagOk,bstr]
  by_cases ht:(nth l k).Tag= []
  ·
   simp only [ht,decide_true,Bool.not_true,gM_f,some_bind,Bool.false_and,cond_false]
   exact .inl ⟨.inl trivial,trivial⟩
  ·
   simp only [ht,decide_false,Bool.not_false,gM_t,some_bind,Name_eq (htg _ (nth_mem hk)),Bool.true_and,false_or]
   exact ver_if (by simp) (by decide)) (fun k hk=>by simp only [ref11_unsorted_L2,lt_f hk,cond_false])
 rw [all_nth (p:=tagOk)] at h2
 rcases h2 with ⟨h2,p2⟩ | ⟨y,hy,h2,p2⟩
 case inr=>rw [h2];exact ⟨y,rfl,fun h=>absurd h hy,fun _ h=>p2 h.tg⟩
 rw [h2]
 simp only [some_bind,Sum.elim_inl]
 obtain ⟨b,hb,hp,_⟩:=refTwice hl
 rw [hb,some_bind]
 cases b with
 | true=>exact ⟨5,rfl,fun h=>absurd h (by decide),fun _ h=>hp rfl h.lt⟩
 | false=>exact ⟨0,rfl,fun _=>⟨p0,p1,p2⟩,fun h=>absurd rfl h⟩
theorem refMap:Ver (ref11_Check l) (MV l):=by
 obtain ⟨e,he,h0,h1⟩:=refUns hl hto htg
 unfold ref11_Check
 rw [he,some_bind]
 by_cases hz:e=0
 case neg=>
  have:(!decide (e=0))=true:=by simp [hz]
  rw [this,cond_true]
  exact ⟨e,rfl,by simp only [hz,false_iff];exact h1 hz⟩
 obtain ⟨p0,p1,p2⟩:=h0 hz
 rw [hz]
 simp only [decide_true,Bool.not_true,cond_false]
 have h3:=loop_ver1 (body:=fun (x:Int)=>ref11_Check_L0 l x) l.length (fun k=>mlt (nth l k) (nth l (k+1))) (fun y=>y≠0) (fun k hk=>by
  have hk':k < l.length:=by omega
  simp only [ref11_Check_L0,lt_t hk,cond_true,idx_nth hk,some_bind,wi_succ (k:=k+1) (by omega),wi_pred (k:=k) (by omega),idx_nth hk',ref11_before,pv_bind,bl_lt]
  exact ver_if (by unfold mlt;simp only [Bool.not_eq_true',Bool.or_eq_false_iff,Bool.and_eq_false_iff,decide_eq_false_iff_not,not_or,Classical.not_and_iff_not_or_not]) (by decide)) (fun k hk=>by simp only [ref11_Check_L0,lt_f hk,cond_false])
 rcases h3 with ⟨h3,p3⟩ | ⟨y,hy,h3,p3⟩
 · rw [h3];exact ⟨0,rfl,by simp only [true_iff];exact ⟨p0,p1,p2,p3⟩⟩
 · rw [h3];exact ⟨y,rfl,by simp only [hy,false_iff];exact fun h=>p3 h.lt⟩
end
structure SmL (l:List Mapping):Prop where
 n:l.length≤20
 to:∀m∈l,m.To.length≤65
 tag:∀m∈l,m.Tag.length≤40
structure SmC (c:Case):Prop where
 lo:SmL c.Lower
 up:SmL c.Upper
 ti:SmL c.Title
 fo:SmL c.Fold
 ca:c.Cased.Ranges.length≤12
 ig:c.Ignorable.Ranges.length≤12
theorem small11 (l:List Mapping):∃b,ref11_Small l=some b∧(b=true→SmL l):=by
 unfold ref11_Small
 have h:=loop_ver0 (body:=fun (x:Int)=>ref11_Small_L0 l x) (min l.length 30) (fun k=>(nth l k).To.length≤65∧(nth l k).Tag.length≤40) (fun y=>y=false) (fun k hk=>by
  have hk1:k < l.length:=by omega
  have hk2:decide ((k:Int) < 30)=true:=by simp;omega
  simp only [ref11_Small_L0,lt_t hk1,pv_bind,hk2,Bool.and_self,cond_true,idx_nth hk1,some_bind,wi_succ (k:=k) (by omega)]
  by_cases h1:65 < ((nth l k).To.length:Int)
  rw [decide_eq_true h1];simp only [Bool.not_true,gM_f,some_bind,Bool.true_or,cond_true]
  exact .inr ⟨fun h=>by omega,false,rfl,rfl⟩
  rw [decide_eq_false h1];simp only [Bool.not_false,gM_t,some_bind,Bool.false_or]
  by_cases h2:40 < ((nth l k).Tag.length:Int)
  rw [decide_eq_true h2];simp only [cond_true]
  exact .inr ⟨fun h=>by omega,false,rfl,rfl⟩
  rw [decide_eq_false h2];simp only [cond_false]
  exact .inl ⟨⟨by omega,by omega⟩,trivial⟩) (fun k hk=>by
  simp only [ref11_Small_L0,pv_bind]
  have:(decide ((k:Int) < (l.length:Int))&&decide ((k:Int) < 30))=false:=by
   rw [Bool.and_eq_false_iff];simp only [decide_eq_false_iff_not];omega
  rw [this,cond_false])
 rcases h with ⟨h,p⟩ | ⟨y,rfl,h,p⟩
 rw [h]
 refine ⟨_,rfl,fun hb=>?_⟩
 have hn:l.length≤20:=by simp at hb;omega
 have hall:=(all_nth (l:=l) (p:=fun m=>m.To.length≤65∧m.Tag.length≤40)).1 fun k hk=>p k (by omega)
 exact ⟨hn,fun m hm=>(hall m hm).1,fun m hm=>(hall m hm).2⟩
 rw [h];exact ⟨false,rfl,fun h=>by cases h⟩
theorem small38 (c:Case):∃b,ref38_Small c=some b∧(b=true→SmC c):=by
 unfold ref38_Small
 obtain ⟨b1,h1,p1⟩:=small11 c.Lower
 obtain ⟨b2,h2,p2⟩:=small11 c.Upper
 obtain ⟨b3,h3,p3⟩:=small11 c.Title
 obtain ⟨b4,h4,p4⟩:=small11 c.Fold
 rw [h1,some_bind,pv_bind]
 cases b1 with
 | false=>exact ⟨false,by simp [gM,pv],fun h=>by cases h⟩
 | true=>
 rw [gM_t,h2,some_bind,pv_bind]
 cases b2 with
 | false=>exact ⟨false,by simp [gM,pv],fun h=>by cases h⟩
 | true=>
 simp only [Bool.and_self]
 rw [gM_t,h3,some_bind,pv_bind]
 cases b3 with
 | false=>exact ⟨false,by simp [gM,pv],fun h=>by cases h⟩
 | true=>
 simp only [Bool.and_self]
 rw [gM_t,h4,some_bind,pv_bind,pv_bind]
 refine ⟨_,rfl,fun h=>?_⟩
 simp only [Bool.and_eq_true,decide_eq_true_eq] at h
 exact ⟨p1 rfl,p2 rfl,p3 rfl,p4 h.1.1.2,by omega,by omega⟩
theorem few38 (c:Case) (a b:List Int):∃f,law38_few c a b=some f∧(f=true→SmC c∧a.length≤30∧b.length≤30):=by
 unfold law38_few
 obtain ⟨s,hs,p⟩:=small38 c
 rw [hs,some_bind,pv_bind,pv_bind]
 refine ⟨_,rfl,fun h=>?_⟩
 simp only [Bool.and_eq_true,decide_eq_true_eq] at h
 exact ⟨p h.1.1,by omega,by omega⟩
def fin5:Str:=[102,105,110,97,108]
structure CVa (c:Case):Prop where
 lo:MV c.Lower
 up:MV c.Upper
 ti:MV c.Title
 fo:MV c.Fold
 tl:∀m∈c.Lower,m.Tag= []∨m.Tag=fin5
 tu:∀m∈c.Upper,m.Tag= []
 tt:∀m∈c.Title,m.Tag= []
 tf:∀m∈c.Fold,m.Tag= []
 ca:Can c.Cased.Ranges
 ig:Can c.Ignorable.Ranges
section
variable {c:Case} (hs:SmC c)
include hs
theorem four {k:Nat} (hk:k < 4):SmL (nth [c.Lower,c.Upper,c.Title,c.Fold] k):=by
 match k,hk with
 | 0,_=>exact hs.lo
 | 1,_=>exact hs.up
 | 2,_=>exact hs.ti
 | 3,_=>exact hs.fo
omit hs in
theorem SmL.ver {l:List Mapping} (h:SmL l):Ver (mapping_Check l) (MV l):=mapVer (by have:=h.n;omega) (fun m hm=>by have:=h.to m hm;omega) (fun m hm=>by have:=h.tag m hm;unfold MX;omega)
omit hs in
theorem SmL.verR {l:List Mapping} (h:SmL l):Ver (ref11_Check l) (MV l):=refMap (by have:=h.n;omega) (fun m hm=>by have:=h.to m hm;omega) (fun m hm=>by have:=h.tag m hm;unfold MX;omega)
omit hs in
theorem all4 {p:List Mapping→Prop}:(∀k,k < 4→p (nth [c.Lower,c.Upper,c.Title,c.Fold] k))↔p c.Lower∧p c.Upper∧p c.Title∧p c.Fold:=by
 constructor
 intro h;exact ⟨h 0 (by decide),h 1 (by decide),h 2 (by decide),h 3 (by decide)⟩
 rintro ⟨h0,h1,h2,h3⟩ k hk
 match k,hk with
 | 0,_=>exact h0
 | 1,_=>exact h1
 | 2,_=>exact h2
 | 3,_=>exact h3
def tagP (i:Nat) (m:Mapping):Prop:=m.Tag= []∨(i=0∧m.Tag=fin5)
theorem caseCheck:Ver (casemap_Check c) (CVa c):=by
 unfold casemap_Check
 have h0:=loop_ver0 (body:=fun (x:Int)=>casemap_Check_L0 c x) 4 (fun k=>MV (nth [c.Lower,c.Upper,c.Title,c.Fold] k)) (fun y=>y≠0) (fun k hk=>by
  obtain ⟨e,he,hp⟩:=(four hs hk).ver
  have h4:decide ((k:Int) < 4)=true:=by simp;omega
  simp only [casemap_Check_L0,h4,cond_true,idx_nth (l:=[c.Lower,c.Upper,c.Title,c.Fold]) (k:=k) hk,some_bind,he,wi_succ (k:=k) (by omega)]
  by_cases hz:e=0
  exact .inl ⟨hp.1 hz,by simp [hz]⟩
  exact .inr ⟨fun h=>hz (hp.2 h),e,hz,by simp [hz]⟩) (fun k hk=>by
  have h4:decide ((k:Int) < 4)=false:=by simp;omega
  simp only [casemap_Check_L0,h4,cond_false])
 rw [all4 (p:=MV)] at h0
 refine toVer h0 (fun p0=>?_) (fun h=>⟨h.lo,h.up,h.ti,h.fo⟩)
 have h1:=loop_ver0 (body:=fun (x:Int)=>casemap_Check_L1 c x) 4 (fun k=> ∀m∈nth [c.Lower,c.Upper,c.Title,c.Fold] k,tagP k m) (fun y=>y≠0) (fun k hk=>by
  have hsm:=four hs hk
  have h4:decide ((k:Int) < 4)=true:=by simp;omega
  simp only [casemap_Check_L1,h4,cond_true,idx_nth (l:=[c.Lower,c.Upper,c.Title,c.Fold]) (k:=k) hk,some_bind,wi_succ (k:=k) (by omega)]
  generalize nth [c.Lower,c.Upper,c.Title,c.Fold] k=l at hsm ⊢
  have h2:=loop_ver0 (body:=fun (x:Int)=>casemap_Check_L2 l (k:Int) x) l.length (fun j=>tagP k (nth l j)) (fun y=>y≠0) (fun j hj=>by
   have:=hsm.n
   simp only [casemap_Check_L2,lt_t hj,cond_true,idx_nth hj,some_bind,pv_bind,wi_succ (k:=j) (by omega),bstr]
   refine ver_if ?_ (by decide)
   unfold tagP fin5
   by_cases t0:(nth l j).Tag= []
   simp [t0]
   by_cases k0:k=0
   simp [t0,k0]
   have:¬((k:Int)=0):=by omega
   simp [t0,k0]) (fun j hj=>by simp only [casemap_Check_L2,lt_f hj,cond_false])
  rw [all_nth (p:=tagP k)] at h2
  rcases h2 with ⟨h2,p⟩ | ⟨y,hy,h2,p⟩
  rw [h2];exact .inl ⟨p,rfl⟩
  rw [h2];exact .inr ⟨p,y,hy,rfl⟩) (fun k hk=>by
  have h4:decide ((k:Int) < 4)=false:=by simp;omega
  simp only [casemap_Check_L1,h4,cond_false])
 have hT:(∀k,k < 4→∀m∈nth [c.Lower,c.Upper,c.Title,c.Fold] k,tagP k m)↔(∀m∈c.Lower,m.Tag= []∨m.Tag=fin5)∧(∀m∈c.Upper,m.Tag= [])∧(∀m∈c.Title,m.Tag= [])∧∀m∈c.Fold,m.Tag= []:=by
  constructor
  intro h
  exact ⟨fun m hm=>(h 0 (by decide) m hm).imp id And.right,fun m hm=>(h 1 (by decide) m hm).elim id (fun q=>absurd q.1 (by decide)),fun m hm=>(h 2 (by decide) m hm).elim id (fun q=>absurd q.1 (by decide)),fun m hm=>(h 3 (by decide) m hm).elim id (fun q=>absurd q.1 (by decide))⟩
  rintro ⟨a,b,d,e⟩ k hk
  match k,hk with
  | 0,_=>exact fun m hm=>(a m hm).imp id fun q=>⟨rfl,q⟩
  | 1,_=>exact fun m hm=> .inl (b m hm)
  | 2,_=>exact fun m hm=> .inl (d m hm)
  | 3,_=>exact fun m hm=> .inl (e m hm)
 rw [hT] at h1
 refine toVer h1 (fun p1=>?_) (fun h=>⟨h.tl,h.tu,h.tt,h.tf⟩)
 obtain ⟨b1,e1,q1⟩:=validVer hs.ca
 obtain ⟨b2,e2,q2⟩:=validVer hs.ig
 rw [e1,some_bind,pv_bind]
 cases b1 with
 | false=>exact ⟨11,by simp [gM],by simp only [show ¬((11:Int)=0) by decide,false_iff];exact fun h=>by have:=q1.2 h.ca;cases this⟩
 | true=>
 simp only [Bool.not_true,Bool.not_false]
 rw [gM_t,e2,some_bind]
 cases b2 with
 | false=>exact ⟨11,rfl,by simp only [show ¬((11:Int)=0) by decide,false_iff];exact fun h=>by have:=q2.2 h.ig;cases this⟩
 | true=>exact ⟨0,rfl,by simp only [true_iff];exact ⟨p0.1,p0.2.1,p0.2.2.1,p0.2.2.2,p1.1,p1.2.1,p1.2.2.1,p1.2.2.2,q1.1 rfl,q2.1 rfl⟩⟩
omit hs in
theorem taggedR {l:List Mapping} (hl:l.length≤20) (t:Str):∃b,ref37_tagged l t=some b∧(b=false↔∀m∈l,m.Tag= []∨m.Tag=t):=by
 unfold ref37_tagged
 have h2:=loop_ver0 (body:=fun (x:Int)=>ref37_tagged_L0 l t x) l.length (fun j=>(nth l j).Tag= []∨(nth l j).Tag=t) (fun y=>y=true) (fun j hj=>by
  simp only [ref37_tagged_L0,lt_t hj,cond_true,idx_nth hj,some_bind,pv_bind,wi_succ (k:=j) (by omega),bstr]
  by_cases t0:(nth l j).Tag= []
  simp only [t0,decide_true,Bool.not_true,gM_f,some_bind,Bool.false_and,cond_false]
  exact .inl ⟨.inl trivial,trivial⟩
  simp only [t0,decide_false,Bool.not_false,gM_t,some_bind,Bool.true_and,false_or]
  exact ver_if (by simp) rfl) (fun j hj=>by simp only [ref37_tagged_L0,lt_f hj,cond_false])
 rw [all_nth (p:=fun (m:Mapping)=>m.Tag= []∨m.Tag=t)] at h2
 rcases h2 with ⟨h2,p⟩ | ⟨y,rfl,h2,p⟩
 rw [h2];exact ⟨false,rfl,by simp only [true_iff];exact p⟩
 rw [h2];exact ⟨true,rfl,by simp only [Bool.true_eq_false,false_iff];exact p⟩
theorem caseCheckR:Ver (ref37_Check c) (CVa c):=by
 unfold ref37_Check
 have h0:=loop_ver0 (body:=fun (x:Int)=>ref37_Check_L0 c x) 4 (fun k=>MV (nth [c.Lower,c.Upper,c.Title,c.Fold] k)) (fun y=>y≠0) (fun k hk=>by
  obtain ⟨e,he,hp⟩:=(four hs hk).verR
  have h4:decide ((k:Int) < ([c.Lower,c.Upper,c.Title,c.Fold].length:Int))=true:=by simp;omega
  simp only [ref37_Check_L0,h4,cond_true,idx_nth (l:=[c.Lower,c.Upper,c.Title,c.Fold]) (k:=k) hk,some_bind,he,wi_succ (k:=k) (by omega)]
  by_cases hz:e=0
  exact .inl ⟨hp.1 hz,by simp [hz]⟩
  exact .inr ⟨fun h=>hz (hp.2 h),e,hz,by simp [hz]⟩) (fun k hk=>by
  have h4:decide ((k:Int) < ([c.Lower,c.Upper,c.Title,c.Fold].length:Int))=false:=by simp;omega
  simp only [ref37_Check_L0,h4,cond_false])
 rw [all4 (p:=MV)] at h0
 refine toVer h0 (fun p0=>?_) (fun h=>⟨h.lo,h.up,h.ti,h.fo⟩)
 obtain ⟨b1,e1,q1⟩:=taggedR hs.lo.n [102,105,110,97,108]
 obtain ⟨b2,e2,q2⟩:=taggedR hs.up.n []
 obtain ⟨b3,e3,q3⟩:=taggedR hs.ti.n []
 obtain ⟨b4,e4,q4⟩:=taggedR hs.fo.n []
 simp only [or_self] at q2 q3 q4
 rw [e1,some_bind,pv_bind]
 have six:∀{P:Prop},¬P→Ver (some 6) P:=fun h=>⟨6,rfl,by simp only [show ¬((6:Int)=0) by decide,false_iff];exact h⟩
 cases b1 with
 | true=>simp only [Bool.not_true,gM_f,some_bind,pv_bind,Bool.true_or,cond_true];exact six fun h=>by have:=q1.2 h.tl;cases this
 | false=>
 simp only [Bool.not_false,gM_t,Bool.false_or]
 rw [e2,some_bind,pv_bind]
 cases b2 with
 | true=>simp only [Bool.not_true,gM_f,some_bind,pv_bind,Bool.true_or,cond_true];exact six fun h=>by have:=q2.2 h.tu;cases this
 | false=>
 simp only [Bool.not_false,gM_t,Bool.false_or]
 rw [e3,some_bind,pv_bind]
 cases b3 with
 | true=>simp only [Bool.not_true,gM_f,some_bind,pv_bind,Bool.true_or,cond_true];exact six fun h=>by have:=q3.2 h.tt;cases this
 | false=>
 simp only [Bool.not_false,gM_t,Bool.false_or]
 rw [e4,some_bind]
 cases b4 with
 | true=>simp only [cond_true];exact six fun h=>by have:=q4.2 h.tf;cases this
 | false=>
 simp only [cond_false]
 obtain ⟨b5,e5,q5⟩:=refSet hs.ca
 obtain ⟨b6,e6,q6⟩:=refSet hs.ig
 rw [e5,some_bind,pv_bind]
 cases b5 with
 | false=>exact ⟨11,by simp [gM],by simp only [show ¬((11:Int)=0) by decide,false_iff];exact fun h=>by have:=q5.2 h.ca;cases this⟩
 | true=>
 simp only [Bool.not_true,Bool.not_false]
 rw [gM_t,e6,some_bind]
 cases b6 with
 | false=>exact ⟨11,rfl,by simp only [show ¬((11:Int)=0) by decide,false_iff];exact fun h=>by have:=q6.2 h.ig;cases this⟩
 | true=>exact ⟨0,rfl,by simp only [true_iff];exact ⟨p0.1,p0.2.1,p0.2.2.1,p0.2.2.2,q1.1 rfl,q2.1 rfl,q3.1 rfl,q4.1 rfl,q5.1 rfl,q6.1 rfl⟩⟩
end
end Go.M
namespace Go.M
open Go.AV
open Classical in
noncomputable def fL (c:Case):List Mapping:=if CVa c then c.Fold else []
def foldE (l:List Mapping) (x:Int):List Int:=match l.find? (fun m=>decide (m.From=x)) with
 | some m=>m.To
 | none=>[x]
def pairs (l:List Mapping):List (Int×List Int):=l.map fun m=>(m.From,m.To)
structure Fd (l:List Mapping):Prop where
 n:l.length≤20
 to:∀m∈l,m.To.length≤65
 tg:∀m∈l,m.Tag= []
 lt:l.Pairwise fun a b=>a.From < b.From
 vF:∀m∈l,vld m.From=true
 vT:∀m∈l,∀x∈m.To,vld x=true
 mv:MV l
theorem MV.nil:MV []:=⟨by simp,by simp,by simp,fun k hk=>by simp at hk⟩
theorem fL_ok {c:Case} (hs:SmC c):Fd (fL c):=by
 unfold fL
 split
 rename_i h
 refine ⟨hs.fo.n,hs.fo.to,h.tf,?_,fun m hm=>(h.fo.co m hm).1,fun m hm=>(h.fo.co m hm).2,h.fo⟩
 rw [List.pairwise_iff_getElem]
 intro i j hi hj hij
 have:=mlt_all h.fo.lt (j - i - 1) i (by omega)
 rw [show i+(j - i - 1)+1=j by omega,nth_eq hi,nth_eq hj] at this
 rcases this with h1 | ⟨_,h2⟩
 exact h1
 rw [h.tf _ (List.getElem_mem hi),h.tf _ (List.getElem_mem hj)] at h2
 exact absurd h2 (List.lt_irrefl _)
 exact ⟨by simp,by simp,by simp,List.Pairwise.nil,by simp,by simp,MV.nil⟩
theorem data_eq {c:Case} (hs:SmC c):ref38_Data c=some (fL c):=by
 unfold ref38_Data fL
 obtain ⟨e,he,hp⟩:=caseCheckR hs
 rw [he,some_bind]
 by_cases hz:e=0
 rw [if_pos (hp.1 hz)];simp [hz]
 rw [if_neg (fun h=>hz (hp.2 h))];simp [hz]
theorem mput_end {m:List (Int×List Int)} {k:Int} {v:List Int} (h:∀p∈m,p.1≠k):mput m k v=m++ [(k,v)]:=by
 induction m with
 | nil=>rfl
 | cons p m ih=>
  obtain ⟨q,u⟩:=p
  have:k≠q:=fun e=>h (q,u) (by simp) e.symm
  simp only [mput,this,if_false,List.cons_append]
  rw [ih fun p hp=>h p (by simp [hp])]
theorem foldings_loop {c : Case} (hl : c.Fold.length ≤ 20) (ht : ∀ m ∈ c.Fold, m.Tag = []) (hlt : c.Fold.Pairwise fun a b => a.From < b.From) :
    ∀ (n k : Nat), c.Fold.length - k = n → k ≤ c.Fold.length → loopM (fun (x : Int × (List (Int × (List Int)))) => casefold_foldings_L0 c x.1 x.2) ((k : Int), pairs (c.Fold.take k)) = some (pairs c.Fold) := by
  intro n
  induction n with
  | zero =>
    intro k hk hk2
    rw [loopM_done (y := pairs (c.Fold.take k)) (by simp only [casefold_foldings_L0, lt_f (show c.Fold.length ≤ k by omega), cond_false])]
    rw [List.take_of_length_le (by omega)]
  | succ n ih =>
    intro k hk hk2
    have hlt' : k < c.Fold.length := by omega
    rw [loopM_next (x' := (((k + 1 : Nat) : Int), pairs (c.Fold.take (k + 1)))) ?_]
    · exact ih (k + 1) (by omega) (by omega)
    · simp only [casefold_foldings_L0, lt_t hlt', cond_true, idx_nat hlt', some_bind, bstr, ht _ (List.getElem_mem hlt'), decide_true, cond_true, wi_succ (k := k) (by omega)]
      congr 3
      rw [mput_end]
      · unfold pairs
        rw [List.take_add_one, List.getElem?_eq_getElem hlt', List.map_append]
        rfl
      · intro p hp
        unfold pairs at hp
        obtain ⟨m, hm, rfl⟩ := List.mem_map.1 hp
        obtain ⟨i, hi, rfl⟩ := List.getElem_of_mem hm
        rw [List.length_take] at hi
        have := List.pairwise_iff_getElem.1 hlt i k (by omega) hlt' (by omega)
        rw [List.getElem_take]
        show c.Fold[i].From ≠ c.Fold[k].From
        omega
theorem foldings_eq {c:Case} (hs:SmC c):casefold_foldings c=some (pairs (fL c)):=by
 unfold casefold_foldings
 obtain ⟨e,he,hp⟩:=caseCheck hs
 rw [he,some_bind]
 by_cases hz:e=0
 have hv:=hp.1 hz
 have hf:=fL_ok hs
 have e1:fL c=c.Fold:=by unfold fL;rw [if_pos hv]
 rw [e1] at hf ⊢
 have:=foldings_loop hf.n hf.tg hf.lt c.Fold.length 0 (by omega) (by omega)
 simp only [hz,decide_true,Bool.not_true,cond_false]
 have h0:pairs (c.Fold.take 0)= []:=rfl
 rw [h0] at this
 exact congrArg (fun o=>o.bind fun y1=>some y1) this
 have e1:fL c= []:=by unfold fL;rw [if_neg (fun h=>hz (hp.2 h))]
 rw [e1]
 simp [hz,pairs]
section
variable {l:List Mapping}
theorem mget_pairs (x:Int):mget (pairs l) x=(l.find? fun m=>decide (m.From=x)).map (·.To):=by
 induction l with
 | nil=>rfl
 | cons m l ih=>
  unfold pairs at ih ⊢
  simp only [List.map_cons,mget,List.find?_cons]
  by_cases h:x=m.From
  simp [h]
  have h2:¬m.From=x:=fun e=>h e.symm
  simp only [h,if_false,h2,decide_false]
  exact ih
def isK (l:List Mapping) (x:Int):Bool:=(l.find? fun m=>decide (m.From=x)).isSome
theorem mhas_pairs (x:Int):mhas (pairs l) x=isK l x:=by
 unfold mhas isK
 rw [mget_pairs]
 cases l.find? fun m=>decide (m.From=x) <;> rfl
theorem mgetD_pairs {x:Int} (h:isK l x=true):mgetD (pairs l) x []=foldE l x:=by
 unfold mgetD foldE
 unfold isK at h
 rw [mget_pairs]
 cases hf:l.find? fun m=>decide (m.From=x) with
 | none=>rw [hf] at h;cases h
 | some m=>rfl
theorem foldE_none {x:Int} (h:isK l x=false):foldE l x= [x]:=by
 unfold foldE
 unfold isK at h
 cases hf:l.find? fun m=>decide (m.From=x) with
 | none=>rfl
 | some m=>rw [hf] at h;cases h
variable (hF:Fd l)
include hF
theorem foldE_len (x:Int):(foldE l x).length≤65:=by
 unfold foldE
 split
 rename_i m h;exact hF.to m (List.mem_of_find?_eq_some h)
 simp
theorem find_mem {m:Mapping} (hm:m∈l):l.find? (fun q=>decide (q.From=m.From))=some m:=by
 have hlt:=hF.lt
 clear hF
 induction l with
 | nil=>cases hm
 | cons a l ih=>
  rw [List.pairwise_cons] at hlt
  rw [List.find?_cons]
  rcases List.mem_cons.1 hm with rfl | hm
  simp
  have:=hlt.1 m hm
  have h2:¬a.From=m.From:=by omega
  simp only [h2,decide_false]
  exact ih hm hlt.2
theorem find_tag (x:Int):l.find? (fun m=>decide (m.From=x)&&(m.Tag== []))=l.find? fun m=>decide (m.From=x):=by
 have ht:=hF.tg
 clear hF
 induction l with
 | nil=>rfl
 | cons a l ih=>
  have h0:(a.Tag== [])=true:=by rw [ht a (by simp)];rfl
  rw [List.find?_cons,List.find?_cons,h0,Bool.and_true]
  cases decide (a.From=x) with
  | true=>rfl
  | false=>exact ih fun m hm=>ht m (by simp [hm])
theorem fold_len38 {text:List Int}:(text.flatMap (foldE l)).length≤65*text.length:=by
 induction text with
 | nil=>simp
 | cons x t ih=>
  have:=foldE_len hF x
  rw [List.flatMap_cons,List.length_append,List.length_cons]
  omega
theorem fold_loop {text : List Int} (ht : text.length ≤ 4000) : ∀ (n k : Nat), text.length - k = n → k ≤ text.length →
    loopM (fun (x : Int × (List Int)) => casefold_Fold_L0 text (pairs l) x.1 x.2) ((k : Int), (text.take k).flatMap (foldE l)) = some (text.flatMap (foldE l)) := by
  intro n
  induction n with
  | zero =>
    intro k hk hk2
    rw [loopM_done (y := (text.take k).flatMap (foldE l)) (by simp only [casefold_Fold_L0, lt_f (show text.length ≤ k by omega), cond_false])]
    rw [List.take_of_length_le (by omega)]
  | succ n ih =>
    intro k hk hk2
    have hlt' : k < text.length := by omega
    have h1 := fold_len38 hF (text := text.take k)
    rw [List.length_take] at h1
    have h2 := foldE_len hF text[k]
    rw [loopM_next (x' := (((k + 1 : Nat) : Int), (text.take (k + 1)).flatMap (foldE l))) ?_]
    · exact ih (k + 1) (by omega) (by omega)
    · have hnx : (text.take (k + 1)).flatMap (foldE l) = (text.take k).flatMap (foldE l) ++ foldE l text[k] := by
        rw [List.take_add_one, List.getElem?_eq_getElem hlt', List.flatMap_append]; simp
      simp only [casefold_Fold_L0, lt_t hlt', cond_true, idx_nat hlt', some_bind, mhas_pairs, wi_succ (k := k) (by omega), hnx]
      cases hk : isK l text[k] with
      | true => rw [cond_true, mgetD_pairs hk, app_ok (by omega)]; rfl
      | false => rw [cond_false, app_ok (by rw [List.length_singleton]; omega), foldE_none hk]; rfl
end
theorem fold_eq {c:Case} (hs:SmC c) {text:List Int} (ht:text.length≤4000):casefold_Fold c text=some (text.flatMap (foldE (fL c))):=by
 unfold casefold_Fold
 rw [foldings_eq hs,some_bind]
 have:=fold_loop (fL_ok hs) ht text.length 0 (by omega) (by omega)
 exact congrArg (fun o=>o.bind fun y1=>some y1) this
theorem rfind_eq {l:List Mapping} (hF:Fd l) (x:Int):ref11_find l x []=some (match l.find? (fun m=>decide (m.From=x)) with | some m=>(m.To,true) | none=>([],false)):=by
 unfold ref11_find
 have h:=loop_chk0 l (body:=fun (y:Int)=>ref11_find_L0 l x [] y) (fun _ m=>if decide (m.From=x)&&(m.Tag== []) then some (true,m.To) else none) (fun k hk=>by
  have:=hF.n
  have h2:=hF.to _ (List.getElem_mem hk)
  simp only [ref11_find_L0,lt_t hk,cond_true,idx_nat hk,some_bind,pv_bind,wi_succ (k:=k) (by omega)]
  cases h0:decide (l[k].From=x) with
  | false=>simp [gM_f,stp]
  | true=>
   simp only [gM_t,some_bind,Bool.true_and]
   cases h1:(l[k].Tag== []) with
   | false=>simp [stp]
   | true=>rw [cond_true,app_ok (by simp;omega)];simp [stp]) (fun k hk=>by simp only [ref11_find_L0,lt_f hk,cond_false])
 rw [h,some_bind]
 have key:∀(l:List Mapping) (k:Nat),chk (fun _ (m:Mapping)=>if decide (m.From=x)&&(m.Tag== []) then some (true,m.To) else none) l k=(l.find? fun m=>decide (m.From=x)&&(m.Tag== [])).map fun m=>(true,m.To):=by
  intro l
  induction l with
  | nil=>intro _;rfl
  | cons m l ih=>
   intro k
   rw [chk,List.find?_cons]
   cases decide (m.From=x)&&(m.Tag== []) with
   | true=>rfl
   | false=>exact ih (k+1)
 rw [key,find_tag hF]
 cases l.find? fun m=>decide (m.From=x) with
 | none=>rfl
 | some m=>rfl
theorem valid11 {l:List Mapping} (hF:Fd l):ref11_valid l=some l:=by
 unfold ref11_valid
 obtain ⟨e,he,hp⟩:=refMap (l:=l) (by have:=hF.n;omega) (fun m hm=>by have:=hF.to m hm;omega) (fun m hm=>by rw [hF.tg m hm];simp)
 rw [he,some_bind,hp.2 hF.mv]
 rfl
theorem apply_loop {l : List Mapping} (hF : Fd l) {text : List Int} (ht : text.length ≤ 4000) : ∀ (n k : Nat), text.length - k = n → k ≤ text.length →
    loopM (fun (x : Int × (List Int)) => ref11_Apply_L0 text l [] x.1 x.2) ((k : Int), (text.take k).flatMap (foldE l)) = some (text.flatMap (foldE l)) := by
  intro n
  induction n with
  | zero =>
    intro k hk hk2
    rw [loopM_done (y := (text.take k).flatMap (foldE l)) (by simp only [ref11_Apply_L0, lt_f (show text.length ≤ k by omega), cond_false])]
    rw [List.take_of_length_le (by omega)]
  | succ n ih =>
    intro k hk hk2
    have hlt' : k < text.length := by omega
    have h1 := fold_len38 hF (text := text.take k)
    rw [List.length_take] at h1
    have h2 := foldE_len hF text[k]
    rw [loopM_next (x' := (((k + 1 : Nat) : Int), (text.take (k + 1)).flatMap (foldE l))) ?_]
    · exact ih (k + 1) (by omega) (by omega)
    · have hnx : (text.take (k + 1)).flatMap (foldE l) = (text.take k).flatMap (foldE l) ++ foldE l text[k] := by
        rw [List.take_add_one, List.getElem?_eq_getElem hlt', List.flatMap_append]; simp
      simp only [ref11_Apply_L0, lt_t hlt', cond_true, idx_nat hlt', some_bind, rfind_eq hF, wi_succ (k := k) (by omega), hnx]
      unfold foldE at h2 ⊢
      cases hk : l.find? fun m => decide (m.From = text[k]) with
      | some m => rw [hk] at h2; simp only [cond_true] at h2 ⊢; rw [app_ok (by unfold foldE at h1; omega)]; rfl
      | none => simp only [cond_false]; rw [app_ok (by unfold foldE at h1; rw [List.length_singleton]; omega)]; rfl
theorem refFold_eq {c:Case} (hs:SmC c) {text:List Int} (ht:text.length≤4000):ref38_Fold c text=some (text.flatMap (foldE (fL c))):=by
 unfold ref38_Fold ref11_Apply
 rw [data_eq hs,some_bind,valid11 (fL_ok hs),some_bind]
 have:=apply_loop (fL_ok hs) ht text.length 0 (by omega) (by omega)
 have h2:(loopM (fun (x:Int×(List Int))=>ref11_Apply_L0 text (fL c) [] x.1 x.2) (0,[]))=some (text.flatMap (foldE (fL c))):=this
 rw [h2]
 rfl
end Go.M
namespace Go.M
open Go.AV
theorem sliceEq {a b:List Int} (ha:a.length≤1000000):slices_Equal_int_int a b=some (decide (a=b)):=by
 unfold slices_Equal_int_int
 by_cases hl:a.length=b.length
 have h0:(!decide ((a.length:Int)=(b.length:Int)))=false:=by simp [hl]
 rw [h0,cond_false]
 have h:=loop_ver0 (body:=fun (x:Int)=>slices_Equal_int_int_L0 a b x) a.length (fun j=>nth a j=nth b j) (fun y=>y=false) (fun j hj=>by
  have hj':j < b.length:=by omega
  simp only [slices_Equal_int_int_L0,lt_t hj,cond_true,idx_nth hj,idx_nth hj',some_bind,wi_succ (k:=j) (by omega)]
  exact ver_if (by simp) rfl) (fun j hj=>by simp only [slices_Equal_int_int_L0,lt_f hj,cond_false])
 have hiff:(∀j,j < a.length→nth a j=nth b j)↔a=b:=by
  constructor
  intro h
  apply List.ext_getElem hl
  intro i h1 h2
  have:=h i h1
  rwa [nth_eq h1,nth_eq h2] at this
  intro h j _;rw [h]
 rw [hiff] at h
 rcases h with ⟨h,p⟩ | ⟨y,rfl,h,p⟩
 rw [h];simp [p]
 rw [h];simp [p]
 have h0:(!decide ((a.length:Int)=(b.length:Int)))=true:=by simp;omega
 rw [h0,cond_true]
 have:a≠b:=fun e=>hl (by rw [e])
 simp [this]
theorem lt_unique:∀{a b:List Int},a.Pairwise (· < ·)→b.Pairwise (· < ·)→(∀x,x∈a↔x∈b)→a=b
 | [],[],_,_,_=>rfl
 | [],y::b,_,_,h=>absurd ((h y).2 (by simp)) (by simp)
 | x::a,[],_,_,h=>absurd ((h x).1 (by simp)) (by simp)
 | x::a,y::b,ha,hb,h=>by
  rw [List.pairwise_cons] at ha hb
  have hxy:x=y:=by
   have h1:=(h x).1 (by simp)
   have h2:=(h y).2 (by simp)
   rcases List.mem_cons.1 h1 with e | h1
   exact e
   rcases List.mem_cons.1 h2 with e | h2
   exact e.symm
   have:=hb.1 x h1;have:=ha.1 y h2;omega
  subst hxy
  congr 1
  refine lt_unique ha.2 hb.2 fun z=>?_
  constructor
  intro hz
  have:=(h z).1 (by simp [hz])
  rcases List.mem_cons.1 this with e | h1
  have:=ha.1 z hz;omega
  exact h1
  intro hz
  have:=(h z).2 (by simp [hz])
  rcases List.mem_cons.1 this with e | h1
  have:=hb.1 z hz;omega
  exact h1
theorem sort_lt {a:List Int} (hn:a.Nodup):(a.mergeSort fun x y=>decide (x≤y)).Pairwise (· < ·):=by
 have h1:=List.pairwise_mergeSort (le:=fun x y:Int=>decide (x≤y)) (fun a b c h1 h2=>by simp at h1 h2 ⊢;omega) (fun a b=>by simp;omega) a
 have h2:(a.mergeSort fun x y=>decide (x≤y)).Nodup:=(List.mergeSort_perm a _).nodup_iff.2 hn
 have h3:=List.Pairwise.and h1 h2
 exact h3.imp fun ⟨h,hne⟩=>by simp at h;omega
section
variable {l:List Mapping}
def colE (l:List Mapping) (t:List Int):List Int:=((pairs l).filter fun p=>decide (p.2=t)).map (·.1)
def tailE (l:List Mapping) (t:List Int):List Int:=match t with
 | [y]=>if isK l y then [] else [y]
 | _=>[]
def orbE (l:List Mapping) (t:List Int):List Int:=(colE l t++tailE l t).mergeSort fun x y=>decide (x≤y)
theorem tailE_mem {t:List Int} {x:Int}:x∈tailE l t↔t= [x]∧isK l x=false:=by
 unfold tailE
 split
 rename_i y
 split
 rename_i h
 constructor
 intro h;cases h
 rintro ⟨h1,h2⟩
 have:y=x:=by simpa using h1
 rw [this] at h;rw [h] at h2;cases h2
 rename_i h
 simp only [List.mem_singleton]
 constructor
 rintro rfl;exact ⟨rfl,by simpa using h⟩
 rintro ⟨h1,_⟩;simp at h1;exact h1.symm
 rename_i h
 constructor
 intro h;cases h
 rintro ⟨h1,_⟩;exact absurd h1 (h x)
theorem isK_iff {x:Int}:isK l x=true↔∃m∈l,m.From=x:=by
 unfold isK
 rw [List.find?_isSome]
 simp
variable (hF:Fd l)
include hF
theorem foldE_key {m:Mapping} (hm:m∈l):foldE l m.From=m.To:=by
 unfold foldE
 rw [find_mem hF hm]
theorem colE_mem {t:List Int} {x:Int}:x∈colE l t↔isK l x=true∧foldE l x=t:=by
 unfold colE pairs
 simp only [List.mem_map,List.mem_filter,decide_eq_true_eq]
 constructor
 rintro ⟨p,⟨⟨m,hm,rfl⟩,h2⟩,rfl⟩
 exact ⟨isK_iff.2 ⟨m,hm,rfl⟩,(foldE_key hF hm).trans h2⟩
 rintro ⟨h1,h2⟩
 obtain ⟨m,hm,rfl⟩:=isK_iff.1 h1
 exact ⟨(m.From,m.To),⟨⟨m,hm,rfl⟩,(foldE_key hF hm).symm.trans h2⟩,rfl⟩
theorem colE_nodup (t:List Int):(colE l t).Nodup:=by
 have hlt:=hF.lt
 unfold colE
 have h1:((pairs l).map (·.1)).Nodup:=by
  unfold pairs
  rw [List.map_map]
  refine List.pairwise_map.2 (hlt.imp fun h=>?_)
  show _≠_
  simp only [Function.comp_apply]
  omega
 exact h1.sublist (List.filter_sublist.map _)
theorem coltail_nodup (t:List Int):(colE l t++tailE l t).Nodup:=by
 rw [List.nodup_append]
 refine ⟨colE_nodup hF t,?_,fun a ha b hb e=>?_⟩
 unfold tailE
 split
 split <;> simp
 simp
 subst e
 have h1:=(colE_mem hF).1 ha
 have h2:=tailE_mem.1 hb
 rw [h1.1] at h2
 cases h2.2
theorem orbE_lt (t:List Int):(orbE l t).Pairwise (· < ·):=sort_lt (coltail_nodup hF t)
theorem orbE_mem {t:List Int} {x:Int}:x∈orbE l t↔foldE l x=t:=by
 unfold orbE
 rw [(List.mergeSort_perm _ _).mem_iff,List.mem_append,colE_mem hF,tailE_mem]
 constructor
 rintro (⟨_,h⟩ | ⟨h1,h2⟩)
 exact h
 rw [foldE_none h2,h1]
 intro h
 cases hk:isK l x with
 | true=>exact .inl ⟨rfl,h⟩
 | false=>rw [foldE_none hk] at h;exact .inr ⟨h.symm,rfl⟩
theorem foldE_vld {x y:Int} (hx:vld x=true) (h:foldE l y=foldE l x):vld y=true:=by
 have vE:∀z,vld z=true→∀u∈foldE l z,vld u=true:=by
  intro z hz u hu
  unfold foldE at hu
  split at hu
  rename_i m hm;exact hF.vT m (List.mem_of_find?_eq_some hm) u hu
  simp at hu;subst hu;exact hz
 cases hk:isK l y with
 | true=>obtain ⟨m,hm,rfl⟩:=isK_iff.1 hk;exact hF.vF m hm
 | false=>
  rw [foldE_none hk] at h
  exact vE x hx y (by rw [←h];simp)
theorem orbE_len (t:List Int):(orbE l t).length≤21:=by
 unfold orbE
 rw [(List.mergeSort_perm _ _).length_eq,List.length_append]
 have h1:(colE l t).length≤20:=by
  unfold colE
  rw [List.length_map]
  have:=List.length_filter_le (fun p:Int×List Int=>decide (p.2=t)) (pairs l)
  have h2:(pairs l).length=l.length:=by unfold pairs;simp
  have:=hF.n
  omega
 have h2:(tailE l t).length≤1:=by
  unfold tailE
  split
  split <;> simp
  simp
 omega
omit hF in
theorem orb_run {t : List Int} : ∀ (p : List (Int × List Int)) (o : List Int), (∀ u ∈ p, u.2.length ≤ 65) → o.length + p.length ≤ 1000 →
    mrun (fun (u : Int × (List Int)) (x : (List Int)) => casefold_Orbit_L0S t u.1 u.2 x) (fun (x : (List Int)) => casefold_Orbit_L0N x) p o = some (o ++ (p.filter fun u => decide (u.2 = t)).map (·.1))
  | [], o, _, _ => by simp [mrun, casefold_Orbit_L0N]
  | u :: p, o, h1, h2 => by
    have hu := h1 u (by simp)
    rw [List.length_cons] at h2
    simp only [mrun, casefold_Orbit_L0S, sliceEq (show u.2.length ≤ 1000000 by omega), some_bind, List.filter_cons]
    by_cases he : u.2 = t
    · simp only [he, decide_true, cond_true, if_true]
      rw [app_ok (by simp; omega)]
      simp only [some_bind]
      have := orb_run (t := t) p (o ++ [u.1]) (fun v hv => h1 v (by simp [hv])) (by simp; omega)
      rw [List.append_assoc] at this
      exact this
    · simp only [he, decide_false, cond_false, Bool.false_eq_true, if_false, some_bind]
      exact orb_run (t := t) p o (fun v hv => h1 v (by simp [hv])) (by omega)
end
theorem orbit_eq {c : Case} (hs : SmC c) {x : Int} (hx : vld x = true) : casefold_Orbit c x = some (orbE (fL c) (foldE (fL c) x)) := by
  have hF := fL_ok hs
  have hx' : (decide (x < 0) || decide (1114111 < x)) = false := by
    unfold vld at hx
    simp only [Bool.and_eq_true, decide_eq_true_eq] at hx
    simp; omega
  unfold casefold_Orbit
  rw [pv_bind, hx', cond_false, foldings_eq hs, some_bind, mhas_pairs]
  have hy : (cond (!(isK (fL c) x)) (some [x]) (some (mgetD (pairs (fL c)) x []))) = some (foldE (fL c) x) := by
    cases hk : isK (fL c) x with
    | true => rw [mgetD_pairs hk]; rfl
    | false => rw [foldE_none hk]; rfl
  rw [hy, some_bind]
  generalize fL c = l at hF ⊢
  have ht := foldE_len hF x
  generalize foldE l x = t at ht ⊢
  refine anyOrd_eq fun p hp => ?_
  have hpl : p.length ≤ 20 := by
    have := hp.length_eq
    have h2 : (pairs l).length = l.length := by unfold pairs; simp
    have := hF.n
    omega
  rw [orb_run p [] (fun u hu => by
    have := hp.mem_iff.1 hu
    unfold pairs at this
    obtain ⟨m, hm, rfl⟩ := List.mem_map.1 this
    exact hF.to m hm) (by simp; omega), some_bind, List.nil_append]
  have hperm : ((p.filter fun u => decide (u.2 = t)).map (·.1)).Perm (colE l t) := (hp.filter _).map _
  generalize (p.filter fun u => decide (u.2 = t)).map (·.1) = o at hperm
  have hol : o.length ≤ 20 := by
    have h1 := hperm.length_eq
    have h2 : (colE l t).length ≤ 20 := by
      unfold colE
      rw [List.length_map]
      have := List.length_filter_le (fun p : Int × List Int => decide (p.2 = t)) (pairs l)
      have h2 : (pairs l).length = l.length := by unfold pairs; simp
      have := hF.n
      omega
    omega
  have hz : (cond (decide ((t.length : Int) = 1)) ((idx t (0 : Int)).bind fun t51 =>
      cond (!(mhas (pairs l) t51)) ((idx t (0 : Int)).bind fun t60 =>
      (app o [t60]).bind fun r1008_6 =>
      some r1008_6) (some o)) (some o)) = some (o ++ tailE l t) := by
    match t with
    | [] => simp [tailE]
    | [y] =>
      simp only [List.length_singleton, idx_zero, some_bind, mhas_pairs, tailE]
      cases isK l y with
      | true => simp
      | false => rw [app_ok (by simp; omega)]; simp
    | y :: z :: t =>
      have : decide (((y :: z :: t).length : Int) = 1) = false := by simp; omega
      rw [this]
      simp [tailE]
  rw [hz, some_bind]
  have htl : (tailE l t).length ≤ 1 := by
    unfold tailE
    split
    · split <;> simp
    · simp
  have hsort : sortI (o ++ tailE l t) = some (orbE l t) := by
    unfold sortI
    rw [if_pos (by unfold LIM; simp; omega)]
    congr 1
    have hp2 : (o ++ tailE l t).Perm (colE l t ++ tailE l t) := hperm.append_right _
    refine lt_unique (sort_lt (hp2.nodup_iff.2 (coltail_nodup hF t))) (orbE_lt hF t) fun z => ?_
    unfold orbE
    rw [(List.mergeSort_perm _ _).mem_iff, (List.mergeSort_perm _ _).mem_iff, hp2.mem_iff]
  rw [hsort]
  rfl
theorem orbit_bad {c:Case} {x:Int} (hx:vld x=false):casefold_Orbit c x=some []:=by
 have hx':(decide (x < 0) ||decide (1114111 < x))=true:=by
  unfold vld at hx
  rw [Bool.and_eq_false_iff] at hx
  simp only [decide_eq_false_iff_not] at hx
  simp only [Bool.or_eq_true,decide_eq_true_eq]
  omega
 unfold casefold_Orbit
 rw [pv_bind,hx']
 rfl
end Go.M
namespace Go.M
open Go.AV
theorem orbL2 {o : List Int} {x : Int} (ho : o.length ≤ 2000) : ∀ (n k : Nat), o.length - k = n → k ≤ o.length → (∀ i (h : i < o.length), i < k → o[i] < x) →
    ∃ j : Nat, loopM (fun (y : Int) => ref38_Orbit_L2 o x y) (k : Int) = some (j : Int) ∧ j ≤ o.length ∧ (∀ i (h : i < o.length), i < j → o[i] < x) ∧ ∀ h : j < o.length, ¬ o[j] < x := by
  intro n
  induction n with
  | zero =>
    intro k hk hk2 hi
    refine ⟨k, loopM_done ?_, hk2, hi, fun h => by omega⟩
    simp only [ref38_Orbit_L2, lt_f (show o.length ≤ k by omega), pv_bind, gM_f, some_bind, Bool.false_and, cond_false]
  | succ n ih =>
    intro k hk hk2 hi
    have hlt : k < o.length := by omega
    by_cases hx : o[k] < x
    · rw [loopM_next (x' := ((k + 1 : Nat) : Int)) (by simp only [ref38_Orbit_L2, lt_t hlt, pv_bind, gM_t, idx_nat hlt, some_bind, Bool.true_and, decide_eq_true hx, cond_true, wi_succ (k := k) (by omega)])]
      refine ih (k + 1) (by omega) (by omega) fun i h hik => ?_
      by_cases e : i = k
      · subst e; exact hx
      · exact hi i h (by omega)
    · refine ⟨k, loopM_done ?_, hk2, hi, fun _ => hx⟩
      simp only [ref38_Orbit_L2, lt_t hlt, pv_bind, gM_t, idx_nat hlt, some_bind, Bool.true_and, decide_eq_false hx, cond_false]
theorem ins_lt {o : List Int} {x : Int} {j : Nat} (ho : o.Pairwise (· < ·)) (hj : j ≤ o.length) (h1 : ∀ i (h : i < o.length), i < j → o[i] < x) (h2 : ∀ h : j < o.length, ¬ o[j] < x) (h3 : ∀ h : j < o.length, o[j] ≠ x) :
    (o.take j ++ [x] ++ o.drop j).Pairwise (· < ·) ∧ ∀ z, z ∈ o.take j ++ [x] ++ o.drop j ↔ z = x ∨ z ∈ o := by
  have hd : ∀ z ∈ o.drop j, x < z := by
    intro z hz
    obtain ⟨i, hi, rfl⟩ := List.getElem_of_mem hz
    rw [List.length_drop] at hi
    rw [List.getElem_drop]
    have hjl : j < o.length := by omega
    have a := h2 hjl
    have b := h3 hjl
    by_cases e : i = 0
    · subst e; simp only [Nat.add_zero]; omega
    · have := List.pairwise_iff_getElem.1 ho j (j + i) hjl (by omega) (by omega)
      omega
  have ht : ∀ z ∈ o.take j, z < x := by
    intro z hz
    obtain ⟨i, hi, rfl⟩ := List.getElem_of_mem hz
    rw [List.length_take] at hi
    rw [List.getElem_take]
    exact h1 i (by omega) (by omega)
  refine ⟨?_, fun z => ?_⟩
  · rw [List.append_assoc, List.pairwise_append]
    refine ⟨ho.sublist (List.take_sublist ..), ?_, fun a ha b hb => ?_⟩
    · rw [List.singleton_append, List.pairwise_cons]
      exact ⟨hd, ho.sublist (List.drop_sublist ..)⟩
    · rcases List.mem_append.1 hb with hb | hb
      · simp at hb; subst hb; exact ht a ha
      · have := ht a ha; have := hd b hb; omega
  · have : z ∈ o ↔ z ∈ o.take j ∨ z ∈ o.drop j := by
      conv => lhs; rw [← List.take_append_drop j o]
      exact List.mem_append
    rw [this]
    simp only [List.mem_append, List.mem_singleton]
    constructor
    · rintro ((h | h) | h)
      · exact .inr (.inl h)
      · exact .inl h
      · exact .inr (.inr h)
    · rintro (h | h | h)
      · exact .inl (.inr h)
      · exact .inl (.inl h)
      · exact .inr h
theorem orbL1 {c : Case} (hs : SmC c) {cs t : List Int} (hcs : cs.length ≤ 200) : ∀ (n k : Nat) (o : List Int), cs.length - k = n → k ≤ cs.length → o.length ≤ k → o.Pairwise (· < ·) →
    (∀ z, z ∈ o ↔ z ∈ cs.take k ∧ vld z = true ∧ foldE (fL c) z = t) →
    ∃ o', loopM (fun (x : (List Int) × Int) => ref38_Orbit_L1 cs c t x.1 x.2) (o, (k : Int)) = some o' ∧ o'.Pairwise (· < ·) ∧ ∀ z, z ∈ o' ↔ z ∈ cs ∧ vld z = true ∧ foldE (fL c) z = t := by
  intro n
  induction n with
  | zero =>
    intro k o hk hk2 hol ho hm
    refine ⟨o, loopM_done (by simp only [ref38_Orbit_L1, lt_f (show cs.length ≤ k by omega), cond_false]), ho, fun z => ?_⟩
    rw [hm z, List.take_of_length_le (by omega)]
  | succ n ih =>
    intro k o hk hk2 hol ho hm
    have hlt : k < cs.length := by omega
    have htk : ∀ z, z ∈ cs.take (k + 1) ↔ z ∈ cs.take k ∨ z = cs[k] := fun z => by
      rw [List.take_add_one, List.getElem?_eq_getElem hlt, Option.toList_some, List.mem_append, List.mem_singleton]
    have skip : ∀ (b : Bool), (∀ z, z ∈ o ↔ z ∈ cs.take (k + 1) ∧ vld z = true ∧ foldE (fL c) z = t) → ref38_Orbit_L1 cs c t o (k : Int) = some (.next (o, ((k + 1 : Nat) : Int))) →
        ∃ o', loopM (fun (x : (List Int) × Int) => ref38_Orbit_L1 cs c t x.1 x.2) (o, (k : Int)) = some o' ∧ o'.Pairwise (· < ·) ∧ ∀ z, z ∈ o' ↔ z ∈ cs ∧ vld z = true ∧ foldE (fL c) z = t := by
      intro _ h1 h2
      rw [loopM_next (x' := (o, ((k + 1 : Nat) : Int))) h2]
      exact ih (k + 1) o (by omega) (by omega) (by omega) ho h1
    by_cases hv : vld cs[k] = true
    case neg =>
      refine skip true (fun z => ?_) ?_
      · rw [hm z, htk]
        constructor
        · rintro ⟨a, b⟩; exact ⟨.inl a, b⟩
        · rintro ⟨a | a, b, d⟩
          · exact ⟨a, b, d⟩
          · subst a; exact absurd b hv
      · have : vld cs[k] = false := by simpa using hv
        simp only [ref38_Orbit_L1, lt_t hlt, cond_true, idx_nat hlt, some_bind, refvalid_eq, this, pv_bind, Bool.not_false, Bool.not_true, gM_f, Bool.true_or, wi_succ (k := k) (by omega)]
    have hfl := foldE_len (fL_ok hs) cs[k]
    have hfo : ref38_Fold c [cs[k]] = some (foldE (fL c) cs[k]) := by rw [refFold_eq hs (by simp)]; simp
    have heq : ref01_Equal (foldE (fL c) cs[k]) t = some (decide (foldE (fL c) cs[k] = t)) := equal_eq (by omega)
    by_cases he : foldE (fL c) cs[k] = t
    case neg =>
      refine skip true (fun z => ?_) ?_
      · rw [hm z, htk]
        constructor
        · rintro ⟨a, b⟩; exact ⟨.inl a, b⟩
        · rintro ⟨a | a, b, d⟩
          · exact ⟨a, b, d⟩
          · subst a; exact absurd d he
      · simp only [ref38_Orbit_L1, lt_t hlt, cond_true, idx_nat hlt, some_bind, refvalid_eq, hv, pv_bind, Bool.not_false, Bool.not_true, gM_t, hfo, heq, decide_eq_false he, Bool.false_or, cond_true, wi_succ (k := k) (by omega)]
    obtain ⟨j, hj, j1, j2, j3⟩ := orbL2 (o := o) (x := cs[k]) (by omega) o.length 0 (by omega) (by omega) (fun i _ h => by omega)
    have hj' : loopM (fun (y : Int) => ref38_Orbit_L2 o cs[k] y) 0 = some (j : Int) := hj
    by_cases hin : ∃ h : j < o.length, o[j] = cs[k]
    · obtain ⟨h, e⟩ := hin
      have hmem : cs[k] ∈ o := e ▸ List.getElem_mem h
      refine skip true (fun z => ?_) ?_
      · rw [hm z, htk]
        constructor
        · rintro ⟨a, b⟩; exact ⟨.inl a, b⟩
        · rintro ⟨a | a, b, d⟩
          · exact ⟨a, b, d⟩
          · subst a; exact (hm _).1 hmem
      · simp only [ref38_Orbit_L1, lt_t hlt, cond_true, idx_nat hlt, some_bind, refvalid_eq, hv, pv_bind, Bool.not_false, Bool.not_true, gM_t, hfo, heq, decide_eq_true he, Bool.false_or, cond_false, hj', lt_t h, idx_nat h, decide_eq_true e, Bool.and_self, cond_true, wi_succ (k := k) (by omega)]
    · have hne : ∀ h : j < o.length, o[j] ≠ cs[k] := fun h e => hin ⟨h, e⟩
      obtain ⟨p1, p2⟩ := ins_lt ho j1 j2 j3 hne
      have hstep : ref38_Orbit_L1 cs c t o (k : Int) = some (.next (o.take j ++ [cs[k]] ++ o.drop j, ((k + 1 : Nat) : Int))) := by
        have hc : (decide ((j : Int) < (o.length : Int)) && (decide (((gM (decide ((j : Int) < (o.length : Int))) (idx o (j : Int))).getD default) = cs[k]))) = false := by
          by_cases h : j < o.length
          · rw [lt_t h, gM_t, idx_nat h]; simp [hne h]
          · rw [lt_f (by omega)]; rfl
        have hg : ∃ u, gM (decide ((j : Int) < (o.length : Int))) (idx o (j : Int)) = some u := by
          by_cases h : j < o.length
          · rw [lt_t h, gM_t, idx_nat h]; exact ⟨_, rfl⟩
          · rw [lt_f (by omega)]; exact ⟨_, rfl⟩
        obtain ⟨u, hu⟩ := hg
        rw [hu] at hc
        simp only [Option.getD_some] at hc
        simp only [ref38_Orbit_L1, lt_t hlt, cond_true, idx_nat hlt, some_bind, refvalid_eq, hv, pv_bind, Bool.not_false, Bool.not_true, gM_t, hfo, heq, decide_eq_true he, Bool.false_or, cond_false, hj', hu, hc, slc_take j1, slc_drop j1, wi_succ (k := k) (by omega)]
        rw [app_ok (by simp; omega)]
        simp only [some_bind, List.nil_append]
        rw [app_ok (by simp; omega)]
        simp only [some_bind]
        rw [app_ok (by simp; omega)]
        rfl
      rw [loopM_next (x' := (o.take j ++ [cs[k]] ++ o.drop j, ((k + 1 : Nat) : Int))) hstep]
      refine ih (k + 1) _ (by omega) (by omega) (by simp; omega) p1 fun z => ?_
      rw [p2 z, hm z, htk]
      constructor
      · rintro (a | ⟨a, b⟩)
        · subst a; exact ⟨.inr rfl, hv, he⟩
        · exact ⟨.inl a, b⟩
      · rintro ⟨a | a, b⟩
        · exact .inr ⟨a, b⟩
        · exact .inl a
theorem orbL0 {l : List Mapping} (hl : l.length ≤ 20) : ∀ (n k : Nat), l.length - k = n → k ≤ l.length →
    loopM (fun (x : Int × (List Int)) => ref38_Orbit_L0 l x.1 x.2) ((k : Int), (l.take k).map (·.From)) = some (l.map (·.From)) := by
  intro n
  induction n with
  | zero =>
    intro k hk hk2
    rw [loopM_done (y := (l.take k).map (·.From)) (by simp only [ref38_Orbit_L0, lt_f (show l.length ≤ k by omega), cond_false])]
    rw [List.take_of_length_le (by omega)]
  | succ n ih =>
    intro k hk hk2
    have hlt : k < l.length := by omega
    rw [loopM_next (x' := (((k + 1 : Nat) : Int), (l.take (k + 1)).map (·.From))) ?_]
    · exact ih (k + 1) (by omega) (by omega)
    · simp only [ref38_Orbit_L0, lt_t hlt, cond_true, idx_nat hlt, some_bind, wi_succ (k := k) (by omega)]
      rw [app_ok (by simp; omega), some_bind, List.take_add_one, List.getElem?_eq_getElem hlt, Option.toList_some, List.map_append]
      rfl
theorem refOrbit_eq {c:Case} (hs:SmC c) {x:Int} (hx:vld x=true):ref38_Orbit c x=some (orbE (fL c) (foldE (fL c) x)):=by
 have hF:=fL_ok hs
 unfold ref38_Orbit
 rw [refvalid_eq,some_bind,hx]
 simp only [Bool.not_true,cond_false]
 have hfo:ref38_Fold c [x]=some (foldE (fL c) x):=by rw [refFold_eq hs (by simp)];simp
 have h0:loopM (fun (y:Int×(List Int))=>ref38_Orbit_L0 (fL c) y.1 y.2) (0,[])=some ((fL c).map (·.From)):=orbL0 hF.n (fL c).length 0 (by omega) (by omega)
 have hfl:=foldE_len hF x
 have hn:=hF.n
 rw [data_eq hs,some_bind,hfo,some_bind,h0,some_bind,app_ok (by simp;omega),some_bind,app_ok (by simp;omega),some_bind]
 obtain ⟨o,h1,h2,h3⟩:=orbL1 hs (cs:=(fL c).map (·.From)++foldE (fL c) x++ [x]) (t:=foldE (fL c) x) (by simp;omega) _ 0 [] rfl (by omega) (by simp) List.Pairwise.nil (by simp)
 have h1':loopM (fun (y:(List Int)×Int)=>ref38_Orbit_L1 ((fL c).map (·.From)++foldE (fL c) x++ [x]) c (foldE (fL c) x) y.1 y.2) ([],0)=some o:=h1
 rw [h1',some_bind]
 congr 1
 refine lt_unique h2 (orbE_lt hF _) fun z=>?_
 rw [h3 z,orbE_mem hF]
 constructor
 rintro ⟨_,_,h⟩;exact h
 intro h
 refine ⟨?_,foldE_vld hF hx h,h⟩
 cases hk:isK (fL c) z with
 | true=>
  obtain ⟨m,hm,rfl⟩:=isK_iff.1 hk
  simp only [List.mem_append,List.mem_map]
  exact .inl (.inl ⟨m,hm,rfl⟩)
 | false=>
  rw [foldE_none hk] at h
  simp only [List.mem_append]
  exact .inl (.inr (h▸by simp))
theorem refOrbit_bad {c:Case} {x:Int} (hx:vld x=false):ref38_Orbit c x=some []:=by
 unfold ref38_Orbit
 rw [refvalid_eq,some_bind,hx]
 rfl
def cloE (l:List Mapping):Bool:=l.all fun m=>m.To.all fun x=>!isK l x
theorem clo_inner {l:List Mapping} {v:List Int} (hv:v.length≤65):loopM (fun (x:Int)=>casefold_Closed_L1 v (pairs l) x) 0=some (if v.all (fun x=>!isK l x) then .inl () else .inr false):=by
 have h:=loop_ver0 (body:=fun (x:Int)=>casefold_Closed_L1 v (pairs l) x) v.length (fun j=>isK l (nth v j)=false) (fun y=>y=false) (fun j hj=>by
  simp only [casefold_Closed_L1,lt_t hj,cond_true,idx_nth hj,some_bind,mhas_pairs,wi_succ (k:=j) (by omega)]
  exact ver_if (by simp) rfl) (fun j hj=>by simp only [casefold_Closed_L1,lt_f hj,cond_false])
 rw [all_nth (p:=fun x=>isK l x=false)] at h
 have hb:v.all (fun x=>!isK l x)=true↔∀x∈v,isK l x=false:=by simp
 rcases h with ⟨h,p⟩ | ⟨y,rfl,h,p⟩
 rw [h,if_pos (hb.2 p)]
 rw [h,if_neg (fun q=>p (hb.1 q))]
theorem clo_run {l : List Mapping} : ∀ (p : List (Int × List Int)), (∀ u ∈ p, u.2.length ≤ 65) →
    mrun (fun (u : Int × (List Int)) (_ : Unit) => casefold_Closed_L0S (pairs l) u.1 u.2) (fun (_ : Unit) => casefold_Closed_L0N) p () = some (if p.all (fun u => u.2.all fun x => !isK l x) then .inl () else .inr false)
  | [], _ => by simp [mrun, casefold_Closed_L0N]
  | u :: p, h => by
    have h0 : casefold_Closed_L0S (pairs l) u.1 u.2 = some (if u.2.all (fun x => !isK l x) then .next () else .done (.inr false)) := by
      unfold casefold_Closed_L0S
      rw [clo_inner (l := l) (h u (by simp)), some_bind]
      by_cases hb : u.2.all (fun x => !isK l x) = true
      · rw [if_pos hb, if_pos hb]; rfl
      · rw [if_neg hb, if_neg hb]; rfl
    rw [mrun, h0, some_bind, List.all_cons]
    by_cases hb : u.2.all (fun x => !isK l x) = true
    · rw [if_pos hb, hb, Bool.true_and]
      exact clo_run p fun v hv => h v (by simp [hv])
    · rw [if_neg hb]
      have : u.2.all (fun x => !isK l x) = false := by simpa using hb
      rw [this, Bool.false_and]
      rfl
theorem closed_eq {c:Case} (hs:SmC c):casefold_Closed c=some (cloE (fL c)):=by
 have hF:=fL_ok hs
 unfold casefold_Closed
 rw [foldings_eq hs,some_bind]
 generalize fL c=l at hF ⊢
 refine anyOrd_eq fun p hp=>?_
 rw [clo_run p (fun u hu=>by
  have:=hp.mem_iff.1 hu
  unfold pairs at this
  obtain ⟨m,hm,rfl⟩:=List.mem_map.1 this
  exact hF.to m hm),some_bind,hp.all_eq]
 have:(pairs l).all (fun u=>u.2.all fun x=>!isK l x)=cloE l:=by unfold pairs cloE;rw [List.all_map];rfl
 rw [this]
 cases cloE l <;> rfl
theorem refClosed_eq {c:Case} (hs:SmC c):ref38_Closed c=some (cloE (fL c)):=by
 have hF:=fL_ok hs
 unfold ref38_Closed
 rw [data_eq hs,some_bind]
 generalize fL c=l at hF ⊢
 have hget:∀x,ref11_Get l x []=some (match l.find? (fun m=>decide (m.From=x)) with | some m=>(m.To,true) | none=>([],false)):=fun x=>by
  unfold ref11_Get
  rw [valid11 hF,some_bind,rfind_eq hF];rfl
 have hn:=hF.n
 have h:=loop_ver0 (body:=fun (x:Int)=>ref38_Closed_L0 l x) l.length (fun j=> ∀x∈(nth l j).To,isK l x=false) (fun y=>y=false) (fun j hj=>by
  have hto:=hF.to _ (nth_mem hj)
  simp only [ref38_Closed_L0,lt_t hj,cond_true,wi_succ (k:=j) (by omega)]
  have h2:=loop_ver0 (body:=fun (x:Int)=>ref38_Closed_L1 l (j:Int) x) (nth l j).To.length (fun i=>isK l (nth (nth l j).To i)=false) (fun y=>y=false) (fun i hi=>by
   simp only [ref38_Closed_L1,idx_nth hj,some_bind,pv_bind,bstr,hF.tg _ (nth_mem hj),decide_true,gM_t,Bool.true_and,lt_t hi,cond_true,idx_nth hi,hget,wi_succ (k:=i) (by omega)]
   refine ver_if ?_ rfl
   unfold isK
   cases l.find? (fun m=>decide (m.From=nth (nth l j).To i)) <;> simp) (fun i hi=>by
   simp only [ref38_Closed_L1,idx_nth hj,some_bind,pv_bind,bstr,hF.tg _ (nth_mem hj),decide_true,gM_t,Bool.true_and,lt_f hi,cond_false])
  rw [all_nth (p:=fun x=>isK l x=false)] at h2
  rcases h2 with ⟨h2,p⟩ | ⟨y,hy,h2,p⟩
  rw [h2];exact .inl ⟨p,rfl⟩
  rw [h2];exact .inr ⟨p,y,hy,rfl⟩) (fun j hj=>by simp only [ref38_Closed_L0,lt_f hj,cond_false])
 rw [all_nth (p:=fun (m:Mapping)=> ∀x∈m.To,isK l x=false)] at h
 have hb:cloE l=true↔∀m∈l,∀x∈m.To,isK l x=false:=by unfold cloE;simp
 rcases h with ⟨h,p⟩ | ⟨y,rfl,h,p⟩
 rw [h,hb.2 p];rfl
 have:cloE l=false:=by rw [Bool.eq_false_iff];exact fun q=>p (hb.1 q)
 rw [h,this];rfl
theorem closed_fold {l:List Mapping} (h:cloE l=true) (text:List Int):(text.flatMap (foldE l)).flatMap (foldE l)=text.flatMap (foldE l):=by
 have hb:∀m∈l,∀x∈m.To,isK l x=false:=by unfold cloE at h;simpa using h
 have key:∀x,(foldE l x).flatMap (foldE l)=foldE l x:=by
  intro x
  have hfix:∀v:List Int,(∀y∈v,isK l y=false)→v.flatMap (foldE l)=v:=by
   intro v
   induction v with
   | nil=>intro _;rfl
   | cons y v ih=>
    intro hv
    rw [List.flatMap_cons,foldE_none (hv y (by simp)),ih fun z hz=>hv z (by simp [hz])]
    rfl
  cases hk:isK l x with
  | false=>rw [foldE_none hk];exact hfix [x] fun y hy=>by simp at hy;subst hy;exact hk
  | true=>
   unfold isK at hk
   unfold foldE
   cases hf:l.find? (fun m=>decide (m.From=x)) with
   | none=>rw [hf] at hk;cases hk
   | some m=>exact hfix m.To (hb m (List.mem_of_find?_eq_some hf))
 induction text with
 | nil=>rfl
 | cons x t ih=>rw [List.flatMap_cons,List.flatMap_append,key,ih]
end Go.M
namespace Go.M
open Go.AV
abbrev c38:Case:={Lower:=[],Upper:=[],Title:=[],Fold:=[{From:=75,To:=[107],Tag:=[]},{From:=223,To:=[115,115],Tag:=[]},{From:=8490,To:=[107],Tag:=[]}],Cased:={Ranges:=[]},Ignorable:={Ranges:=[]}}
theorem sm38:SmC c38:=⟨⟨by simp,by simp,by simp⟩,⟨by simp,by simp,by simp⟩,⟨by simp,by simp,by simp⟩,⟨by simp,by simp,by simp⟩,by simp,by simp⟩
theorem cv38:CVa c38:=by
 refine ⟨MV.nil,MV.nil,MV.nil,⟨?_,by simp,?_,?_⟩,by simp,by simp,by simp,by simp,trivial,trivial⟩
 intro m hm
 simp only [List.mem_cons,List.not_mem_nil,or_false] at hm
 rcases hm with rfl | rfl | rfl <;> exact ⟨by decide,by decide⟩
 intro m hm
 simp only [List.mem_cons,List.not_mem_nil,or_false] at hm
 rcases hm with rfl | rfl | rfl <;> exact .inl rfl
 intro k hk
 have:k=0∨k=1:=by simp at hk;omega
 rcases this with rfl | rfl
 exact .inl (by decide)
 exact .inl (by decide)
theorem fL38:fL c38=c38.Fold:=if_pos cv38
theorem orb38:orbE c38.Fold [107]= [75,107,8490]:=by
 have hF:Fd c38.Fold:=fL38▸fL_ok sm38
 refine lt_unique (orbE_lt hF _) (by decide) fun z=>?_
 rw [orbE_mem hF]
 unfold foldE
 simp only [List.find?_cons,List.find?_nil]
 by_cases h1:(75:Int)=z
 subst h1;decide
 by_cases h2:(223:Int)=z
 subst h2;decide
 by_cases h3:(8490:Int)=z
 subst h3;decide
 simp only [h1,h2,h3,decide_false,List.cons.injEq,and_true,List.mem_cons,List.not_mem_nil,or_false]
 omega
theorem clone_eq {a:List Int} (h:a.length≤2000):slices_Clone_int_int a=some a:=app0 h
theorem form0 {n:Norm} {c:Case} (hs:SmC c) {a:List Int} (h:a.length≤4000):casefold_Form n c a 0=some (a.flatMap (foldE (fL c))):=by
 unfold casefold_Form
 simp only [show decide ((0:Int)=2)=false by decide,show decide ((0:Int)=1)=false by decide,decide_true,cond_false,cond_true,some_bind,Sum.elim_inr,Sum.elim_inl,fold_eq hs h]
theorem form3 {n:Norm} {c:Case} {a:List Int} (h:a.length≤2000):casefold_Form n c a 3=some a:=by
 unfold casefold_Form
 simp only [show decide ((3:Int)=2)=false by decide,show decide ((3:Int)=1)=false by decide,show decide ((3:Int)=0)=false by decide,cond_false,some_bind,Sum.elim_inl,clone_eq h]
theorem match0 {n:Norm} {c:Case} (hs:SmC c) {x y:Int}:casefold_Match n c [x] [y] 0=some (decide (foldE (fL c) x=foldE (fL c) y)):=by
 unfold casefold_Match
 have h1:=foldE_len (fL_ok hs) x
 rw [form0 hs (by simp),some_bind,form0 hs (by simp),some_bind]
 have e:∀z:Int,[z].flatMap (foldE (fL c))=foldE (fL c) z:=fun z=>by simp
 rw [e,e,sliceEq (by omega)]
 rfl
theorem match3 {n:Norm} {c:Case} {x y:Int}:casefold_Match n c [x] [y] 3=some (decide ([x]= [y])):=by
 unfold casefold_Match
 rw [form3 (by simp),some_bind,form3 (by simp),some_bind,sliceEq (by simp)]
 rfl
theorem awake38:law38_awake=some true:=by
 have e1:casefold_Orbit c38 75=some [75,107,8490]:=by
  rw [orbit_eq sm38 (by decide),fL38]
  have:foldE c38.Fold 75= [107]:=by decide
  rw [this,orb38]
 have e2:ref01_Equal [75,107,8490] [75,107,8490]=some true:=by rw [equal_eq (by simp)];simp
 have e3:casefold_Fold c38 [8490,223,65]=some [107,115,115,65]:=by
  rw [fold_eq sm38 (by simp),fL38];decide
 have e4:ref01_Equal [107,115,115,65] [107,115,115,65]=some true:=by rw [equal_eq (by simp)];simp
 have e5:casefold_Closed c38=some true:=by rw [closed_eq sm38,fL38];decide
 have e6:casefold_Match {Classes:=[],Decomp:=[],Excluded:={Ranges:=[]}} c38 [75] [8490] 0=some true:=by
  rw [match0 sm38,fL38];decide
 have e7:casefold_Match {Classes:=[],Decomp:=[],Excluded:={Ranges:=[]}} c38 [75] [8490] 3=some false:=by
  rw [match3];decide
 unfold c38 at e1 e3 e5 e6 e7
 unfold law38_awake
 rw [e1,some_bind,e2,some_bind,pv_bind,gM_t,e3,some_bind,gM_t,e4,some_bind]
 simp only [Bool.and_self,pv_bind]
 rw [gM_t,e5,some_bind]
 simp only [Bool.and_self,pv_bind]
 rw [gM_t,e6,some_bind]
 simp only [Bool.and_self,pv_bind]
 rw [gM_t,e7,some_bind]
 rfl
theorem law38_CasefoldFolds_true (c:Case) (a b:List Int) {p:Prop} (_:p) {q:Prop} (_:q) {r:Prop} (_:r):law38_CasefoldFolds c a b=some true:=by
 unfold law38_CasefoldFolds
 obtain ⟨f,hf,hp⟩:=few38 c a b
 rw [hf,some_bind,awake38]
 cases f with
 | false=>rfl
 | true=>
 obtain ⟨hs,ha,hb⟩:=hp rfl
 have hF:=fL_ok hs
 have h1:=fold_len38 hF (text:=a)
 have h2:=fold_len38 hF (text:=b)
 simp only [Bool.not_true,cond_false]
 rw [fold_eq hs (by omega),some_bind,fold_eq hs (by omega),some_bind,app0 (by omega),some_bind,app_ok (by omega),some_bind,app0 (by omega),some_bind,app_ok (by omega),some_bind,refFold_eq hs (by omega),some_bind,equal_eq (by omega),some_bind,pv_bind]
 simp only [decide_true]
 rw [gM_t,fold_eq hs (by rw [List.length_append];omega),some_bind,gM_t,List.flatMap_append,equal_eq (by rw [List.length_append];omega),some_bind]
 simp only [decide_true,Bool.and_self,pv_bind]
 rfl
theorem orbits_loop {c : Case} (hs : SmC c) {x : Int} (hx : vld x = true) {o : List Int} (ho : o = orbE (fL c) (foldE (fL c) x)) :
    ∀ (n k : Nat) (b : Bool), o.length - k = n → k ≤ o.length → loopM (fun (y : Bool × Int) => law38_CasefoldOrbits_L0 o c x y.1 y.2) (b, (k : Int)) = some (.inl (b || (o.drop k).any fun z => decide (z = x))) := by
  have hF := fL_ok hs
  have hol : o.length ≤ 21 := ho ▸ orbE_len hF _
  intro n
  induction n with
  | zero =>
    intro k b hk hk2
    rw [loopM_done (y := .inl b) (by simp only [law38_CasefoldOrbits_L0, lt_f (show o.length ≤ k by omega), cond_false])]
    rw [List.drop_of_length_le (by omega)]
    simp
  | succ n ih =>
    intro k b hk hk2
    have hlt : k < o.length := by omega
    have hm : foldE (fL c) o[k] = foldE (fL c) x := by
      have : o[k] ∈ orbE (fL c) (foldE (fL c) x) := ho ▸ List.getElem_mem hlt
      exact (orbE_mem hF).1 this
    have hv : vld o[k] = true := foldE_vld hF hx hm
    have horb : casefold_Orbit c o[k] = some o := by rw [orbit_eq hs hv, hm, ← ho]
    have hq : ref01_Equal o o = some true := by rw [equal_eq (by omega)]; simp
    rw [loopM_next (x' := (b || decide (o[k] = x), ((k + 1 : Nat) : Int))) ?_, ih (k + 1) _ (by omega) (by omega)]
    · rw [List.drop_eq_getElem_cons hlt, List.any_cons, Bool.or_assoc]
    · cases b with
      | true => simp only [law38_CasefoldOrbits_L0, lt_t hlt, cond_true, pv_bind, Bool.not_true, gM_f, some_bind, idx_nat hlt, horb, hq, cond_false, Bool.true_or, wi_succ (k := k) (by omega)]
      | false => simp only [law38_CasefoldOrbits_L0, lt_t hlt, cond_true, pv_bind, Bool.not_false, gM_t, some_bind, idx_nat hlt, horb, hq, Bool.not_true, cond_false, Bool.false_or, wi_succ (k := k) (by omega)]
theorem law38_CasefoldOrbits_true (c:Case) (x:Int) {p:Prop} (_:p) {q:Prop} (_:q):law38_CasefoldOrbits c x=some true:=by
 unfold law38_CasefoldOrbits
 obtain ⟨f,hf,hp⟩:=few38 c [] []
 rw [hf,some_bind,awake38]
 cases f with
 | false=>rfl
 | true=>
 obtain ⟨hs,-,-⟩:=hp rfl
 have hF:=fL_ok hs
 simp only [Bool.not_true,cond_false]
 cases hx:vld x with
 | false=>
  have e:ref01_Equal [] []=some true:=by rw [equal_eq (by simp)];simp
  rw [orbit_bad hx,some_bind,refOrbit_bad hx,some_bind,e,some_bind]
  simp only [Bool.not_true,cond_false]
  rw [refvalid_eq,some_bind,hx]
  rw [loopM_done (y:= .inl true) (by simp only [law38_CasefoldOrbits_L0];rfl)]
  rfl
 | true=>
  have hol:=orbE_len hF (foldE (fL c) x)
  rw [orbit_eq hs hx,some_bind,refOrbit_eq hs hx,some_bind,equal_eq (by omega),some_bind]
  simp only [decide_true,Bool.not_true,cond_false]
  rw [refvalid_eq,some_bind,hx]
  have hl:loopM (fun (y:Bool×Int)=>law38_CasefoldOrbits_L0 (orbE (fL c) (foldE (fL c) x)) c x y.1 y.2) (!true,0)=_:=orbits_loop hs hx rfl _ 0 false rfl (by omega)
  rw [hl,some_bind]
  have hany:((orbE (fL c) (foldE (fL c) x)).drop 0).any (fun z=>decide (z=x))=true:=by
   rw [List.drop_zero,List.any_eq_true]
   exact ⟨x,(orbE_mem hF).2 rfl,by simp⟩
  rw [hany]
  rfl
theorem law38_CasefoldClosed_true (c:Case) (a:List Int) {p:Prop} (_:p) {q:Prop} (_:q):law38_CasefoldClosed c a=some true:=by
 unfold law38_CasefoldClosed
 obtain ⟨f,hf,hp⟩:=few38 c a []
 rw [hf,some_bind,awake38]
 cases f with
 | false=>rfl
 | true=>
 obtain ⟨hs,ha,-⟩:=hp rfl
 have hF:=fL_ok hs
 have h1:=fold_len38 hF (text:=a)
 simp only [Bool.not_true,cond_false]
 rw [closed_eq hs,some_bind,fold_eq hs (by omega),some_bind,refClosed_eq hs,some_bind,pv_bind,pv_bind]
 cases hc:cloE (fL c) with
 | false=>rfl
 | true=>
  simp only [beq_self_eq_true,Bool.not_true,Bool.not_false,Bool.and_self]
  rw [gM_t,fold_eq hs (by omega),some_bind,gM_t,closed_fold hc,equal_eq (by omega),some_bind]
  simp only [decide_true,Bool.or_true,Bool.and_self,pv_bind]
  rfl
theorem div_L1 {a b : List Int} {s : Bool} (hb : b.length ≤ 2000) {i : Nat} (hi : i < a.length) (h : ∀ y ∈ b, a[i] = y → s = true) :
    loopM (fun (x : Int) => law38_CasefoldDivides_L1 b a (i : Int) s x) 0 = some (.inl ()) := by
  rcases loop_ver0 (body := fun (x : Int) => law38_CasefoldDivides_L1 b a (i : Int) s x) b.length (fun _ => True) (fun _ => True) (fun j hj => by
    refine .inl ⟨trivial, ?_⟩
    simp only [law38_CasefoldDivides_L1, lt_t hj, cond_true, idx_nat hi, idx_nat hj, some_bind, pv_bind, wi_succ (k := j) (by omega)]
    have : (decide (a[i] = b[j]) && !s) = false := by
      by_cases e : a[i] = b[j]
      · rw [h _ (List.getElem_mem hj) e]; simp
      · simp [e]
    rw [this, cond_false]) (fun j hj => by simp only [law38_CasefoldDivides_L1, lt_f hj, cond_false]) with ⟨h1, _⟩ | ⟨_, _, _, h1⟩
  · exact h1
  · exact absurd (fun _ _ => trivial) h1
theorem div_L0 {a b : List Int} {s : Bool} (ha : a.length ≤ 2000) (hb : b.length ≤ 2000) (h : ∀ x ∈ a, ∀ y ∈ b, x = y → s = true) :
    loopM (fun (x : Int) => law38_CasefoldDivides_L0 a b s x) 0 = some (.inl ()) := by
  rcases loop_ver0 (body := fun (x : Int) => law38_CasefoldDivides_L0 a b s x) a.length (fun _ => True) (fun _ => True) (fun j hj => by
    refine .inl ⟨trivial, ?_⟩
    simp only [law38_CasefoldDivides_L0, lt_t hj, cond_true, div_L1 hb hj (h _ (List.getElem_mem hj)), some_bind, Sum.elim_inl, wi_succ (k := j) (by omega)]) (fun j hj => by simp only [law38_CasefoldDivides_L0, lt_f hj, cond_false]) with ⟨h1, _⟩ | ⟨_, _, _, h1⟩
  · exact h1
  · exact absurd (fun _ _ => trivial) h1
theorem law38_CasefoldDivides_true (c:Case) (x y:Int) {p:Prop} (_:p) {q:Prop} (_:q) {r:Prop} (_:r):law38_CasefoldDivides c x y=some true:=by
 unfold law38_CasefoldDivides
 obtain ⟨f,hf,hp⟩:=few38 c [] []
 rw [hf,some_bind,pv_bind,awake38,refvalid_eq,refvalid_eq]
 cases f with
 | false=>rfl
 | true=>
 obtain ⟨hs,-,-⟩:=hp rfl
 have hF:=fL_ok hs
 simp only [Bool.not_true,Bool.not_false,Bool.false_or]
 rw [gM_t,some_bind,pv_bind]
 cases hx:vld x with
 | false=>rfl
 | true=>
 simp only [Bool.not_true,Bool.not_false,Bool.false_or]
 rw [gM_t,some_bind]
 cases hy:vld y with
 | false=>rfl
 | true=>
 simp only [Bool.not_true,cond_false]
 have hx1:=orbE_len hF (foldE (fL c) x)
 have hy1:=orbE_len hF (foldE (fL c) y)
 have hiff:orbE (fL c) (foldE (fL c) x)=orbE (fL c) (foldE (fL c) y)↔foldE (fL c) x=foldE (fL c) y:=by
  constructor
  intro h
  have:x∈orbE (fL c) (foldE (fL c) x):=(orbE_mem hF).2 rfl
  rw [h] at this
  exact (orbE_mem hF).1 this
  intro h;rw [h]
 rw [orbit_eq hs hx,some_bind,orbit_eq hs hy,some_bind,equal_eq (by omega),some_bind,div_L0 (by omega) (by omega) (fun z hz w hw e=>by
  subst e
  have h1:=(orbE_mem hF).1 hz
  have h2:=(orbE_mem hF).1 hw
  simp only [decide_eq_true_eq]
  rw [←h1,←h2]),some_bind,Sum.elim_inl,match0 hs,some_bind,pv_bind]
 have he:decide (orbE (fL c) (foldE (fL c) x)=orbE (fL c) (foldE (fL c) y))=decide (foldE (fL c) x=foldE (fL c) y):=by
  rw [Bool.eq_iff_iff];simp only [decide_eq_true_eq];exact hiff
 rw [he,beq_self_eq_true]
 rfl
end Go.M


/- What the plain counterparts answer. Conditions: none. -/
import Derived.Test.YtjcbhabmkcdcnaaGreatDoorMir
set_option linter.unusedSimpArgs false
set_option linter.unusedVariables false
set_option linter.unnecessarySimpa false
namespace Go.M
open Go.AV
theorem zF3 {n:Int} (h1: -9223372036854775808≤n) (h2:n≤9223372036854775807):wi n=n:=w64 h1 h2
theorem zSP {k:Nat} (h:k+1≤9223372036854775807):wi ((k:Int)+1)=((k+1:Nat):Int):=by rw [zF3 (by omega) (by omega)];omega
theorem zZV {k n:Nat} (h:k < n):decide ((k:Int) < (n:Int))=true:=by simp;omega
theorem z19 {k n:Nat} (h:n≤k):decide ((k:Int) < (n:Int))=false:=by simp;omega
theorem zSQ {α:Type} {l:List α} {k:Nat} (h:k < l.length):z4 l (k:Int)=some l[k]:=by
 unfold z4;rw [if_pos (by omega)];simp [h]
theorem z2A {α:Type} {l m:List α} (h:l.length+m.length≤4294967296):app l m=some (l++m):=by
 unfold app;rw [if_pos (by unfold LIM;exact h)]
theorem zOF {α β:Type} (x: α) (f: α→Option β):(pv x).bind f=f x:=rfl
theorem z2B {α:Type} [Inhabited α] (m:Option α):gM true m=m:=rfl
theorem z3X {α:Type} [Inhabited α] (m:Option α):gM false m=some default:=rfl
theorem kB {α β:Type} (x: α) (f: α→Option β):(some x).bind f=f x:=rfl
theorem zLF {X Y:Type} {body:X→Option (Stp X Y)} {x x':X} (h:body x=some (.next x')):zP body x=zP body x':=by
 rw [zPC,h]
theorem zHN {X Y:Type} {body:X→Option (Stp X Y)} {x:X} {y:Y} (h:body x=some (.done y)):zP body x=some y:=by
 rw [zPC,h]
end Go.M
namespace Go.M
open Go.AV
def chk {A Y:Type} (p:Nat→A→Option Y):List A→Nat→Option Y
 | [],_=>none
 | x::xs,k=>match p k x with
  | some y=>some y
  | none=>chk p xs (k+1)
abbrev MX:Nat:=9223372036854775807
def z2C (t:Int):Bool:=((((decide (65≤t)&&decide (t≤90)) ||(decide (97≤t)&&decide (t≤122))) ||(decide (48≤t)&&decide (t≤57))) ||decide (t=95))
def z3Y (s:Str):Bool:=match chk (fun _ (b:UInt8)=>if z2C (b.toNat:Int) then none else some false) s 0 with
 | some y=>y
 | none=>decide (1≤s.length)&&decide (s.length≤32)
end Go.M
namespace Go.M
open Go.AV
def vld (c:Int):Bool:=decide (0≤c)&&decide (c≤1114111)
section
variable {a b:List Int} (ha:a.length≤4611686018427387904) (hb:b.length≤2000)
theorem z46 (x y:Int):yH x y=some (if x < y then -1 else if y < x then 1 else 0):=by
 unfold yH w9
 simp only [kB,decide_true,Bool.not_true,cond_false]
 by_cases h1:x < y
 simp [h1]
 by_cases h2:y < x <;> simp [h1,h2]
end
end Go.M
namespace Go.M
open Go.AV
structure Sm (c:Collation):Prop where
 en:c.Entries.length≤12
 gr:c.Groups.length≤8
 co:∀x∈c.Entries,x.Codes.length≤16
 el:∀x∈c.Entries,x.Elements.length≤20
end Go.M
namespace Go.M
open Go.AV
structure Vd (es:List Entry):Prop where
 lo:∀x∈es,1≤x.Codes.length
 hi:∀x∈es,x.Codes.length≤8
 el:∀x∈es,x.Elements.length≤20
 ne:es.Pairwise fun x y=>x.Codes≠y.Codes
theorem zUS {κ ν:Type} [DecidableEq κ] (m:List (κ×ν)) (k k': κ) (v: ν):mget (zCI m k v) k'=if k'=k then some v else mget m k':=by
 induction m with
 | nil=>simp only [zCI,mget]
 | cons p m ih=>
  obtain ⟨q,u⟩:=p
  simp only [zCI]
  by_cases hq:k=q
  subst hq
  simp only [if_true,mget]
  by_cases h:k'=k <;> simp [h]
  simp only [hq,if_false,mget]
  by_cases h:k'=q
  subst h
  have:¬k'=k:=fun e=>hq e.symm
  simp [this]
  simp only [h,if_false];exact ih
end Go.M
namespace Go.M
open Go.AV
end Go.M
namespace Go.M
open Go.AV
def nth {α:Type} [Inhabited α] (l:List α) (k:Nat): α:=l.getD k default
theorem zKD {α:Type} [Inhabited α] {l:List α} {k:Nat} (h:k < l.length):z4 l (k:Int)=some (nth l k):=by
 rw [zSQ h];simp [nth,h]
theorem zOG {α:Type} [Inhabited α] {l:List α} {k:Nat} (h:k < l.length):nth l k=l[k]:=by simp [nth,h]
def spOk (s:Span):Prop:=0≤s.Lo∧s.Hi≤1114111∧s.Lo≤s.Hi∧1≤s.Value∧s.Value≤254
def adOk (a b:Span):Prop:=a.Hi < b.Lo∧¬(b.Lo=a.Hi+1∧b.Value=a.Value)
def hgOk (s:Span):Prop:= ¬(s.Lo≤4370∧4352≤s.Hi)∧¬(s.Lo≤4469∧4449≤s.Hi)∧¬(s.Lo≤4546∧4520≤s.Hi)∧¬(s.Lo≤55203∧44032≤s.Hi)
structure CV (l:List Span):Prop where
 sp:∀k,k < l.length→spOk (nth l k)
 ad:∀k,k+1 < l.length→adOk (nth l k) (nth l (k+1))
 hg:∀k,k < l.length→hgOk (nth l k)
end Go.M
namespace Go.M
open Go.AV
def codesOk (m:Mapping):Prop:=vld m.From=true∧∀c∈m.To,vld c=true
def tagOk (m:Mapping):Prop:=m.Tag= []∨z3Y m.Tag=true
def mlt (a b:Mapping):Prop:=a.From < b.From∨(a.From=b.From∧a.Tag < b.Tag)
structure MV (l:List Mapping):Prop where
 co:∀m∈l,codesOk m
 sz:∀m∈l,m.To.length≤64
 tg:∀m∈l,tagOk m
 lt:∀k,k+1 < l.length→mlt (nth l k) (nth l (k+1))
end Go.M
namespace Go.M
open Go.AV
end Go.M
namespace Go.M
open Go.AV
def zRY (r:Range):Prop:=0≤r.Lo∧r.Lo≤r.Hi∧r.Hi≤1114111
def Can:List Range→Prop
 | []=>True
 | [r]=>zRY r
 | r::q::l=>zRY r∧r.Hi+1 < q.Lo∧Can (q::l)
theorem Can.head {r:Range} {l:List Range} (h:Can (r::l)):zRY r:=by
 cases l with
 | nil=>exact h
 | cons q l=>exact h.1
theorem Can.tail {r:Range} {l:List Range} (h:Can (r::l)):Can l:=by
 cases l with
 | nil=>trivial
 | cons q l=>exact h.2.2
theorem Can.ok:∀{l:List Range},Can l→∀r∈l,zRY r
 | [],_,r,hr=>by cases hr
 | q::l,h,r,hr=>by
  rcases List.mem_cons.1 hr with rfl | hr
  exact h.head
  exact Can.ok h.tail r hr
def CanR:List Range→Prop
 | []=>True
 | [r]=>zRY r
 | r::q::l=>zRY r∧q.Hi+1 < r.Lo∧CanR (q::l)
theorem CanR.tail {r:Range} {l:List Range} (h:CanR (r::l)):CanR l:=by
 cases l with
 | nil=>trivial
 | cons q l=>exact h.2.2
theorem CanR.head {r:Range} {l:List Range} (h:CanR (r::l)):zRY r:=by
 cases l with
 | nil=>exact h
 | cons q l=>exact h.1
end Go.M
namespace Go.M
open Go.AV
def hkE (c:Int):Int:=if 4352≤c∧c < 4371 then 1 else if 4449≤c∧c < 4470 then 2 else if 4520≤c∧c < 4547 then 3 else if c < 44032∨55204≤c then 0 else if (c - 44032) % 28=0 then 4 else 5
theorem zSR (c:Int):wL c=some (hkE c):=by
 unfold wL hkE
 simp only [zOF]
 by_cases h1:4352≤c∧c < 4371
 simp [h1]
 by_cases h2:4449≤c∧c < 4470
 have:¬c < 4371:=by omega
 simp [h2,this]
 by_cases h3:4520≤c∧c < 4547
 have a1:¬c < 4371:=by omega
 have a2:¬c < 4470:=by omega
 simp [h3,a1,a2]
 have e1:(decide (4352≤c)&&decide (c < 4371))=false:=by simp only [Bool.and_eq_false_iff,decide_eq_false_iff_not];omega
 have e2:(decide (4449≤c)&&decide (c < 4470))=false:=by simp only [Bool.and_eq_false_iff,decide_eq_false_iff_not];omega
 have e3:(decide (4520≤c)&&decide (c < 4547))=false:=by simp only [Bool.and_eq_false_iff,decide_eq_false_iff_not];omega
 simp only [e1,e2,e3,cond_false,h1,h2,h3,if_false]
 by_cases h4:c < 44032∨55204≤c
 have e4:(decide (c < 44032) ||decide (55204≤c))=true:=by simpa using h4
 simp only [e4,cond_true,h4,if_true]
 have e4:(decide (c < 44032) ||decide (55204≤c))=false:=by simp only [Bool.or_eq_false_iff,decide_eq_false_iff_not];omega
 simp only [e4,cond_false,h4,if_false]
 rw [zF3 (by omega) (by omega)]
 unfold zIN
 rw [if_neg (by omega),kB]
 have:(c - 44032).tmod 28=(c - 44032) % 28:=Int.tmod_eq_emod_of_nonneg (by omega)
 rw [this]
 by_cases h5:(c - 44032) % 28=0 <;> simp [h5]
def syl (c:Int):Bool:=decide (44032≤c)&&decide (c≤55203)
theorem zIF (c:Int):syl c=true↔4≤hkE c:=by
 unfold syl hkE
 simp only [Bool.and_eq_true,decide_eq_true_eq]
 repeat' split
 all_goals omega
def hdE (c:Int):List Int:=if syl c=true then [4352+(c - 44032) / 28 / 21,4449+(c - 44032) / 28 % 21]++(if 0 < (c - 44032) % 28 then [4520+(c - 44032) % 28 - 1] else []) else [c]
theorem zXK {c e:Int} (hc:syl c=true) (he:e∈hdE c):syl e=false∧hkE e≠0:=by
 unfold hdE at he
 rw [if_pos hc] at he
 unfold syl at hc
 simp only [Bool.and_eq_true,decide_eq_true_eq] at hc
 have key:(4352≤e∧e < 4371)∨(4449≤e∧e < 4470)∨(4520≤e∧e < 4547):=by
  simp only [List.mem_append,List.mem_cons,List.not_mem_nil,or_false] at he
  rcases he with (rfl | rfl) | he
  left;omega
  right;left;omega
  split at he
  simp only [List.mem_singleton] at he;right;right;omega
  simp at he
 constructor
 unfold syl
 simp only [Bool.and_eq_false_iff,decide_eq_false_iff_not]
 omega
 unfold hkE
 rcases key with h | h | h
 rw [if_pos h];decide
 rw [if_neg (by omega),if_pos h];decide
 rw [if_neg (by omega),if_neg (by omega),if_pos h];decide
theorem zRZ (c:Int):(hdE c).length≤3∧1≤(hdE c).length:=by
 unfold hdE
 split
 split <;> simp
 simp
theorem zZW {c:Int} (hc:syl c=true):xE c=some (hdE c):=by
 have hk:=(zIF c).1 hc
 have hc':=hc
 unfold syl at hc'
 simp only [Bool.and_eq_true,decide_eq_true_eq] at hc'
 unfold xE zBC
 rw [zSR,kB]
 have e1:decide (hkE c < 4)=false:=by simp;omega
 simp only [e1,cond_false]
 rw [zF3 (n:=c - 44032) (by omega) (by omega)]
 generalize hn:c - 44032=n
 have hn0:0≤n∧n < 11172:=by omega
 have d1:n.tdiv 28=n / 28:=Int.tdiv_eq_ediv_of_nonneg (by omega)
 have d2:(n / 28).tdiv 21=n / 28 / 21:=Int.tdiv_eq_ediv_of_nonneg (by omega)
 have m1:n.tmod 28=n % 28:=Int.tmod_eq_emod_of_nonneg (by omega)
 have m2:(n / 28).tmod 21=n / 28 % 21:=Int.tmod_eq_emod_of_nonneg (by omega)
 simp only [zLQ,zIN,show ((28:Int)=0)=False by simp,show ((21:Int)=0)=False by simp,if_false,kB,d1,m1]
 rw [zF3 (n:=n / 28) (by omega) (by omega)]
 simp only [d2,m2]
 rw [zF3 (n:=n / 28 / 21) (by omega) (by omega),zF3 (n:=4352+n / 28 / 21) (by omega) (by omega),zF3 (n:=4449+n / 28 % 21) (by omega) (by omega),zF3 (n:=4520+n % 28) (by omega) (by omega),zF3 (n:=4520+n % 28 - 1) (by omega) (by omega)]
 unfold hdE
 rw [if_pos hc,hn]
 by_cases h0:0 < n % 28
 simp only [h0,decide_true,cond_true,kB,if_true]
 have a1:decide (({x0:=4352+n / 28 / 21,x1:=4449+n / 28 % 21,x2:=4520+n % 28 - 1}:A3Int)= {x0:=0,x1:=0,x2:=0})=false:=by simp;omega
 have a2:decide ((4520+n % 28 - 1:Int)=0)=false:=by simp;omega
 simp only [a1,a2,cond_false]
 rfl
 simp only [h0,decide_false,cond_false,kB,if_false]
 have a1:decide (({x0:=4352+n / 28 / 21,x1:=4449+n / 28 % 21,x2:=0}:A3Int)= {x0:=0,x1:=0,x2:=0})=false:=by simp;omega
 simp only [a1,cond_false,decide_true,cond_true]
 rfl
theorem z2D {lo hi:Nat} (h:lo+hi≤4611686018427387903):wi ((wu (wi ((lo:Int)+(hi:Int)))) / 2 ^ 1)=(((lo+hi) / 2:Nat):Int):=by
 rw [zF3 (n:=(lo:Int)+hi) (by omega) (by omega)]
 have:wu ((lo:Int)+(hi:Int))=(lo:Int)+hi:=IntWalk.u64_in _ (by omega)
 rw [this,zF3 (by omega) (by omega)]
 omega
theorem zZX {n : Nat} (hn : n ≤ 2000) {body : Int × Int → Option (Stp (Int × Int) Int)} (q : Nat → Bool)
    (hend : ∀ k : Nat, k ≤ n → body ((k : Int), (k : Int)) = some (.done (k : Int)))
    (hstep : ∀ lo hi : Nat, lo < hi → hi ≤ n → body ((lo : Int), (hi : Int)) = some (.next (if q ((lo + hi) / 2) then ((lo : Int), (((lo + hi) / 2 : Nat) : Int)) else ((((lo + hi) / 2 + 1 : Nat) : Int), (hi : Int)))))
    (mono : ∀ i j, i ≤ j → j < n → q i = true → q j = true) :
    ∃ j, j ≤ n ∧ zP body (0, (n : Int)) = some (j : Int) ∧ (∀ k, k < j → q k = false) ∧ (∀ k, j ≤ k → k < n → q k = true) := by
  have key : ∀ (d lo hi : Nat), hi - lo ≤ d → lo ≤ hi → hi ≤ n → (∀ k, k < lo → q k = false) → (∀ k, hi ≤ k → k < n → q k = true) →
      ∃ j, j ≤ n ∧ zP body ((lo : Int), (hi : Int)) = some (j : Int) ∧ (∀ k, k < j → q k = false) ∧ (∀ k, j ≤ k → k < n → q k = true) := by
    intro d
    induction d with
    | zero =>
      intro lo hi h1 h2 h3 h4 h5
      have : lo = hi := by omega
      subst this
      exact ⟨lo, h3, zHN (hend lo h3), h4, h5⟩
    | succ d ih =>
      intro lo hi h1 h2 h3 h4 h5
      by_cases e : lo = hi
      · subst e
        exact ⟨lo, h3, zHN (hend lo h3), h4, h5⟩
      · have hlt : lo < hi := by omega
        have hmid : (lo + hi) / 2 < n := by omega
        rw [zLF (hstep lo hi hlt h3)]
        cases hq : q ((lo + hi) / 2) with
        | true =>
          rw [if_pos rfl]
          exact ih lo ((lo + hi) / 2) (by omega) (by omega) (by omega) h4 (fun k hk hkn => mono _ _ hk hkn hq)
        | false =>
          rw [if_neg (by simp)]
          refine ih ((lo + hi) / 2 + 1) hi (by omega) (by omega) h3 ?_ h5
          intro k hk
          cases hqk : q k with
          | false => rfl
          | true =>
            have := mono k ((lo + hi) / 2) (by omega) hmid hqk
            rw [hq] at this; cases this
  exact key n 0 n (by omega) (by omega) (by omega) (by intro k hk; omega) (by intro k hk hkn; omega)
theorem zSS {α:Type} [Inhabited α] {l:List α} {p: α→Bool} {i:Nat} (hi:i < l.length) (h:∀j,j < i→p (nth l j)=false) (hp:p (nth l i)=true):l.find? p=some (nth l i):=by
 rw [List.find?_eq_some_iff_getElem]
 refine ⟨hp,i,hi,(zOG hi).symm,fun j hj=>?_⟩
 have:=h j hj
 rw [zOG (by omega)] at this
 simp [this]
theorem zZY {α:Type} [Inhabited α] {l:List α} {p: α→Bool} (h:∀j,j < l.length→p (nth l j)=false):l.find? p=none:=by
 rw [List.find?_eq_none]
 intro x hx
 obtain ⟨k,hk,rfl⟩:=List.getElem_of_mem hx
 have:=h k hk
 rw [zOG hk] at this
 simp [this]
def z47 (c:Int) (s:Span):Bool:=decide (s.Lo≤c)&&decide (c≤s.Hi)
def clE (l:List Span) (c:Int):Int:=match l.find? (z47 c) with
 | some s=>s.Value
 | none=>0
theorem CV.mono {l:List Span} (h:CV l):∀(d i:Nat),i+d+1 < l.length→(nth l i).Hi < (nth l (i+d+1)).Lo
 | 0,i,hi=>(h.ad i hi).1
 | d+1,i,hi=>by
  have h1:=CV.mono h d i (by omega)
  have h2:=h.sp (i+d+1) (by omega)
  have h3:=(h.ad (i+d+1) (by omega)).1
  unfold spOk at h2
  have:i+(d+1)+1=i+d+1+1:=by omega
  rw [this]
  omega
theorem CV.lt {l:List Span} (h:CV l) {i j:Nat} (hij:i < j) (hj:j < l.length):(nth l i).Hi < (nth l j).Lo:=by
 have:=CV.mono h (j - i - 1) i (by omega)
 rwa [show i+(j - i - 1)+1=j by omega] at this
theorem CV.hi {l:List Span} (h:CV l) {i j:Nat} (hij:i≤j) (hj:j < l.length):(nth l i).Hi≤(nth l j).Hi:=by
 rcases Nat.lt_or_eq_of_le hij with h1 | rfl
 have:=h.lt h1 hj
 have h2:=h.sp j hj
 unfold spOk at h2
 omega
 exact Int.le_refl _
end Go.M
namespace Go.M
open Go.AV
structure DS (l:List Mapping):Prop where
 asc:∀k,k+1 < l.length→(nth l k).From < (nth l (k+1)).From
 hk:∀m∈l,hkE m.From=0
 len:∀m∈l,m.To.length≤2000
theorem DS.mono {l:List Mapping} (h:DS l):∀(d i:Nat),i+d+1 < l.length→(nth l i).From < (nth l (i+d+1)).From
 | 0,i,hi=>h.asc i hi
 | d+1,i,hi=>by
  have h1:=DS.mono h d i (by omega)
  have h3:=h.asc (i+d+1) (by omega)
  have:i+(d+1)+1=i+d+1+1:=by omega
  rw [this]
  omega
theorem DS.lt {l:List Mapping} (h:DS l) {i j:Nat} (hij:i < j) (hj:j < l.length):(nth l i).From < (nth l j).From:=by
 have:=DS.mono h (j - i - 1) i (by omega)
 rwa [show i+(j - i - 1)+1=j by omega] at this
def isF (c:Int) (m:Mapping):Bool:=decide (m.From=c)
theorem zZZ {l : List Mapping} (h : DS l) (hl : l.length ≤ 2000) (c : Int) : ∃ i : Nat, zS l c (fun x0 x1 => kK x0 x1) = some ((i : Int), (l.find? (isF c)).isSome) ∧ ∀ m, l.find? (isF c) = some m → i < l.length ∧ nth l i = m := by
  have hc1 : ∀ m, kK m c = some (if m.From < c then -1 else if c < m.From then 1 else 0) := fun m => by
    unfold kK
    rw [z46]; rfl
  obtain ⟨j, hj, hr, hlo, hhi⟩ := zZX (n := l.length) hl (body := fun (x : Int × Int) => zN l (fun x0 x1 => kK x0 x1) c x.1 x.2) (fun k => decide (c ≤ (nth l k).From))
    (fun k _ => by simp only [zN, z19 (Nat.le_refl _), cond_false])
    (fun lo hi h1 h2 => by
      have hm : (lo + hi) / 2 < l.length := by omega
      simp only [zN, zZV h1, cond_true, z2D (show lo + hi ≤ 4611686018427387903 by omega), zKD hm, kB, hc1, zSP (k := (lo + hi) / 2) (by omega)]
      by_cases hc : (nth l ((lo + hi) / 2)).From < c
      · have : ¬ c ≤ (nth l ((lo + hi) / 2)).From := by omega
        simp [hc, this]
      · have : c ≤ (nth l ((lo + hi) / 2)).From := by omega
        by_cases hc2 : c < (nth l ((lo + hi) / 2)).From <;> simp [hc, hc2, this])
    (fun i j hij hj hi => by
      simp only [decide_eq_true_eq] at hi ⊢
      rcases Nat.lt_or_eq_of_le hij with h1 | rfl
      · have := h.lt h1 hj; omega
      · exact hi)
  simp only [decide_eq_false_iff_not, decide_eq_true_eq] at hlo hhi
  refine ⟨j, ?_⟩
  unfold zS
  rw [hr]
  simp only [kB, zOF]
  by_cases hn : j < l.length ∧ (nth l j).From = c
  · have hf := zSS (p := isF c) hn.1 (fun k hk => by
      have := hlo k hk
      unfold isF
      simp only [decide_eq_false_iff_not]; omega) (by unfold isF; simpa using hn.2)
    rw [hf]
    simp only [zZV hn.1, z2B, zKD hn.1, kB, hc1, Bool.true_and, hn.2]
    refine ⟨by simp, fun m hm => ?_⟩
    injection hm with hm
    exact ⟨hn.1, hm⟩
  · have hf := zZY (l := l) (p := isF c) (fun k hk => by
      unfold isF
      simp only [decide_eq_false_iff_not]
      intro e
      by_cases hkj : k < j
      · have := hlo k hkj; omega
      · by_cases e2 : k = j
        · subst e2; exact hn ⟨hk, e⟩
        · have h1 := h.lt (show j < k by omega) hk
          have h2 := hhi j (Nat.le_refl _) (by omega)
          omega)
    rw [hf]
    refine ⟨?_, fun m hm => by cases hm⟩
    by_cases hj2 : j < l.length
    · have h2 := hhi j (Nat.le_refl _) hj2
      have h3 : ¬ (nth l j).From = c := fun e => hn ⟨hj2, e⟩
      have h4 : c < (nth l j).From := by omega
      have h5 : ¬ (nth l j).From < c := by omega
      simp only [zZV hj2, z2B, zKD hj2, kB, hc1, h4, h5, if_true, if_false, Bool.true_and]
      rfl
    · simp only [z19 (show l.length ≤ j by omega), z3X, kB, Bool.false_and]
      rfl
def dep (l:List Mapping) (c:Int):List Int:=if syl c=true then hdE c else match l.find? (isF c) with
 | some m=>m.To
 | none=>[]
theorem zXL {l:List Mapping} (h:DS l) {m:Mapping} (hm:m∈l):dep l m.From=m.To:=by
 have h0:=h.hk m hm
 have hs:syl m.From=false:=by
  cases hs:syl m.From with
  | false=>rfl
  | true=>have:=(zIF _).1 hs;omega
 unfold dep
 rw [if_neg (by simp [hs])]
 obtain ⟨k,hk,rfl⟩:=List.getElem_of_mem hm
 rw [←zOG hk]
 rw [zSS (p:=isF (nth l k).From) hk (fun j hj=>by
  have:=h.lt hj hk
  unfold isF
  simp only [decide_eq_false_iff_not];omega) (by simp [isF])]
end Go.M
namespace Go.M
open Go.AV
def EE (l:List Mapping):Nat→Int→Prop
 | 0,_=>False
 | k+1,c=> ∀e∈dep l c,EE l k e
def WW (l:List Mapping) (c:Int):Prop:= ∃k,EE l k c
theorem zNG {α:Type} {p q: α→Bool}:∀{l:List α},(∀x∈l,p x=true→q x=true)→(∃x∈l,q x=true∧p x=false)→l.countP p+1≤l.countP q
 | [],_,⟨x,hx,_⟩=>by cases hx
 | y::l,h,⟨x,hx,h1,h2⟩=>by
  have hle:=List.countP_mono_left (l:=l) fun z hz=>h z (by simp [hz])
  rw [List.countP_cons,List.countP_cons]
  rcases List.mem_cons.1 hx with rfl | hx
  simp [h1,h2];omega
  have ih:=zNG (l:=l) (fun z hz=>h z (by simp [hz])) ⟨x,hx,h1,h2⟩
  have hy:=h y (by simp)
  cases hp:p y with
  | false=>simp;omega
  | true=>simp [hy hp];omega
end Go.M
namespace Go.M
open Go.AV
structure NSm (n:Norm):Prop where
 cl:n.Classes.length≤40
 de:n.Decomp.length≤40
 to:∀m∈n.Decomp,m.To.length≤70
 tg:∀m∈n.Decomp,m.Tag.length≤40
 ex:n.Excluded.Ranges.length≤12
structure VD0 (n:Norm):Prop where
 cv:CV n.Classes
 mv:MV n.Decomp
 ca:Can n.Excluded.Ranges
 ne:∀k,k+1 < n.Decomp.length→(nth n.Decomp (k+1)).From≠(nth n.Decomp k).From
 kd:∀m∈n.Decomp,m.Tag= []→m.To.length=1∨m.To.length=2
 hk:∀m∈n.Decomp,hkE m.From=0
 tc:∀m∈n.Decomp,m.Tag≠[]→clE n.Classes m.From=0
 ms:decompose_measure n=some (false,false)
theorem VD0.ds {n : Norm} (h : VD0 n) : DS n.Decomp := ⟨fun k hk' => by
    have a := h.mv.lt k hk'
    have b := h.ne k hk'
    unfold mlt at a
    omega, h.hk, fun m hm => by have := h.mv.sz m hm; omega⟩
end Go.M
namespace Go.M
open Go.AV
def DD (l:List Mapping):Nat→Int→Prop
 | 0,c=>l.find? (isF c)=none
 | k+1,c=> ∀m,l.find? (isF c)=some m→∀e∈m.To,DD l k e
theorem zKE {l:List Mapping} {c:Int} (h:l.find? (isF c)=none):∀k,DD l k c
 | 0=>h
 | k+1=>fun m hm=>by rw [h] at hm;cases hm
theorem zKF {l:List Mapping}:∀{k:Nat} {c:Int},DD l k c→DD l (k+1) c
 | 0,_,h=>zKE h 1
 | _+1,_,h=>fun m hm e he=>zKF (h m hm e he)
theorem zCZ {l:List Mapping} {c:Int} {m:Mapping} (h:l.find? (isF c)=some m):m∈l∧m.From=c:=by
 refine ⟨List.mem_of_find?_eq_some h,?_⟩
 have h4:=List.find?_some h
 unfold isF at h4
 simpa using h4
theorem zQH {l:List Mapping} (hd:DS l) {m:Mapping} (hm:m∈l):syl m.From=false:=by
 cases hs:syl m.From with
 | false=>rfl
 | true=>have:=(zIF _).1 hs;have:=hd.hk m hm;omega
theorem zXM {l:List Mapping} (hd:DS l) {c:Int} (h:syl c=true):l.find? (isF c)=none:=by
 cases hf:l.find? (isF c) with
 | none=>rfl
 | some m=>
  obtain ⟨h1,rfl⟩:=zCZ hf
  rw [zQH hd h1] at h;cases h
theorem zXN {l:List Mapping} (hd:DS l) {c:Int} {m:Mapping} (h:l.find? (isF c)=some m):dep l c=m.To:=by
 obtain ⟨h1,rfl⟩:=zCZ h
 exact zXL hd h1
theorem z0W {l:List Mapping} (hd:DS l):∀{k:Nat} {c:Int},EE l k c→DD l k c
 | 0,_,h=>h.elim
 | _+1,_,h=>fun m hm e he=>z0W hd (h e (by rw [zXN hd hm];exact he))
theorem z2E {l:List Mapping} (hd:DS l) (H:∀m∈l,WW l m.From):∀m∈l,DD l l.length m.From:=by
 classical
 have key:∀k,(∀m∈l,DD l k m.From)∨k≤l.countP (fun m=>decide (DD l k m.From)):=by
  intro k
  induction k with
  | zero=>exact .inr (Nat.zero_le _)
  | succ k ih=>
   rcases ih with ih | ih
   exact .inl fun m hm=>zKF (ih m hm)
   by_cases hst:∀m∈l,DD l (k+1) m.From→DD l k m.From
   left
   have hall:∀j c,DD l j c→DD l k c:=by
    intro j
    induction j with
    | zero=>intro c h;exact zKE h k
    | succ j ihj=>
     intro c h
     cases hf:l.find? (isF c) with
     | none=>exact zKE hf k
     | some m=>
      obtain ⟨h1,h2⟩:=zCZ hf
      have:=hst m h1 (by
       rw [h2]
       intro m' hm' e he
       exact ihj e (h m' hm' e he))
      rwa [h2] at this
   intro m hm
   obtain ⟨j,hj⟩:=H m hm
   exact zKF (hall j _ (z0W hd hj))
   right
   have hex:∃m∈l,DD l (k+1) m.From∧¬DD l k m.From:=by
    apply Classical.byContradiction
    intro hno
    exact hst fun m hm h1=>Classical.byContradiction fun h2=>hno ⟨m,hm,h1,h2⟩
   obtain ⟨m,hm,h1,h2⟩:=hex
   have:=zNG (p:=fun m=>decide (DD l k m.From)) (q:=fun m=>decide (DD l (k+1) m.From)) (l:=l) (fun x _ hx=>by simp only [decide_eq_true_eq] at hx ⊢;exact zKF hx) ⟨m,hm,by simpa using h1,by simpa using h2⟩
   omega
 rcases key l.length with h | h
 exact h
 have hle:l.countP (fun m=>decide (DD l l.length m.From))≤l.length:=List.countP_le_length
 have:l.countP (fun m=>decide (DD l l.length m.From))=l.length:=by omega
 intro m hm
 have:=List.countP_eq_length.1 this m hm
 simpa using this
theorem zXO {l:List Mapping} (hd:DS l) (H:∀m∈l,WW l m.From) (c:Int):DD l l.length c:=by
 cases hf:l.find? (isF c) with
 | none=>exact zKE hf _
 | some m=>
  obtain ⟨h1,h2⟩:=zCZ hf
  have:=z2E hd H m h1
  rwa [h2] at this
def fnB (l:List Mapping) (b:Bool) (c:Int):Option (List Int):=match l.find? (isF c) with
 | some m=>if (b ||(m.Tag== []))=true then some m.To else none
 | none=>none
theorem zF5 {l:List Mapping} {b:Bool} {c:Int} {to:List Int} (h:fnB l b c=some to):∃m,l.find? (isF c)=some m∧m.To=to∧(b ||(m.Tag== []))=true:=by
 unfold fnB at h
 cases hf:l.find? (isF c) with
 | none=>rw [hf] at h;cases h
 | some m=>
  rw [hf] at h
  simp only at h
  split at h
  rename_i hb
  injection h with h
  exact ⟨m,rfl,h,hb⟩
  cases h
theorem zXP (l:List Mapping) (c:Int):fnB l true c=(l.find? (isF c)).map (·.To):=by
 unfold fnB
 cases l.find? (isF c) <;> simp
theorem z2F {l:List Mapping} {c:Int} {to:List Int} (h:fnB l false c=some to):fnB l true c=some to:=by
 obtain ⟨m,h1,h2,_⟩:=zF5 h
 rw [zXP,h1,←h2];rfl
def exF (l:List Mapping) (b:Bool):Nat→Int→List Int
 | 0,c=>hdE c
 | k+1,c=>match fnB l b c with
  | some to=>to.flatMap (exF l b k)
  | none=>hdE c
def wtF (l:List Mapping) (b:Bool):Nat→Int→Int
 | 0,c=>((hdE c).length:Int)
 | k+1,c=>match fnB l b c with
  | some to=>min (max (to.map (wtF l b k)).sum 1) 65
  | none=>((hdE c).length:Int)
theorem zLG {f g:Int→List Int}:∀{L:List Int},(∀e∈L,f e=g e)→L.flatMap f=L.flatMap g
 | [],_=>rfl
 | x::L,h=>by rw [List.flatMap_cons,List.flatMap_cons,h x (by simp),zLG fun e he=>h e (by simp [he])]
theorem zF6 {l:List Mapping} {b:Bool} {c:Int} (h:l.find? (isF c)=none):fnB l b c=none:=by unfold fnB;rw [h]
theorem zXQ {l:List Mapping} {b:Bool}:∀{k:Nat} {c:Int},DD l k c→∀{j:Nat},k≤j→exF l b j c=exF l b k c
 | 0,c,h,j,_=>by
  cases j with
  | zero=>rfl
  | succ j=>show (match fnB l b c with | some to=>to.flatMap (exF l b j) | none=>hdE c)=hdE c;rw [zF6 h]
 | k+1,c,h,j,hj=>by
  cases j with
  | zero=>omega
  | succ j=>
   show (match fnB l b c with | some to=>to.flatMap (exF l b j) | none=>hdE c)=(match fnB l b c with | some to=>to.flatMap (exF l b k) | none=>hdE c)
   cases hf:fnB l b c with
   | none=>rfl
   | some to=>
    obtain ⟨m,h1,rfl,_⟩:=zF5 hf
    exact zLG fun e he=>zXQ (h m h1 e he) (by omega)
theorem zXR {l:List Mapping} {b:Bool}:∀{k:Nat} {c:Int},DD l k c→∀{j:Nat},k≤j→wtF l b j c=wtF l b k c
 | 0,c,h,j,_=>by
  cases j with
  | zero=>rfl
  | succ j=>show (match fnB l b c with | some to=>min (max (to.map (wtF l b j)).sum 1) 65 | none=>((hdE c).length:Int))=((hdE c).length:Int);rw [zF6 h]
 | k+1,c,h,j,hj=>by
  cases j with
  | zero=>omega
  | succ j=>
   show (match fnB l b c with | some to=>min (max (to.map (wtF l b j)).sum 1) 65 | none=>((hdE c).length:Int))=(match fnB l b c with | some to=>min (max (to.map (wtF l b k)).sum 1) 65 | none=>((hdE c).length:Int))
   cases hf:fnB l b c with
   | none=>rfl
   | some to=>
    obtain ⟨m,h1,rfl,_⟩:=zF5 hf
    have:m.To.map (wtF l b j)=m.To.map (wtF l b k):=List.map_congr_left fun e he=>zXR (h m h1 e he) (by omega)
    simp only [this]
def fu (l:List Mapping) (b:Bool) (c:Int):List Int:=exF l b l.length c
def wt (l:List Mapping) (b:Bool) (c:Int):Int:=wtF l b l.length c
theorem zST {l:List Mapping} {b:Bool} (hD:∀c,DD l l.length c) (c:Int):fu l b c=match fnB l b c with | some to=>to.flatMap (fu l b) | none=>hdE c:=by
 unfold fu
 rw [←zXQ (hD c) (show l.length≤l.length+1 by omega)]
 rfl
theorem z3Z {l:List Mapping} {b:Bool} (hD:∀c,DD l l.length c) (c:Int):wt l b c=(match fnB l b c with | some to=>(min (max (to.map (wt l b)).sum 1) 65:Int) | none=>((hdE c).length:Int):Int):=by
 unfold wt
 rw [←zXR (hD c) (show l.length≤l.length+1 by omega)]
 rfl
theorem zZ0 {l:List Mapping} {b:Bool} (k:Nat) (c:Int):1≤wtF l b k c∧wtF l b k c≤65:=by
 have:=zRZ c
 cases k with
 | zero=>show 1≤((hdE c).length:Int)∧((hdE c).length:Int)≤65;omega
 | succ k=>
  show 1≤(match fnB l b c with | some to=>min (max (to.map (wtF l b k)).sum 1) 65 | none=>((hdE c).length:Int))∧(match fnB l b c with | some to=>min (max (to.map (wtF l b k)).sum 1) 65 | none=>((hdE c).length:Int))≤65
  cases fnB l b c with
  | none=>simp only [];omega
  | some to=>simp only [];omega
theorem zXS {f:Int→Int} (hf:∀e,1≤f e):∀L:List Int,(L.length:Int)≤(L.map f).sum
 | []=>by simp
 | x::L=>by have:=zXS hf L;have:=hf x;simp only [List.map_cons,List.sum_cons,List.length_cons];omega
theorem zSU {f:Int→List Int} {w:Int→Int} (hw:∀e,1≤w e) (N:Int):∀(L:List Int),(∀e∈L,w e≤N→((f e).length:Int)≤w e)→(L.map w).sum≤N→((L.flatMap f).length:Int)≤(L.map w).sum
 | [],_,_=>by simp
 | x::L,h,hs=>by
  have h0:=zXS hw L
  have h1:=hw x
  simp only [List.map_cons,List.sum_cons] at hs ⊢
  have ih:=zSU hw N L (fun e he=>h e (by simp [he])) (by omega)
  have hx:=h x (by simp) (by omega)
  rw [List.flatMap_cons,List.length_append]
  omega
theorem zZ1 {l:List Mapping} {b:Bool}:∀(k:Nat) (c:Int),wtF l b k c≤64→((exF l b k c).length:Int)≤wtF l b k c:=by
 intro k
 induction k with
 | zero=>intro c _;show ((hdE c).length:Int)≤((hdE c).length:Int);omega
 | succ k ih=>
  intro c
  show (match fnB l b c with | some to=>min (max (to.map (wtF l b k)).sum 1) 65 | none=>((hdE c).length:Int))≤64→(((match fnB l b c with | some to=>to.flatMap (exF l b k) | none=>hdE c):List Int).length:Int)≤(match fnB l b c with | some to=>min (max (to.map (wtF l b k)).sum 1) 65 | none=>((hdE c).length:Int))
  cases fnB l b c with
  | none=>intro _;simp only [];omega
  | some to=>
   simp only []
   intro h
   have:=zSU (f:=exF l b k) (w:=wtF l b k) (fun e=>(zZ0 k e).1) 64 to (fun e _ he=>ih e he) (by omega)
   omega
theorem zZ2 {l:List Mapping} (hd:DS l):∀(k:Nat) (c:Int),wtF l false k c≤wtF l true k c:=by
 intro k
 induction k with
 | zero=>intro c;exact Int.le_refl _
 | succ k ih=>
  intro c
  have hs:∀L:List Int,(L.map (wtF l false k)).sum≤(L.map (wtF l true k)).sum:=by
   intro L
   induction L with
   | nil=>simp
   | cons x L ihL=>have:=ih x;simp only [List.map_cons,List.sum_cons];omega
  show (match fnB l false c with | some to=>min (max (to.map (wtF l false k)).sum 1) 65 | none=>((hdE c).length:Int))≤(match fnB l true c with | some to=>min (max (to.map (wtF l true k)).sum 1) 65 | none=>((hdE c).length:Int))
  cases hf:fnB l false c with
  | some to=>
   rw [z2F hf]
   have:=hs to
   simp only [];omega
  | none=>
   cases ht:fnB l true c with
   | none=>exact Int.le_refl _
   | some to=>
    obtain ⟨m,h1,_,_⟩:=zF5 ht
    obtain ⟨h2,rfl⟩:=zCZ h1
    have:hdE m.From= [m.From]:=by unfold hdE;rw [if_neg (by simp [zQH hd h2])]
    simp only [this,List.length_singleton];omega
theorem z2G {l:List Mapping} (hd:DS l) (h:∀c,wt l true c≤64) (b:Bool) (c:Int):(fu l b c).length≤64:=by
 have h1:wtF l b l.length c≤wtF l true l.length c:=by
  cases b with
  | true=>exact Int.le_refl _
  | false=>exact zZ2 hd _ c
 have h2:wtF l true l.length c≤64:=h c
 have:=zZ1 (l:=l) (b:=b) l.length c (by omega)
 unfold fu
 omega
end Go.M
namespace Go.M
open Go.AV
section
variable {n:Norm} (hd:DS n.Decomp) (hl:n.Decomp.length≤2000) (H:∀m∈n.Decomp,WW n.Decomp m.From)
include hd hl H
structure MeX (l:List Mapping) (m:List (Int×Int)) (lo:Bool):Prop where
 val:∀k v,mget m k=some v→v= -1∨v=wt l true k
 lof:lo=false→∀k v,mget m k=some v→v≠ -1→v≤64
 lot:lo=true→∃x∈l,64 < wt l true x.From
end
theorem z2H {l:List Mapping} (hd:DS l) (H:∀m∈l,WW l m.From) (h:∀m∈l,wt l true m.From≤64) (c:Int):wt l true c≤64:=by
 cases hf:l.find? (isF c) with
 | some m=>obtain ⟨h1,rfl⟩:=zCZ hf;exact h m h1
 | none=>
  rw [z3Z (zXO hd H) c,zF6 hf]
  have:=zRZ c
  simp only [];omega
end Go.M
namespace Go.M
open Go.AV
set_option linter.unusedSimpArgs false
set_option linter.unusedVariables false
end Go.M
namespace Go.M
open Go.AV
set_option linter.unusedSimpArgs false
set_option linter.unusedVariables false
section
variable (key:Int→Int)
def Flt (a b:List Int):Prop:=a.Perm b∧∀k,a.filter (fun x=>decide (key x=k))=b.filter (fun x=>decide (key x=k))
end
section
variable {key:Int→Int}
theorem Flt.refl (a:List Int):Flt key a a:=⟨.refl _,fun _=>rfl⟩
theorem Flt.trans {a b c:List Int} (h:Flt key a b) (k:Flt key b c):Flt key a c:=⟨h.1.trans k.1,fun q=>(h.2 q).trans (k.2 q)⟩
theorem Flt.symm {a b:List Int} (h:Flt key a b):Flt key b a:=⟨h.1.symm,fun q=>(h.2 q).symm⟩
theorem Flt.app {a b c d:List Int} (h:Flt key a b) (k:Flt key c d):Flt key (a++c) (b++d):=⟨h.1.append k.1,fun q=>by rw [List.filter_append,List.filter_append,h.2 q,k.2 q]⟩
theorem Flt.mem {a b:List Int} (h:Flt key a b) {x:Int}:x∈a↔x∈b:=h.1.mem_iff
theorem Flt.len {a b:List Int} (h:Flt key a b):a.length=b.length:=h.1.length_eq
end
end Go.M
namespace Go.M
open Go.AV
set_option linter.unusedSimpArgs false
set_option linter.unusedVariables false
end Go.M
namespace Go.M
open Go.AV
set_option linter.unusedSimpArgs false
set_option linter.unusedVariables false
end Go.M
namespace Go.M
open Go.AV
set_option linter.unusedSimpArgs false
set_option linter.unusedVariables false
end Go.M


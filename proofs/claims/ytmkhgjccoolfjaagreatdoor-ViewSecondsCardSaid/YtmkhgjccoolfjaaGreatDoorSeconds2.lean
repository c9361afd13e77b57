/- Part 2. -/
import Derived.Test.YtmkhgjccoolfjaaGreatDoorSeconds1
import Derived.Lib.Builder
import Derived.Lib.AppendStr
import Derived.Laws.Externs
import Derived.KernelRfl
import Derived.Lib.ItoaNum
import Derived.Shelf.Strings.Builder1
import Derived.Shelf.Strings.Builder2
import Derived.Shelf.Strings.Trim
import Derived.Shelf.Small.Utf8
import Derived.Shelf.Small.Strs
import Derived.Shelf.Small.Wraps
import Derived.Shelf.Strings.BuilderF
import Derived.Shelf.Strings.BuilderK
import Derived.Shelf.Strings.Builder2Cap
import Derived.Shelf.Strconv.Atoi
import Derived.Shelf.Strconv.Itoa0
import Derived.Shelf.Strconv.Itoa1
import Derived.Shelf.LaysM
import Derived.Shelf.Strconv.Itoa2
import Derived.Shelf.Strconv.Itoa3
import Derived.Shelf.Strconv.AtoiErrFast
import Derived.Shelf.Strconv.ParseIntEmpty
import Derived.Shelf.Strconv.AtoiFail
import Derived.Shelf.Strconv.Clone
import Derived.Shelf.Strconv.SyntaxError
import Derived.Shelf.LaysC
import Derived.Shelf.Strconv.ToError
import Derived.Shelf.Strconv.AtoiErr
import Derived.Shelf.Strconv.ErrVar
import Derived.Shelf.Strconv.Lower
import Derived.Shelf.Strconv.ParseUint10
import Derived.Shelf.Strconv.ParseUint10Empty
import Derived.Shelf.Strconv.ParseUint10Any
import Derived.Shelf.Strconv.ParseInt10
import Derived.Shelf.Strconv.AtoiLong
import Derived.Shelf.Strconv.AtoiInnerAll
import Derived.Shelf.Strconv.RangeError
import Derived.Shelf.Strconv.ToErrorRange
import Derived.Shelf.Strconv.AtoiAll
import Derived.Shelf.Strconv.ErrVarAll
import Derived.Shelf.Strconv.ParseUintEmpty
import Derived.Shelf.Strconv.ParseUint10b64
import Derived.Shelf.Strconv.ParseUint10b32
import Derived.Shelf.Strconv.ParseUint10b16
import Derived.Shelf.Strconv.ParseUint10b8
import Derived.Shelf.Strconv.ParseUint10At
import Derived.Shelf.Strconv.ParseInt10At64
import Derived.Shelf.Strconv.ParseInt10At32
import Derived.Shelf.Strconv.ParseInt10At16
import Derived.Shelf.Strconv.ParseInt10At8
import Derived.Shelf.Strconv.ParseInt10All
import Derived.Shelf.Strings.Search1
import Derived.Shelf.Strings.Search2
import Derived.Shelf.Strings.Cut
import Derived.Shelf.Strings.Shaped
import Derived.Shelf.Strings.Prefix
import Derived.Shelf.Unicode.Decode
import Derived.Shelf.Strings.Runes
import Derived.Shelf.Strings.AsciiSet
import Derived.Shelf.Bits.Mul64
import Derived.Shelf.Strings.Repeat
import Derived.Shelf.Unicode.DecodeSlow
import Derived.Shelf.Unicode.DecodeAny
import Derived.Shelf.Unicode.DecodeLast
import Derived.Shelf.Strings.BuilderCap
import Derived.Test.YtmkhgjccoolfjaaGreatDoorProg
set_option linter.unusedSimpArgs false
set_option linter.unusedVariables false
set_option maxRecDepth 100000
set_option maxHeartbeats 8000000
section
namespace Go.Proofs.YtmkhgjccoolfjaaGreatDoor
open Go Go.RowKit Tryz
variable {S : Nat → Prop} {w w' : World} {va vb v z u : Value} {x y : Operand} {s i g b m c a B : Nat} {F ρ' : Fr} {Q : G8} {l : List Nat} {T t t2 : TypeId} {old : List Value} {agg : Bool}
abbrev zl (z : Int) : Nat:=dl z.natAbs
theorem bu8 (a b : Int) : zl (a + b) ≤ max (zl a) (zl b) + 1:=by
 refine Nat.le_trans (I6 (b:=a.natAbs + b.natAbs) (by omega)) (d61 _ _)
theorem d11 (a : Int) : zl (-a) = zl a:=by unfold zl; rw [Int.natAbs_neg]
theorem X7 (a b : Int) : zl (a * b) ≤ zl a + zl b:=by unfold zl; rw [Int.natAbs_mul]; exact al1 _ _
theorem bh4 (a b : Int) : a * b < 0 ↔ (¬ (a < 0 ↔ b < 0)) ∧ 0 < a.natAbs * b.natAbs:=by
 rcases Int.lt_trichotomy a 0 with h1 | h1 | h1 <;> rcases Int.lt_trichotomy b 0 with h2 | h2 | h2
 ·have:=Int.mul_pos_of_neg_of_neg h1 h2
  constructor
  ·intro h; omega
  rintro ⟨h,_⟩; exact absurd ⟨fun _=>h2,fun _=>h1⟩ h
 ·subst h2; simp
 ·have:=Int.mul_neg_of_neg_of_pos h1 h2
  have h3 : 0 < a.natAbs * b.natAbs:=Nat.mul_pos (by omega) (by omega)
  exact ⟨fun _=>⟨fun h=>by have:=h.1 h1; omega,h3⟩,fun _=>this⟩
 ·subst h1; simp
 ·subst h1; simp
 ·subst h1; simp
 ·have:=Int.mul_neg_of_pos_of_neg h1 h2
  have h3 : 0 < a.natAbs * b.natAbs:=Nat.mul_pos (by omega) (by omega)
  exact ⟨fun _=>⟨fun h=>by have:=h.2 h2; omega,h3⟩,fun _=>this⟩
 ·subst h2; simp
 have:=Int.mul_pos h1 h2
 constructor
 ·intro h; omega
 rintro ⟨h,_⟩; exact absurd ⟨fun x=>by omega,fun x=>by omega⟩ h
theorem bj5 {a b : Int} (hS : Up S w) (ha : IntV S 227 .u32 w va a) (hb : IntV S 227 .u32 w vb b) (hla : zl a ≤ 1099511627000) (hlb : zl b ≤ 1099511627000) :
  Gives prog 144 [va,vb] w fun v' w'=>Ext w w' ∧ IntV S 227 .u32 w' v' (a * b):=by
 obtain ⟨ma,rfl,ha⟩:=ha
 obtain ⟨mb,rfl,hb⟩:=hb
 refine l6 func144 rfl rfl rfl ?_
 repeat refine wW ?_
 refine s6 (cs:=[.bool (tst (a < 0)),ma]) rfl ?_
 intro w1 ga k1 hga hgsa
 skip
 refine s6 (cs:=[.bool (tst (b < 0)),mb]) rfl ?_
 intro w2 gb k2 hgb hgsb
 skip
 refine q9 (cs:=[.bool false,.slice none 0 0]) rfl ?_
 intro w3 g k3 hg hgs
 replace hga:=hga.to (k2.trans k3)
 replace hgb:=hgb.to k3
 have k:=(k1.trans k2).trans k3
 have hs:=(k1.trans k2).size
 replace ha:=ha.to k
 replace hb:=hb.to k
 replace hS:=hS.to k
 clear k1 k2 k3
 repeat refine wW ?_
 refine s7 11 ?_
 apply a7
 ·intro x w1 k1 hd
  refine j4 rfl ?_
  refine b7 ?_
  exact i6
 apply a7
 ·intro x w1 k1 hd
  refine d7 rfl (hga.to k1) rfl ?_
  refine b7 ?_
  exact i6
 apply a7
 ·intro x w1 k1 hd
  refine j4 rfl ?_
  refine b7 ?_
  exact i6
 apply a7
 ·intro x w1 k1 hd
  refine d7 rfl (hgb.to k1) rfl ?_
  refine b7 ?_
  exact i6
 apply a7
 ·intro x w1 k1 hd
  refine bw6 rfl rfl ?_
  refine b7 ?_
  exact i6
 apply a7
 ·intro x w1 k1 hd
  refine j4 rfl ?_
  refine b7 ?_
  exact i6
 apply a7
 ·intro x w1 k1 hd
  refine d7 rfl (hga.to k1) rfl ?_
  refine b7 ?_
  exact i6
 apply a7
 ·intro x w1 k1 hd
  refine j4 rfl ?_
  refine b7 ?_
  exact i6
 apply a7
 ·intro x w1 k1 hd
  refine d7 rfl (hgb.to k1) rfl ?_
  refine b7 ?_
  exact i6
 refine a7 (e:=as1 S 227 .u32 (a.natAbs * b.natAbs)) ?_ ?_
 ·intro x w1 k1 hd
  refine d9 (ap2 (hS.to k1) (ha.to k1) (hb.to k1) (by unfold zl at hla; omega) (by unfold zl at hlb; omega)) rfl ?_
  rintro v2 w2 ⟨k2,h2⟩
  exact b7 (y7 k2 h2)
 refine a7 (e:=ba4 S 227 .u32 (a * b)) ?_ ?_
 ·intro x w1 k1 hd
  refine d9 (Z6 (a * b) hd.1 (Int.natAbs_mul ..) (bh4 a b)) rfl ?_
  rintro v2 w2 ⟨k2,h2⟩
  exact b7 (y7 k2 h2)
 refine F5 (G7 ?_)
 intro x w5 k5 hall
 obtain ⟨m5,hv5,h5⟩:=hall.1
 refine A5 rfl hv5 (hg.to k5) rfl h5.one ?_
 intro w6 k6 hg6
 repeat refine wW ?_
 refine R9 rfl (n8 hg6 rfl) ⟨Keeps.past (k.trans k5) k6 (by omega),m5,rfl,h5.wrT k6 (hg.to k5) (by decide)⟩
theorem ds0 {z : Int} (hS : Up S w) (h0 : -9223372036854775808 ≤ z) (h1 : z ≤ 9223372036854775807) :
  Gives prog 119 [.int .i64 z] w fun v' w'=>Ext w w' ∧ IntV S 227 .u32 w' v' z:=by
 refine l6 func119 rfl rfl rfl ?_
 repeat refine wW ?_
 refine q9 (cs:=[.bool false,.slice none 0 0]) rfl ?_
 intro w1 g k1 hg hgs
 repeat (first | refine wW ?_ | refine b8 ?_ | refine N4 rfl rfl ?_)
 try refine d8 ?_
 refine j3 rfl ?_ ?_ <;> intro hc
 ·repeat refine wW ?_
  refine R3 rfl (show IntKind.u64.wrap z = z + 18446744073709551616 by simp [IntKind.wrap,IntKind.signed,IntKind.bits]; omega) ?_
  refine d46 rfl (show IntKind.u64.wrap (-(z + 18446744073709551616)) = ((z.natAbs : Nat) : Int) by simp [IntKind.wrap,IntKind.signed,IntKind.bits]; omega) ?_
  refine d9 (ct1 (m:=z.natAbs) (hS.to k1) (by omega)) rfl ?_
  rintro v2 w2 ⟨k2,h2⟩
  refine an1 (by conv=>(lhs; whnf)) (by conv=>(lhs; whnf)) rfl h2.one ?_
  refine A5 rfl (by conv=>(lhs; whnf)) (hg.to k2) rfl h2.one ?_
  intro w3 k3 hg3
  repeat (first | refine wW ?_ | refine r4 ?_)
  refine R9 rfl (n8 hg3 rfl) ⟨Keeps.past (k1.trans k2) k3 hgs,v2,?_,h2.wrT k3 (hg.to k2) (by decide)⟩
  rw [j6 hc]
 obtain ⟨n,rfl⟩:=Int.eq_ofNat_of_zero_le (show 0 ≤ z by omega)
 repeat (first | refine wW ?_ | refine wp_skip ?_ | refine R3 rfl (at5 (by omega) (by omega)) ?_)
 refine d9 (ct1 (m:=n) (hS.to k1) (by omega)) rfl ?_
 rintro v2 w2 ⟨k2,h2⟩
 refine an1 (by conv=>(lhs; whnf)) (by conv=>(lhs; whnf)) rfl h2.one ?_
 refine A5 rfl (by conv=>(lhs; whnf)) (hg.to k2) rfl h2.one ?_
 intro w3 k3 hg3
 repeat refine wW ?_
 refine R9 rfl (n8 hg3 rfl) ⟨Keeps.past (k1.trans k2) k3 hgs,v2,?_,h2.wrT k3 (hg.to k2) (by decide)⟩
 rw [j2 hc]
structure EntR (R : World → World → Prop) where
 X : Option Value
 p : Value → World → Prop
 keep : ∀ v w w',p v w → R w w' → p v w'
 hX : ∀ v w Y,p v w → X = some Y → v = Y
 hY : ∀ Y w,X = some Y → p Y w
def EntR.eq {R : World → World → Prop} (Y : Value) : EntR R:=⟨some Y,fun v _=>v = Y,fun _ _ _ h _=>h,fun v w Z h hZ=>by simp at hZ; rw [← hZ]; exact h,fun Z w hZ=>by simp at hZ; exact hZ.symm⟩
def EntR.of {R : World → World → Prop} (p : Value → World → Prop) (h : ∀ v w w',p v w → R w w' → p v w') : EntR R:=⟨none,p,h,fun v w Y _ h=>by simp at h,fun Y w h=>by simp at h⟩
abbrev a07 (R : World → World → Prop):=List (Nat × Option Tmp × EntR R)
def be3 {R : World → World → Prop} (ρ : Fr) (x : Nat → Value) : a07 R → Fr
 | []=>ρ
 | (i,d,e) :: r=>ar1 (be3 ρ x r) d (e.X.getD (x i))
def a81 {R : World → World → Prop} (x : Nat → Value) (w : World) (es : List Edge) : a07 R → Prop
 | []=>True
 | (i,_,e) :: r=>(bif E9 es i then e.p (e.X.getD (x i)) w else True) ∧ a81 x w es r
def b85 {R : World → World → Prop} (x : Nat → Value) (w : World) : a07 R → Prop
 | []=>True
 | (i,_,e) :: r=>e.p (e.X.getD (x i)) w ∧ b85 x w r
def vv (ρ : Fr) : Option Tmp → Value | some t=>ρ t | none=>undef
def cb7 {R : World → World → Prop} (w : World) (d : Option Tmp) (e : EntR R) : G8:=fun ex ρ' w'=>ex = .normal ∧ R w w' ∧ e.p (vv ρ' d) w'
def c03 {R : World → World → Prop} (P : Program) (n : Nat) (all : List Oper) (ρ : Fr) (w : World) (K : a07 R → Prop) : a07 R → Nat → List Oper → Prop
 | acc,_,[]=>K acc
 | acc,i,o :: r=>∃ e : EntR R,(∀ x w',R w w' → a81 x w' o.after.toList acc → WpR P n all (cb7 w' o.dst e) [o] (be3 ρ x acc) w') ∧ c03 P n all ρ w K ((i,o.dst,e) :: acc) (i + 1) r
def a38 : List (Nat × Option Tmp) → Nat → List Oper → Bool
 | _,_,[]=>true
 | done,i,o :: r=>
  (match o.dst with | some d=>done.all (fun p=>p.2 != some d) | none=>true) &&
  (match o.op with | .select ..=>false | _=>true) &&
  o.after.toList.all (fun e=>!Region.binds .any e || Nat.blt e.on i) &&
  done.all (fun p=>E9 o.after.toList p.1 || match p.2 with | some d=>!(L9 o).contains d && (match o.guard with | some (g,_)=>g != p.1 | none=>true) | none=>true) &&
  (match o.guard with | some (g,_)=>Nat.blt g i | none=>true) &&
  (r.all fun o'=>match o.dst with | some d=>!(L9 o).contains d | none=>true) &&
  a38 ((i,o.dst) :: done) (i + 1) r
def cp3 (l : List Oper) (t : Nat) : Bool:=
 a38 [] 0 (l.take t) && a74 (l.take t) && Nat.blt t l.length && Region.sinkB .any l.toArray t && Region.chainB .any l.toArray t && Region.seqB .any l.toArray (l.length - t) t (B7 t l.length)
section
variable {R : World → World → Prop} {P : Program} {n : Nat} {all : List Oper} {ρ : Fr} {w : World} {K : a07 R → Prop}
abbrev fb5 (R : World → World → Prop):=Nat × Option Tmp × EntR R
def ObR (P : Program) (n : Nat) (all : List Oper) (ρ : Fr) (w : World) (o : Oper) (acc : a07 R) (e : EntR R) : Prop:=
 ∀ x w',R w w' → a81 x w' o.after.toList acc → WpR P n all (cb7 w' o.dst e) [o] (be3 ρ x acc) w'
theorem cy1 : ∀ (r : List Oper) (acc : a07 R) (i : Nat),c03 P n all ρ w K acc i r →
  ∃ L : List (fb5 R),L.length = r.length ∧ K (L.reverse ++ acc) ∧ ∀ k (hk : k < r.length),∃ e,L[k]? = some (i + k,r[k].dst,e) ∧ ObR P n all ρ w r[k] ((L.take k).reverse ++ acc) e:=by
 intro r
 induction r with
 | nil=>intro acc i h; exact ⟨[],rfl,h,fun k hk=>absurd hk (by simp)⟩
 | cons o r ih=>
  rintro acc i ⟨e,ho,hr⟩
  obtain ⟨L,hl,hK,hL⟩:=ih _ _ hr
  refine ⟨(i,o.dst,e) :: L,by simp [hl],by simpa using hK,fun k hk=>?_⟩
  cases k with
  | zero=>exact ⟨e,rfl,ho⟩
  | succ k=>
   obtain ⟨e',h1,h2⟩:=hL k (by simpa using hk)
   refine ⟨e',?_,?_⟩
   ·simp only [List.getElem?_cons_succ,h1,List.getElem_cons_succ]
    rw [show i + 1 + k = i + (k + 1) by omega]
   simpa using h2
structure HOkR (done : List (Nat × Option Tmp)) (i : Nat) (o : Oper) : Prop where
 dst : ∀ d,o.dst = some d → ∀ p ∈ done,p.2 ≠ some d
 sel : ∀ cs b,o.op ≠ .select cs b
 low : ∀ e ∈ o.after,Region.binds .any e = true → e.on < i
 deps : ∀ p ∈ done,∀ d,p.2 = some d → E9 o.after.toList p.1 = true ∨ (d ∉ L9 o ∧ ∀ g b,o.guard = some (g,b) → g ≠ p.1)
 guard : ∀ g b,o.guard = some (g,b) → g < i
theorem a31 : ∀ (r : List Oper) (done : List (Nat × Option Tmp)) (i : Nat),a38 done i r = true → ∀ k (hk : k < r.length),
  HOkR (((List.range k).map fun j=>(i + j,(r[j]?.bind (·.dst)))).reverse ++ done) (i + k) r[k]:=by
 intro r
 induction r with
 | nil=>intro done i h k hk; exact absurd hk (by simp)
 | cons o r ih=>
  intro done i h k hk
  simp only [a38,Bool.and_eq_true] at h
  obtain ⟨⟨⟨⟨⟨⟨h1,h2⟩,h3⟩,h4⟩,h5⟩,h6⟩,h7⟩:=h
  cases k with
  | zero=>
   simp only [List.range_zero,List.map_nil,List.reverse_nil,List.nil_append,Nat.add_zero,List.getElem_cons_zero]
   refine ⟨?_,?_,?_,?_,?_⟩
   ·intro d hd p hp
    rw [hd] at h1
    have:=List.all_eq_true.1 h1 p hp
    simpa using this
   ·intro cs b e
    rw [e] at h2
    cases h2
   ·intro e he hb
    have:=List.all_eq_true.1 h3 e (Array.mem_toList_iff.2 he)
    simp only [hb,Bool.not_true,Bool.false_or] at this
    exact Nat.le_of_ble_eq_true this
   ·intro p hp d hd
    have:=List.all_eq_true.1 h4 p hp
    simp only [Bool.or_eq_true,hd,Bool.and_eq_true] at this
    rcases this with h | ⟨ha,hb⟩
    ·exact .inl h
    refine .inr ⟨by simpa using ha,fun g b hg=>?_⟩
    rw [hg] at hb
    simpa using hb
   intro g b hg
   rw [hg] at h5
   exact Nat.le_of_ble_eq_true h5
  | succ k=>
   have:=ih _ _ h7 k (by simpa using hk)
   have e1 : ((List.range (k + 1)).map fun j=>(i + j,((o :: r)[j]?.bind (·.dst)))).reverse ++ done = ((List.range k).map fun j=>(i + 1 + j,(r[j]?.bind (·.dst)))).reverse ++ ((i,o.dst) :: done):=by
    rw [List.range_succ_eq_map]
    simp only [List.map_cons,List.map_map,List.reverse_cons,List.append_assoc,List.cons_append,List.nil_append,List.getElem?_cons_zero,Option.bind_some,Nat.add_zero]
    congr 2
    refine List.map_congr_left fun j _=>?_
    simp only [Function.comp,List.getElem?_cons_succ]
    rw [show i + (j + 1) = i + 1 + j by omega]
   rw [e1,show i + (k + 1) = i + 1 + k by omega]
   simpa using this
theorem bh0 {x : Nat → Value} : ∀ {acc : a07 R},(∀ p ∈ acc,p.2.1 ≠ some s) → be3 ρ x acc s = ρ s:=by
 intro acc
 induction acc with
 | nil=>intro _; rfl
 | cons a r ih=>
  intro h
  obtain ⟨i,d,e⟩:=a
  have h1:=h _ (List.mem_cons_self ..)
  have h2:=ih fun p hp=>h p (List.mem_cons_of_mem _ hp)
  cases d with
  | none=>exact h2
  | some d=>
   show upd _ d _ s = _
   rw [Q6,h2]
   cases hb : Nat.beq s d with
   | false=>rfl
   | true=>exact absurd (congrArg some (Nat.eq_of_beq_eq_true hb).symm) h1
theorem cm6 {x : Nat → Value} {e : EntR R} : ∀ {acc : a07 R},(i,some s,e) ∈ acc → (∀ p ∈ acc,p.2.1 = some s → p = (i,some s,e)) → be3 ρ x acc s = e.X.getD (x i):=by
 intro acc
 induction acc with
 | nil=>intro h; cases h
 | cons a r ih=>
  intro h hu
  obtain ⟨j,d,e'⟩:=a
  by_cases hd : d = some s
  ·have:=hu _ (List.mem_cons_self ..) hd
   simp only [Prod.mk.injEq] at this
   obtain ⟨rfl,rfl,rfl⟩:=this
   exact A8 _ _ _
  have hm : (i,some s,e) ∈ r:=by
   rcases List.mem_cons.1 h with h | h
   ·simp only [Prod.mk.injEq] at h; exact absurd h.2.1.symm hd
   exact h
  have h2:=ih hm fun p hp=>hu p (List.mem_cons_of_mem _ hp)
  cases d with
  | none=>exact h2
  | some d=>
   show upd _ d _ s = _
   rw [Q6,h2]
   cases hb : Nat.beq s d with
   | false=>rfl
   | true=>exact absurd (congrArg some (Nat.eq_of_beq_eq_true hb).symm) hd
theorem cw8 {x : Nat → Value} {es : List Edge} : ∀ {acc : a07 R},(∀ p ∈ acc,E9 es p.1 = true → p.2.2.p (p.2.2.X.getD (x p.1)) w') → a81 x w' es acc:=by
 intro acc
 induction acc with
 | nil=>intro _; trivial
 | cons a r ih=>
  intro h
  obtain ⟨i,d,e⟩:=a
  refine ⟨?_,ih fun p hp=>h p (List.mem_cons_of_mem _ hp)⟩
  cases hb : E9 es i with
  | false=>trivial
  | true=>exact h _ (List.mem_cons_self ..) hb
theorem dd1 {x : Nat → Value} : ∀ {acc : a07 R},(∀ p ∈ acc,p.2.2.p (p.2.2.X.getD (x p.1)) w') → b85 x w' acc:=by
 intro acc
 induction acc with
 | nil=>intro _; trivial
 | cons a r ih=>
  intro h
  obtain ⟨i,d,e⟩:=a
  exact ⟨h _ (List.mem_cons_self ..),ih fun p hp=>h p (List.mem_cons_of_mem _ hp)⟩
theorem ds5 {D : List Deferred} {all : List Oper} {o : Oper} {e : EntR R} {a : Act} {K : Act → World → Prop} {Q : Exit → Act → World → Prop}
  (hi : all[i]? = some o) (hok : aa5 n o = true) (hsel : ∀ cs b,o.op ≠ .select cs b) (hF : ∀ k,n ≤ k → F k = undef) (hm : Mt n D a ρ')
  (heq : ∀ s ∈ L9 o,F s = ρ' s) (hg : ∀ g b,o.guard = some (g,b) → ∀ s,H4 all g = some s → F s = ρ' s)
  (h : WpR P n all (cb7 w' o.dst e) [o] F w') (hK : ∀ v w2,R w' w2 → e.p (vv (ar1 ρ' o.dst v) o.dst) w2 → K (a.put o.dst v) w2) : wpOp P all.toArray Q i K a w':=by
 have hm2:=b32 (D:=D) hF
 unfold WpR at h
 have h2:=h (by simp [hok]) _ _ hm2
 have hev : execOp a.eval o = execOp (P8 n D F).eval o:=by
  refine execOp_congr o hsel fun x hx=>?_
  cases x with
  | tmp s=>
   show a.tmps.getD s undef = (P8 n D F).tmps.getD s undef
   rw [hm.get,hm2.get]
   refine (heq s ?_).symm
   exact List.mem_filterMap.2 ⟨.tmp s,Array.mem_toList_iff.2 hx,rfl⟩
  | _=>rfl
 have hw : Region.wanted o (yielded all.toArray a.tmps) = Region.wanted o (yielded all.toArray (P8 n D F).tmps):=by
  unfold Region.wanted
  cases hgd : o.guard with
  | none=>rfl
  | some gb=>
   obtain ⟨g,b⟩:=gb
   have hy : yielded all.toArray a.tmps g = yielded all.toArray (P8 n D F).tmps g:=by
    unfold yielded
    cases hs : H4 all g with
    | none=>
     have : ((all.toArray)[g]?).bind (·.dst) = none:=by simpa [H4] using hs
     rw [this]; rfl
    | some s=>
     have : ((all.toArray)[g]?).bind (·.dst) = some s:=by simpa [H4] using hs
     rw [this]
     have h3 : a.tmps.getD s undef = (P8 n D F).tmps.getD s undef:=by rw [hm.get,hm2.get]; exact (hg g b hgd s hs).symm
     have s1:=hm.size
     have s2:=hm2.size
     by_cases hlt : s < n
     ·have l1 : s < a.tmps.size:=by omega
      have l2 : s < (P8 n D F).tmps.size:=by omega
      simp only [Array.getD,l1,l2,dite_true] at h3
      have h4 : a.tmps[s] = (P8 n D F).tmps[s]:=h3
      simp only [Option.bind_some,Array.getElem?_eq_getElem l1,Array.getElem?_eq_getElem l2,h4]
     have l1 : a.tmps.size ≤ s:=by omega
     have l2 : (P8 n D F).tmps.size ≤ s:=by omega
     simp only [Option.bind_some,Array.getElem?_eq_none l1,Array.getElem?_eq_none l2]
   simp only [hy]
 have hpost : ∀ v w2,bo5 n D (cb7 w' o.dst e) .normal ((P8 n D F).put o.dst v) w2 → R w' w2 ∧ e.p (vv (ar1 ρ' o.dst v) o.dst) w2:=by
  rintro v w2 ⟨ρ2,hm3,_,hx,hp⟩
  refine ⟨hx,?_⟩
  cases hdst : o.dst with
  | none=>rw [hdst] at hp; exact hp
  | some d=>
   have hdn : Nat.blt d n = true:=by unfold aa5 at hok; rw [hdst] at hok; exact hok
   have h3:=(hm2.put hdn v).get d
   rw [A8] at h3
   have h4:=hm3.get d
   rw [hdst,h3] at h4
   rw [hdst] at hp
   show e.p (upd ρ' d v d) w2
   rw [A8,h4]
   exact hp
 have hio : (all.toArray)[i]? = some o:=by simpa using hi
 have hnl : ¬ LetsOut (bo5 n D (cb7 w' o.dst e)):=by
  rintro ⟨a0,w0,ρ0,_,h0,_⟩
  cases h0
 unfold wpOp
 simp only [hio,hw]
 unfold wpList at h2
 cases hwd : Region.wanted o (yielded all.toArray (P8 n D F).tmps) with
 | true=>
  simp only [hwd,if_true] at h2 ⊢
  rcases h2 with h2 | ⟨_,h2⟩
  ·left
   unfold Oper.wp at h2 ⊢
   rw [hev]
   refine bu2 (fun v w2 hk=>?_) (fun dd v w2 hk=>?_) (fun c a0 w0 hc=>?_) hnl h2
   ·obtain ⟨h5,h6⟩:=hpost v w2 hk
    exact hK v w2 h5 h6
   ·obtain ⟨ρ2,hm3,_⟩:=hk
    have:=hm3.defers
    have h9 : (P8 n D F).defers = D:=rfl
    cases hdd : o.dst <;> simp [hdd,Act.put,h9] at this
   obtain ⟨ρ0,_,h0,_⟩:=hc
   cases h0
  exact (hnl h2).elim
 | false=>
  simp only [hwd,Bool.false_eq_true,if_false] at h2 ⊢
  obtain ⟨h5,h6⟩:=hpost undef w' h2
  exact hK undef w' h5 h6
theorem ba8 {id : Nat} {l : List Oper} (t : Nat) (hRt : ∀ {a b c : World},R a b → R b c → R a c) (hRd : ∀ w : World,R w { w with drawn:=w.drawn + 1 }) (hmo : P.follows .mixedOrders = true) (hchk : cp3 l t = true)
  (h : c03 P n l ρ w (fun (acc : a07 R)=>∀ x w',R w w' → b85 x w' acc → WpR P n l Q (l.drop t) (be3 ρ x acc) w') [] 0 (l.take t)) : Wp P n (.region id l.toArray true) Q ρ w:=by
 simp only [cp3,Bool.and_eq_true] at hchk
 obtain ⟨⟨⟨⟨⟨c1,c2⟩,c3⟩,c4⟩,c5⟩,c6⟩:=hchk
 have htl : t < l.length:=Nat.le_of_ble_eq_true c3
 have htk : (l.take t).length = t:=by rw [List.length_take]; omega
 obtain ⟨L,hL,hK,hO⟩:=cy1 _ _ _ h
 rw [htk] at hL
 simp only [List.append_nil] at hK hO
 have hget : ∀ k (hk : k < t),(l.take t)[k]'(by omega) = l[k]:=fun k hk=>by simp
 have hHd0:=a31 _ _ _ c1
 have hHd : ∀ k (hk : k < t),HOkR (((List.range k).map fun j=>(0 + j,((l.take t)[j]?.bind (·.dst)))).reverse ++ []) (0 + k) ((l.take t)[k]'(by omega)):=fun k hk=>hHd0 k (by omega)
 have hLt:=ar6 _ c2
 unfold Wp
 intro hc D act hmt
 simp only [O5,List.all_eq_true] at hc
 refine wp_region_any hmo ?_
 have hw1 : R w { w with drawn:=w.drawn + 1 }:=hRd w
 have hsz : l.toArray.size = t + (l.length - t):=by simp; omega
 have hund : ∀ i,n ≤ i → ρ i = undef:=fun i hi=>by rw [← hmt.get i]; simp [Array.getD,hmt.size]; omega
 have hds : ∀ k (hk : k < t),∃ e : EntR R,L[k]? = some (k,l[k].dst,e) ∧ aa5 n l[k] = true ∧ ObR P n l ρ w l[k] ((L.take k).reverse) e:=by
  intro k hk
  obtain ⟨e,h1,h2⟩:=hO k (by omega)
  rw [Nat.zero_add] at h1
  rw [hget k hk] at h1 h2
  exact ⟨e,by simpa using h1,hc l[k] (by simp),h2⟩
 have hapart : ∀ j k (hj : j < t) (hk : k < t) d,j < k → l[j].dst = some d → l[k].dst ≠ some d:=by
  intro j k hj hk d hjk hd hd2
  refine (hHd k hk).dst d (by rw [hget k hk]; exact hd2) (0 + j,((l.take t)[j]?.bind (·.dst))) ?_ ?_
  ·refine List.mem_append_left _ (List.mem_reverse.2 (List.mem_map.2 ⟨j,List.mem_range.2 hjk,rfl⟩))
  rw [List.getElem?_eq_getElem (by omega)]
  simp only [Option.bind_some,hget j hj,hd]
 have huniq : ∀ j k (hj : j < t) (hk : k < t) d,l[j].dst = some d → l[k].dst = some d → j = k:=by
  intro j k hj hk d h1 h2
  rcases Nat.lt_trichotomy j k with h | h | h
  ·exact absurd h2 (hapart j k hj hk d h h1)
  ·exact h
  exact absurd h1 (hapart k j hk hj d h h2)
 have hmem : ∀ m,m ≤ t → ∀ p ∈ (L.take m).reverse,∃ k,∃ hk : k < t,k < m ∧ p.1 = k ∧ p.2.1 = l[k].dst ∧ L[k]? = some p:=by
  intro m hm p hp
  rw [List.mem_reverse] at hp
  obtain ⟨k,hk,hpk⟩:=List.mem_iff_getElem.1 hp
  simp only [List.length_take] at hk
  have hkt : k < t:=by omega
  have h1 : L[k]? = some p:=by
   rw [List.getElem_take] at hpk
   rw [← hpk]
   exact List.getElem?_eq_getElem (by omega)
  obtain ⟨e,h2,_⟩:=hds k hkt
  have h4:=h1.symm.trans h2
  simp only [Option.some.injEq] at h4
  exact ⟨k,hkt,by omega,by rw [h4],by rw [h4],h1⟩
 have hin : ∀ m,m ≤ t → ∀ k (hk : k < t),k < m → ∀ q,L[k]? = some q → q ∈ (L.take m).reverse:=by
  intro m hm k hk hkm q hq
  rw [List.mem_reverse]
  refine List.mem_of_getElem? (i:=k) ?_
  rw [List.getElem?_take,if_pos hkm]
  exact hq
 let Inv : Array Bool → Act → World → Prop:=fun listed a w'=>∃ ρ',Mt n D a ρ' ∧ R w w' ∧ (∀ s,(∀ k (hk : k < t),l[k].dst ≠ some s) → ρ' s = ρ s) ∧
  (∀ k,k < t → listed.getD k false = true → ∀ d e,L[k]? = some (k,d,e) → e.p (vv ρ' d) w')
 have fin : ∀ listed a w',HeadInv .any l.toArray t listed → unl listed t = 0 → Inv listed a w' → wpAny P .any l.toArray (bo5 n D Q) (l.length - t) listed a w':=by
  rintro listed a w' inv h0 ⟨ρ',hm',hx,hout,hp⟩
  have hz:=a41 h0
  have hcan : listed = B7 t l.length:=by
   refine Array.ext (by rw [inv.size]; simp [B7]) fun i h1 h2=>?_
   have hsz2:=inv.size
   have hil : i < l.length:=by simpa [hsz2] using h1
   by_cases hit : i < t
   ·have h3:=hz i hit
    simp only [Array.getD,h1,dite_true] at h3
    have h4 : listed[i] = true:=h3
    simp [B7,h4,hit]
   ·have h3:=inv.tail i (by omega) (by simpa using hil)
    simp only [Array.getD,h1,dite_true] at h3
    have h4 : listed[i] = false:=h3
    simp [B7,h4]
    omega
  have hall : ∀ k,k < t → ∀ d e,L[k]? = some (k,d,e) → e.p (vv ρ' d) w':=fun k hk=>hp k hk (hz k hk)
  have hF : be3 ρ (fun k=>match L[k]? with | some (_,d,_)=>vv ρ' d | none=>undef) L.reverse = ρ':=by
   funext s
   by_cases hs : ∃ k,∃ hk : k < t,l[k].dst = some s
   ·obtain ⟨k,hk,hd⟩:=hs
    obtain ⟨e,h1,_⟩:=hds k hk
    rw [hd] at h1
    have hfull : L.take t = L:=List.take_of_length_le (by omega)
    have hi1:=hin t (Nat.le_refl _) k hk hk _ h1
    rw [hfull] at hi1
    rw [cm6 hi1 ?_]
    ·simp only [h1]
     have:=hall k hk (some s) e h1
     cases hX : e.X with
     | none=>rfl
     | some Y=>simp only [Option.getD_some]; exact (e.hX _ _ _ this hX).symm
    intro p hp' hps
    rw [← hfull] at hp'
    obtain ⟨j,hj,_,h3,h4,h5⟩:=hmem t (Nat.le_refl _) p hp'
    rw [hps] at h4
    have:=huniq j k hj hk s h4.symm hd
    subst this
    have:=h5.symm.trans h1
    simpa using this
   have hs' : ∀ k (hk : k < t),l[k].dst ≠ some s:=fun k hk hd=>hs ⟨k,hk,hd⟩
   rw [bh0,hout s hs']
   intro p hp' hps
   have hfull : L.take t = L:=List.take_of_length_le (by omega)
   rw [← hfull] at hp'
   obtain ⟨j,hj,_,h3,h4,h5⟩:=hmem t (Nat.le_refl _) p hp'
   exact hs' j hj (by rw [← h4,hps])
  have hrun:=hK (fun k=>match L[k]? with | some (_,d,_)=>vv ρ' d | none=>undef) w' hx (dd1 fun p hp'=>by
   have hfull : L.take t = L:=List.take_of_length_le (by omega)
   rw [← hfull] at hp'
   obtain ⟨j,hj,_,h3,h4,h5⟩:=hmem t (Nat.le_refl _) p hp'
   obtain ⟨e,h1,_⟩:=hds j hj
   have h6:=h5.symm.trans h1
   simp only [Option.some.injEq] at h6
   subst h6
   simp only [h1]
   have h7:=hall j hj _ e h1
   cases hX : e.X with
   | none=>exact h7
   | some Y=>exact e.hY _ _ hX)
  rw [hF] at hrun
  unfold WpR at hrun
  have hlen : (l.drop t).length = l.length - t:=by simp
  rw [← hlen]
  refine wpAny_of_seq (l.drop t) t listed a w' (fun j=>by simp) ?_ (hrun ?_ _ a hm')
  ·rw [hcan,hlen]; exact c6
  rw [List.all_eq_true]
  intro o ho
  exact hc o (by simpa using List.mem_of_mem_drop ho)
 have key : ∀ f listed a w',HeadInv .any l.toArray t listed → unl listed t = f → Inv listed a w' → wpAny P .any l.toArray (bo5 n D Q) (f + (l.length - t)) listed a w':=by
  intro f
  induction f with
  | zero=>intro listed a w' inv h0 hI; rw [Nat.zero_add]; exact fin listed a w' inv h0 hI
  | succ f ih=>
   intro listed a w' inv hf hI
   rw [show f + 1 + (l.length - t) = (f + (l.length - t)) + 1 by omega]
   obtain ⟨i0,hi0,hl0,hlow⟩:=bb8 (show unl listed t ≠ 0 by omega)
   have hsz2:=inv.size
   have hsz3 : listed.size = l.length:=by simpa using hsz2
   have hr0 : i0 ∈ Region.ready .any l.toArray listed:=by
    rw [mem_ready]
    refine ⟨getD_in (by omega) hl0,l[i0],by simp,fun e he hb=>hlow _ ?_⟩
    have:=(hHd i0 hi0).low e (by rw [hget i0 hi0]; exact he) hb
    omega
   refine ⟨fun he=>absurd (he ▸ hr0) (by simp),fun i hi=>?_⟩
   have hit : i < t:=by
    rcases Nat.lt_or_ge i t with h | h
    ·exact h
    exact absurd hi (tail_waits c4 c5 (by simpa using htl) inv _ i0 rfl hi0 (mem_ready.1 hr0).1 i h)
   obtain ⟨hun,oi,hoi,hdep⟩:=mem_ready.1 hi
   have hoi' : l[i] = oi:=by simpa [hit,show i < l.length by omega] using hoi
   obtain ⟨ρ',hm',hx,hout,hp⟩:=hI
   obtain ⟨e,h1,h3,h4⟩:=hds i hit
   have hH:=hHd i hit
   rw [hget i hit] at hH
   let x : Nat → Value:=fun k=>match L[k]? with | some (_,d,_)=>vv ρ' d | none=>undef
   have hdl : ∀ k,E9 l[i].after.toList k = true → listed.getD k false = true:=by
    intro k hk
    obtain ⟨ed,h5,h6,h7⟩:=ao6 hk
    rw [← h7]
    exact hdep ed (by rw [← hoi']; exact Array.mem_toList_iff.1 h5) h6
   have hdep2 : a81 x w' l[i].after.toList ((L.take i).reverse):=cw8 fun p hp' he=>by
    obtain ⟨j,hj,hji,h5,h6,h7⟩:=hmem i (by omega) p hp'
    obtain ⟨e',h8,_⟩:=hds j hj
    have h10:=h7.symm.trans h8
    simp only [Option.some.injEq] at h10
    subst h10
    have h11:=hp j hj (hdl j he) _ e' h8
    cases hX : e'.X with
    | none=>simp only [x,h8,Option.getD_none]; exact h11
    | some Y=>exact e'.hY _ _ hX
   have hF : ∀ s,(∀ k (hk : k < t),l[k].dst = some s → k < i ∧ listed.getD k false = true) → be3 ρ x ((L.take i).reverse) s = ρ' s:=by
    intro s hs
    by_cases hsx : ∃ k,∃ hk : k < t,l[k].dst = some s
    ·obtain ⟨k,hk,hd⟩:=hsx
     obtain ⟨hki,hkl⟩:=hs k hk hd
     obtain ⟨e',h8,_⟩:=hds k hk
     rw [hd] at h8
     rw [cm6 (hin i (by omega) k hk hki _ h8) ?_]
     ·have h11:=hp k hk hkl (some s) e' h8
      cases hX : e'.X with
      | none=>simp only [x,h8,Option.getD_none,vv]
      | some Y=>simp only [Option.getD_some]; exact (e'.hX _ _ _ h11 hX).symm
     intro p hp' hps
     obtain ⟨j,hj,_,h5,h6,h7⟩:=hmem i (by omega) p hp'
     rw [hps] at h6
     have:=huniq j k hj hk s h6.symm hd
     subst this
     simpa using h7.symm.trans h8
    have hs' : ∀ k (hk : k < t),l[k].dst ≠ some s:=fun k hk hd=>hsx ⟨k,hk,hd⟩
    rw [bh0,hout s hs']
    intro p hp' hps
    obtain ⟨j,hj,_,h5,h6,h7⟩:=hmem i (by omega) p hp'
    exact hs' j hj (by rw [← h6,hps])
   have hoil : l[i]? = some l[i]:=List.getElem?_eq_getElem (by omega)
   have hslot : ∀ k (hk : k < t) s,l[k].dst = some s → s ∈ L9 l[i] → k < i ∧ listed.getD k false = true:=by
    intro k hk s hks hso
    have hki : k < i:=by
     rcases Nat.lt_or_ge k i with h | h
     ·exact h
     have:=hLt i k (by omega) (by omega) h s (by rw [hget k hk]; exact hks)
     rw [hget i hit] at this
     exact absurd hso this
    have h5:=hH.deps (0 + k,((l.take t)[k]?.bind (·.dst))) (List.mem_append_left _ (List.mem_reverse.2 (List.mem_map.2 ⟨k,List.mem_range.2 hki,rfl⟩))) s (by
     rw [List.getElem?_eq_getElem (by omega)]
     simp only [Option.bind_some,hget k hk,hks])
    rcases h5 with h5 | h5
    ·exact ⟨hki,hdl k (by simpa using h5)⟩
    exact absurd hso h5.1
   refine ds5 (o:=l[i]) (e:=e) (ρ':=ρ') (F:=be3 ρ x ((L.take i).reverse)) hoil h3 hH.sel ?_ hm' ?_ ?_ (h4 x w' hx hdep2) ?_
   ·intro k hk
    rw [bh0,hund k hk]
    intro p hp' hps
    obtain ⟨j,hj,_,h5,h6,h7⟩:=hmem i (by omega) p hp'
    obtain ⟨e',h8,h10,_⟩:=hds j hj
    rw [hps] at h6
    unfold aa5 at h10
    rw [← h6] at h10
    have:=Nat.le_of_ble_eq_true h10
    omega
   ·intro s hs
    exact hF s fun k hk hks=>hslot k hk s hks hs
   ·intro g b hgd s hs
    refine hF s fun k hk hks=>?_
    have hgi:=hH.guard g b hgd
    have hgt : g < t:=by omega
    have hgs : l[g].dst = some s:=by
     unfold H4 at hs
     rw [List.getElem?_eq_getElem (by omega)] at hs
     simpa using hs
    obtain rfl:=huniq k g hk hgt s hks hgs
    have h5:=hH.deps (0 + k,((l.take t)[k]?.bind (·.dst))) (List.mem_append_left _ (List.mem_reverse.2 (List.mem_map.2 ⟨k,List.mem_range.2 (by omega),rfl⟩))) s (by
     rw [List.getElem?_eq_getElem (by omega)]
     simp only [Option.bind_some,hget k hk,hks])
    rcases h5 with h5 | h5
    ·exact ⟨by omega,hdl k (by simpa using h5)⟩
    exact absurd (by omega) (h5.2 k b hgd)
   intro v w2 hx2 hev
   refine ih _ _ _ (inv.set hi hit) ?_ ⟨ar1 ρ' l[i].dst v,?_,hRt hx hx2,?_,?_⟩
   ·rw [b00 (by omega) (getD_both hun),if_pos hit]; omega
   ·exact hm'.putO h3 v
   ·intro s hs
    cases hdi : l[i].dst with
    | none=>exact hout s hs
    | some d=>
     show upd ρ' d v s = _
     rw [Q6,hout s hs]
     cases hb : Nat.beq s d with
     | false=>rfl
     | true=>exact absurd (by rw [Nat.eq_of_beq_eq_true hb]; exact hdi) (hs i hit)
   intro k hk hkl d' e' h8
   obtain ⟨e2,h9,_⟩:=hds k hk
   have h11:=h8.symm.trans h9
   simp only [Option.some.injEq,Prod.mk.injEq,true_and] at h11
   obtain ⟨rfl,rfl⟩:=h11
   by_cases hki : i = k
   ·subst hki
    have h12:=h8.symm.trans h1
    simp only [Option.some.injEq,Prod.mk.injEq,true_and] at h12
    subst h12
    exact hev
   rw [getD_set_ne false hki] at hkl
   have hq:=e'.keep _ _ _ (hp k hk hkl _ e' h8) hx2
   cases hdk : l[k].dst with
   | none=>rw [hdk] at hq; exact hq
   | some d'=>
    rw [hdk] at hq
    cases hdi : l[i].dst with
    | none=>exact hq
    | some d=>
     have hne : Nat.beq d' d = false:=by
      cases hb : Nat.beq d' d with
      | false=>rfl
      | true=>
       have:=Nat.eq_of_beq_eq_true hb
       subst this
       exact absurd (huniq k i hk hit d' hdk hdi) (fun e=>hki e.symm)
     show e'.p (upd ρ' d v d') w2
     rw [Q6 hne]
     exact hq
 have hs:=key t (Array.replicate l.toArray.size false) act { w with drawn:=w.drawn + 1 }
  ⟨by simp,fun j oj _ hl=>(by rw [getD_replicate_false] at hl; cases hl),fun k _ hk=>getD_in (by simpa using hk) (getD_replicate_false _ _)⟩
  (bw9 _ _ (by simp; omega)) ⟨ρ,hmt,hw1,fun _ _=>rfl,fun k _ hk=>(by rw [getD_replicate_false] at hk; cases hk)⟩
 rwa [← hsz] at hs
section
variable {R : World → World → Prop} {P : Program} {n : Nat} {all r : List Oper} {ρ : Fr} {w : World} {K : a07 R → Prop} {acc : a07 R} {i : Nat} {o : Oper}
theorem Q8 {e : EntR R} (h1 : ∀ x w',R w w' → a81 x w' o.after.toList acc → WpR P n all (cb7 w' o.dst e) [o] (be3 ρ x acc) w')
  (h2 : c03 P n all ρ w K ((i,o.dst,e) :: acc) (i + 1) r) : c03 P n all ρ w K acc i (o :: r):=⟨e,h1,h2⟩
theorem bu5 (h : K acc) : c03 P n all ρ w K acc i []:=h
theorem ap9 {d : Nat} (hr : R w w) : cb7 w (some d) (EntR.eq (R:=R) v) .normal (upd F d v) w:=⟨rfl,hr,A8 _ _ _⟩
theorem an9 {p : Value → World → Prop} {h : ∀ v w w',p v w → R w w' → p v w'} (hx : R w w') (hp : p undef w') :
  cb7 w none (EntR.of p h) .normal F w':=⟨rfl,hx,hp⟩
theorem bx4 {l : List Oper} (h : ∀ x w',R w w' → b85 x w' acc → WpR P n l Q r (be3 ρ x acc) w') : ∀ x w',R w w' → b85 x w' acc → WpR P n l Q r (be3 ρ x acc) w':=h
end
end
def OneW (g : Nat) (T : TypeId) (old new : List Value) (w w' : World) : Prop:=
 Wrt g w w' ∧ ((Blk w g T old ∨ Blk w g T new) → (Blk w' g T old ∨ Blk w' g T new)) ∧ (Blk w g T new → Blk w' g T new)
theorem OneW.refl {new : List Value} : OneW g T old new w w:=⟨.refl,id,id⟩
theorem OneW.trans {new : List Value} {a b c : World} (h : OneW g T old new a b) (k : OneW g T old new b c) : OneW g T old new a c:=
 ⟨h.1.trans k.1,fun x=>k.2.1 (h.2.1 x),fun x=>k.2.2 (h.2.2 x)⟩
theorem OneW.of {new : List Value} (h : Ext w w') : OneW g T old new w w':=
 ⟨.of h,fun x=>x.imp (fun b=>b.to h) fun b=>b.to h,fun b=>b.to h⟩
theorem OneW.drew {new : List Value} (w : World) : OneW g T old new w { w with drawn:=w.drawn + 1 }:=.of (a44 w)
theorem OneW.wrote {new : List Value} (h : Wrt g w w') (hn : Blk w' g T new) : OneW g T old new w w':=⟨h,fun _=>.inr hn,fun _=>hn⟩
theorem br7 {vm : Value} {n : Nat} (hm : s5 S 227 .u32 w vm n) :
  Gives prog 165 [.bool false,vm] w fun v' w'=>Ext w w' ∧ IntV S 227 .u32 w' v' (n : Int):=by
 have h:=Z6 (p:=False) (n : Int) hm (Int.natAbs_natCast n) ⟨fun h=>by omega,fun h=>h.1.elim⟩
 rwa [j2 fun h=>h] at h
section rules
variable {P : Program} {n : Nat} {Q : G8} {ρ : Fr} {w : World} {all rest : List Oper} {d : Tmp} {ty : TypeId} {pos : String} {aft : Array Edge}
theorem b76 [st : SlT P t T] [ti : TyI P T s b z agg] {hi : Operand} {w0 : World} {cs : List Value} {k : Nat} {i : Int}
  (hv : ev ρ x = v) (hr : Row S T s w0 v m cs) (hh : ev ρ hi = .int .i64 i) (hik : i = (k : Int)) (hk : k ≤ m) (hm : 0 < m)
  (h : ∀ v',Row S T s w0 v' k (cs.take (k * s)) → WpR P n all Q rest (upd ρ d v') w) : WpR P n all Q (⟨some d,.slice t x none (some hi) none,ty,pos,aft,none⟩ :: rest) ρ w:=by
 subst hik
 have hmul : k * s ≤ m * s:=Nat.mul_le_mul_right _ hk
 rcases hr.2 with ⟨h1,h2⟩ | ⟨b',off,cap,arr,fr,h1,h2,h3,hs,hg,h5,h6⟩
 ·omega
 refine F1 (v:=.slice (some ⟨b',off,none⟩) k cap) rfl rfl ?_ (h _ ⟨by rw [List.length_take,hr.1]; omega,.inr ⟨b',off,cap,arr,fr,rfl,by omega,h3,hs,hg,h5,?_⟩⟩)
 ·have hk2 : k ≤ cap:=by omega
  simp [execOp,hv,h1,hh,Instr.sliceAt,Instr.slice,run_underlying st.und,Instr.sliceBounds,Instr.sliceBound,asIntOf,hk2,ti.runSize w,Addr.add,show ¬ cap = 0 by omega]
 rw [← h6,List.take_take]
 congr 1
 omega
end rules
theorem l9 {W : List (Nat × Nat)} {ρ : Fr} {d : Nat} (hd : inW W d = true) (h : aa4 W ρ ρ') : aa4 W (upd ρ d v) ρ':=by
 intro i hi
 rw [h i hi,Q6]
 cases hb : Nat.beq i d with
 | false=>rfl
 | true=>rw [Nat.eq_of_beq_eq_true hb,hd] at hi; cases hi
theorem D7 (h : l.length ≤ i) : l.take i = l:=List.take_of_length_le h
theorem W7 (h : l.length ≤ i) : l.getD i 0 = 0:=by simp [List.getD_eq_getElem?_getD,List.getElem?_eq_none h]
theorem M6 (l : List Nat) (i : Nat) : r9 (l.take (i + 1)) = r9 (l.take i) + 1000000000 ^ i * l.getD i 0:=by
 by_cases h : i < l.length
 ·exact ag3 h
 rw [D7 (by omega),D7 (by omega),W7 (by omega)]; simp
theorem am5 (l : List Nat) (d : Nat) : r9 (l ++ [d]) = r9 l + 1000000000 ^ l.length * d:=by
 rw [Y5]
 simp [r9]
theorem br4 {v x p : Nat} (h : v + 1000000000 ^ i * c = p) : v + 1000000000 ^ i * ((c + x) % 1000000000) + 1000000000 ^ (i + 1) * ((c + x) / 1000000000) = p + 1000000000 ^ i * x:=by
 have h2 : (c + x) % 1000000000 + 1000000000 * ((c + x) / 1000000000) = c + x:=by omega
 have h3 : 1000000000 ^ i * ((c + x) % 1000000000) + 1000000000 ^ i * (1000000000 * ((c + x) / 1000000000)) = 1000000000 ^ i * c + 1000000000 ^ i * x:=by
  rw [← Nat.mul_add,h2,Nat.mul_add]
 rw [Nat.pow_succ,Nat.mul_assoc]
 omega
theorem aw3 (h : Sl S 3 .i64 w v l) (hd : Digs l) :
  Gives prog 189 [v] w fun v' w'=>w' = w ∧ s5 S 3 .i64 w v' (r9 l):=by
 have hlen:=h.len_le
 unfold maxLen at hlen
 refine l6 func189 rfl rfl rfl ?_
 repeat refine wW ?_
 try refine n6 ?_
 refine F4 ((0,0) :: [(0,0),(3,19)]) (fun j ρ w'=>w' = w ∧ ∃ v',ρ 0 = v' ∧ j ≤ l.length ∧ Sl S 3 .i64 w v' (l.take j) ∧ (∀ i,j ≤ i → i < l.length → l.getD i 0 = 0)) l.length ?_ ?_
 ·exact ⟨rfl,v,rfl,Nat.le_refl _,by rw [D7 (Nat.le_refl _)]; exact h,fun i h1 h2=>by omega⟩
 rintro j u w' ⟨rfl,v',h0,hj,hv,hz⟩
 refine j7 0 h0 ?_
 clear h0 h
 have hlt : (l.take j).length = j:=by rw [List.length_take]; omega
 repeat (first | refine wW ?_ | refine b8 ?_ | refine z6 (by conv=>(lhs; whnf)) (by assumption) ?_ | refine Y1 rfl rfl ?_)
 refine D6 rfl rfl ?_ ?_ <;> intro hc
 ·obtain ⟨m,rfl⟩ : ∃ m,j = m + 1:=⟨j - 1,by omega⟩
  have e0 : (l.take (m + 1)).getD m 0 = l.getD m 0:=by simp [List.getD_eq_getElem?_getD,List.getElem?_take]
  repeat (first | refine y8 (i:=m) (by conv=>(lhs; whnf)) rfl (by omega) hv (by omega) ?_ | refine r6 rfl hv (by omega) ?_ | refine wW ?_ | refine z6 (by conv=>(lhs; whnf)) (by assumption) ?_ | refine q6 rfl rfl ?_ | refine s4 rfl ?_ | refine ad2 rfl rfl ?_ | refine x9 rfl rfl ?_)
  try refine d8 ?_
  refine j3 rfl ?_ ?_ <;> intro hc2
  ·repeat (first | refine wW ?_ | refine J4 ?_ | refine wp_skip ?_ | refine z6 (by conv=>(lhs; whnf)) (by assumption) ?_ | refine x9 rfl rfl ?_)
   refine b76 (k:=m) (by conv=>(lhs; whnf)) hv rfl (by omega) (by omega) (by omega) ?_
   intro v2 hv2
   repeat (first | refine wW ?_ | refine af2 ?_)
   refine ⟨by (repeat (first | refine i7 rfl ?_ | exact c7 | refine j1 rfl ?_ | exact b9)),m,by omega,rfl,v2,rfl,by omega,?_,fun i h1 h2=>?_⟩
   ·rw [Nat.mul_one,← List.map_take,List.take_take,Nat.min_eq_left (by omega)] at hv2
    have e : (l.take m).length = m:=by rw [List.length_take]; omega
    show Row _ _ _ _ _ _ _
    rw [e]
    exact hv2
   by_cases e : i = m
   ·subst e; rw [← e0]; omega
   exact hz i (by omega) h2
  repeat (first | refine wW ?_ | refine wp_exit ?_)
  refine o5 rfl ⟨rfl,?_⟩
  rw [a00 hd hj hz (.inr (by rw [Nat.add_sub_cancel,← e0]; omega))] at hv
  exact hv
 repeat (first | refine wW ?_ | refine wp_exit ?_ | refine s9 rfl rfl rfl ?_ | refine p9 rfl ?_ | refine wp_cond_false rfl ?_)
 refine o5 rfl ⟨rfl,?_⟩
 rw [a00 hd hj hz (.inl (by omega))] at hv
 exact hv
theorem dh9 (ha : s5 S 3 .i64 w va a) (hb : s5 S 3 .i64 w vb b) :
  Gives prog 177 [va,vb] w fun v' w'=>Ext w w' ∧ ∃ c : Int,v' = .int .i64 c ∧ du8 c a b:=by
 have la:=ha.len_le
 have lb:=hb.len_le
 unfold maxLen at la lb
 refine l6 func177 rfl rfl rfl ?_
 repeat (first | refine wW ?_ | refine b8 ?_ | refine z6 (by conv=>(lhs; whnf)) (by assumption) ?_ | refine b60 rfl rfl ?_)
 have hA:=ah3 a
 have hB:=ah3 b
 try refine d8 ?_
 refine j3 rfl ?_ ?_ <;> intro hc
 ·repeat (first | refine wW ?_ | refine b8 ?_ | refine z6 (by conv=>(lhs; whnf)) (by assumption) ?_ | refine N4 rfl rfl ?_)
  try refine d8 ?_
  refine j3 rfl ?_ ?_ <;> intro hc2
  ·repeat (first | refine wW ?_ | refine r4 ?_)
   refine o5 rfl ⟨.refl,_,rfl,?_⟩
   have:=ai7 hA hB (by omega)
   rw [x8,x8] at this
   exact ⟨by omega,by omega⟩
  repeat (first | refine wW ?_ | refine r4 ?_ | refine wp_skip ?_)
  refine o5 rfl ⟨.refl,_,rfl,?_⟩
  have:=ai7 hB hA (by omega)
  rw [x8,x8] at this
  exact ⟨by omega,by omega⟩
 ·have hlen : (dg a).length = (dg b).length:=by omega
  clear hc
  repeat (first | refine wW ?_ | refine b8 ?_ | refine wp_skip ?_ | refine z6 (by conv=>(lhs; whnf)) (by assumption) ?_ | refine x9 rfl rfl ?_)
  try refine n6 ?_
  refine F4 [(4,5),(19,40)] (fun k ρ w'=>Ext w w' ∧ ρ 5 = .int .i64 (k - 1) ∧ k ≤ (dg a).length ∧ (dg a).drop k = (dg b).drop k) (dg a).length ⟨.refl,rfl,Nat.le_refl _,by rw [List.drop_of_length_le (Nat.le_refl _),List.drop_of_length_le (by omega)]⟩ ?_
  rintro k u w1 ⟨k1,h5,hk,hd⟩
  refine j7 5 h5 ?_
  clear h5
  replace ha:=ha.to k1
  replace hb:=hb.to k1
  repeat (first | refine wW ?_ | refine b8 ?_ | refine aj6 rfl rfl ?_)
  try refine d8 ?_
  refine j3 rfl ?_ ?_ <;> intro hc
  ·obtain ⟨m,rfl⟩ : ∃ m,k = m + 1:=⟨k - 1,by omega⟩
   repeat (first | refine A0 ?_ | refine b8 ?_ | refine y6 ?_ | refine q5 ?_ | refine wp_skip ?_)
   refine s7 8 ?_
   apply a7
   ·intro x w1 k1 hd
    refine q8 ?_
    refine b7 ?_
    exact i6
   apply a7
   ·intro x w1 k1 hd
    refine q8 ?_
    refine b7 ?_
    exact i6
   apply a7
   ·intro x w1 k1 hd
    refine y8 (i:=m) (by conv=>(lhs; whnf)) rfl (by omega) (ha.to k1) (by omega) ?_
    refine b7 ?_
    exact i6
   apply a7
   ·intro x w1 k1 hd
    refine r6 rfl (ha.to k1) (by omega) ?_
    refine b7 ?_
    exact i6
   apply a7
   ·intro x w1 k1 hd
    refine q8 ?_
    refine b7 ?_
    exact i6
   apply a7
   ·intro x w1 k1 hd
    refine q8 ?_
    refine b7 ?_
    exact i6
   apply a7
   ·intro x w1 k1 hd
    refine y8 (i:=m) (by conv=>(lhs; whnf)) rfl (by omega) (hb.to k1) (by omega) ?_
    refine b7 ?_
    exact i6
   apply a7
   ·intro x w1 k1 hd
    refine r6 rfl (hb.to k1) (by omega) ?_
    refine b7 ?_
    exact i6
   refine F5 (G7 ?_)
   intro x w2 k2 _
   have hda:=K7 a m
   have hdb:=K7 b m
   repeat (first | refine wW ?_ | refine N4 rfl rfl ?_)
   try refine d8 ?_
   refine j3 rfl ?_ ?_ <;> intro hc2
   ·repeat (first | refine wW ?_ | refine r4 ?_ | refine N7 ?_)
    refine o5 rfl ⟨k1.trans k2,_,rfl,?_⟩
    have:=aq2 hA.1 (by omega) (by omega) hd (show (dg a).getD m 0 < (dg b).getD m 0 by omega)
    rw [x8,x8] at this
    exact ⟨by omega,by omega⟩
   ·repeat (first | refine A0 ?_ | refine wp_skip ?_)
    replace ha:=ha.to k2
    replace hb:=hb.to k2
    refine s7 8 ?_
    apply a7
    ·intro x w1 k1 hd
     refine q8 ?_
     refine b7 ?_
     exact i6
    apply a7
    ·intro x w1 k1 hd
     refine q8 ?_
     refine b7 ?_
     exact i6
    apply a7
    ·intro x w1 k1 hd
     refine y8 (i:=m) (by conv=>(lhs; whnf)) rfl (by omega) (ha.to k1) (by omega) ?_
     refine b7 ?_
     exact i6
    apply a7
    ·intro x w1 k1 hd
     refine r6 rfl (ha.to k1) (by omega) ?_
     refine b7 ?_
     exact i6
    apply a7
    ·intro x w1 k1 hd
     refine q8 ?_
     refine b7 ?_
     exact i6
    apply a7
    ·intro x w1 k1 hd
     refine q8 ?_
     refine b7 ?_
     exact i6
    apply a7
    ·intro x w1 k1 hd
     refine y8 (i:=m) (by conv=>(lhs; whnf)) rfl (by omega) (hb.to k1) (by omega) ?_
     refine b7 ?_
     exact i6
    apply a7
    ·intro x w1 k1 hd
     refine r6 rfl (hb.to k1) (by omega) ?_
     refine b7 ?_
     exact i6
    refine F5 (G7 ?_)
    intro x w3 k3 _
    repeat (first | refine wW ?_ | refine Y1 rfl rfl ?_)
    try refine d8 ?_
    refine j3 rfl ?_ ?_ <;> intro hc3
    ·repeat (first | refine wW ?_ | refine r4 ?_ | refine N7 ?_)
     refine o5 rfl ⟨k1.trans (k2.trans k3),_,rfl,?_⟩
     have:=aq2 hB.1 (by omega) (by omega) hd.symm (show (dg b).getD m 0 < (dg a).getD m 0 by omega)
     rw [x8,x8] at this
     exact ⟨by omega,by omega⟩
    repeat (first | refine wW ?_ | refine wp_skip ?_ | refine x9 rfl rfl ?_)
    refine ⟨by (repeat (first | refine i7 rfl ?_ | exact c7 | refine j1 rfl ?_ | exact b9)),m,by omega,k1.trans (k2.trans k3),congrArg (Value.int .i64) (by omega),by omega,a55 (by omega) (by omega) hd (by omega)⟩
  repeat (first | refine wW ?_ | refine wp_exit ?_)
  refine o5 rfl ⟨k1,_,rfl,?_⟩
  obtain rfl : k = 0:=by omega
  simp only [List.drop_zero] at hd
  have h:=congrArg r9 hd
  rw [x8,x8] at h
  exact ⟨by omega,by omega⟩
theorem cj4 (hS : Up S w) (ha : s5 S 3 .i64 w va a) (hb : s5 S 3 .i64 w vb b) (hla : dl a ≤ 17000000000000) (hba : b ≤ a) :
  Gives prog 178 [va,vb] w fun v' w'=>Ext w w' ∧ s5 S 3 .i64 w' v' (a - b):=by
 have hla' : (dg a).length ≤ 17000000000000:=hla
 have hlb' : (dg b).length ≤ (dg a).length:=I6 hba
 refine l6 func178 rfl rfl rfl ?_
 repeat (first | refine wW ?_ | refine b8 ?_)
 try refine n6 ?_
 refine F4 [(5,38)] (fun k ρ w'=>∃ (l : List Nat) (v : Value) (br : Nat),ρ 5 = v ∧ ρ 6 = .int .i64 br ∧ ρ 7 = .int .i64 (l.length : Int) ∧ br ≤ 1 ∧ l.length + k = (dg a).length ∧ Digs l ∧ r9 l + r9 ((dg b).take l.length) = r9 ((dg a).take l.length) + 1000000000 ^ l.length * br ∧ Ext w w' ∧ Own w.heap.size 3 1 w' v l.length (l.map fun d : Nat=>.int .i64 d)) (dg a).length ?_ ?_
 ·exact ⟨[],_,0,rfl,rfl,rfl,by omega,by simp,V0,by simp [r9],.refl,ab9⟩
 rintro k u w1 ⟨l,v,br,h5,h6,h7,hbr,hk,hdl,Z1,k1,ho⟩
 refine j7 5 h5 (j7 6 h6 (j7 7 h7 ?_))
 clear h5 h6 h7
 have ha1:=ha.to k1
 have hb1:=hb.to k1
 have hsz:=k1.size
 have hda:=K7 a l.length
 have hdb:=K7 b l.length
 have hta:=M6 (dg a) l.length
 have htb:=M6 (dg b) l.length
 repeat (first | refine wW ?_ | refine b8 ?_ | refine z6 (by conv=>(lhs; whnf)) (by assumption) ?_ | refine N4 rfl rfl ?_)
 try refine d8 ?_
 refine j3 rfl ?_ ?_ <;> intro hlt
 ·repeat (first | refine y8 (i:=l.length) (by conv=>(lhs; whnf)) rfl rfl ha1 (by omega) ?_ | refine r6 rfl ha1 (by omega) ?_ | refine wW ?_ | refine b8 ?_ | refine y6 ?_ | refine q5 ?_ | refine wp_skip ?_ | refine z6 (by conv=>(lhs; whnf)) (by assumption) ?_ | refine N4 rfl rfl ?_ | refine x9 rfl rfl ?_)
  first | refine d8 ?_ | refine F9 ?_ | refine B5 ?_ | skip
  refine R6 [(8,8),(25,30)] (fun ρ w'=>w' = w1 ∧ ρ 8 = .int .i64 (((dg a).getD l.length 0 : Nat) - (br : Int) - ((dg b).getD l.length 0 : Nat))) rfl ?_ ?_ ?_
  ·intro hlb
   repeat (first | refine y8 (i:=l.length) (by conv=>(lhs; whnf)) rfl rfl hb1 (by omega) ?_ | refine r6 rfl hb1 (by omega) ?_ | refine wW ?_ | refine x9 rfl rfl ?_)
   exact ⟨by (repeat (first | refine i7 rfl ?_ | exact c7 | refine j1 rfl ?_ | exact b9)),rfl,rfl⟩
  ·intro hlb
   repeat (first | refine M5 ?_ | refine wp_skip ?_)
   refine ⟨by (repeat (first | refine i7 rfl ?_ | exact c7 | refine j1 rfl ?_ | exact b9)),rfl,congrArg (Value.int .i64) ?_⟩
   rw [W7 (l:=dg b) (by omega)]
   omega
  rintro u2 w2 ⟨rfl,h8⟩
  refine j7 8 h8 ?_
  clear h8
  repeat (first | refine wW ?_ | refine b8 ?_ | refine N4 rfl rfl ?_)
  obtain ⟨x,hx⟩ : ∃ x,x = (dg a).getD l.length 0:=⟨_,rfl⟩
  obtain ⟨y,hy⟩ : ∃ y,y = (dg b).getD l.length 0:=⟨_,rfl⟩
  rw [← hx] at hda hta ⊢
  rw [← hy] at hdb htb ⊢
  first | refine d8 ?_ | refine F9 ?_ | refine B5 ?_ | skip
  refine R6 [(6,6),(8,8),(33,34)] (fun ρ w'=>w' = w2 ∧ ∃ d br' : Nat,ρ 8 = .int .i64 (d : Int) ∧ ρ 6 = .int .i64 (br' : Int) ∧ br' ≤ 1 ∧ d < 1000000000 ∧ d + y + br = x + 1000000000 * br') rfl ?_ ?_ ?_
  ·intro hneg
   repeat (first | refine wW ?_ | refine A2 rfl rfl ?_)
   refine ⟨by (repeat (first | refine i7 rfl ?_ | exact c7 | refine j1 rfl ?_ | exact b9)),rfl,x + 1000000000 - br - y,1,congrArg (Value.int .i64) (by omega),rfl,by omega,by omega,by omega⟩
  ·intro hneg
   repeat (first | refine M5 ?_ | refine wp_skip ?_)
   refine ⟨by (repeat (first | refine i7 rfl ?_ | exact c7 | refine j1 rfl ?_ | exact b9 | refine m9 rfl ?_ | refine l9 rfl ?_)),rfl,x - br - y,0,congrArg (Value.int .i64) (by omega),rfl,by omega,by omega,by omega⟩
  rintro u3 w3 ⟨rfl,d,br',h8,h6,hbr',hd9,hdd⟩
  refine j7 8 h8 (j7 6 h6 ?_)
  clear h8 h6
  repeat refine wW ?_
  refine ab4 (by conv=>(lhs; whnf)) rfl ?_
  intro w4 g k4 hg hgs
  refine U2 (by conv=>(lhs; whnf)) (ab6 ho k4) rfl hg (by omega) rfl (by simp [Value.oneCell']) (by unfold maxLen; omega) (by omega) (by have:=k4.size; omega) ?_
  intro v5 w5 ho5 k5
  repeat (first | refine wW ?_ | refine A2 rfl rfl ?_)
  refine ⟨by (repeat (first | refine i7 rfl ?_ | exact c7 | refine j1 rfl ?_ | exact b9)),k - 1,by omega,l ++ [d],v5,br',rfl,rfl,congrArg (Value.int .i64) (by rw [List.length_append]; rfl),hbr',by rw [List.length_append]; simp; omega,hdl.append (Digs.cons hd9 V0),?_,?_,by simpa using ho5⟩
  ·rw [List.length_append,List.length_singleton,am5,hta,htb,Nat.pow_succ]
   have e1 : 1000000000 ^ l.length * d + 1000000000 ^ l.length * y + 1000000000 ^ l.length * br = 1000000000 ^ l.length * x + 1000000000 ^ l.length * 1000000000 * br':=by
    rw [← Nat.mul_add,← Nat.mul_add,hdd,Nat.mul_add,Nat.mul_assoc]
   omega
  exact Keeps.later (k1.trans k4) k5 fun i hi _ e=>by have:=(ho.lt i e.symm).1; omega
 repeat (first | refine wW ?_ | refine wp_exit ?_)
 refine d9 (aw3 (S:=S) (v:=v) (l:=l) (Row.of_own ho hS) hdl) rfl ?_
 rintro v4 w4 ⟨rfl,h4⟩
 repeat refine wW ?_
 refine o5 rfl ⟨k1,?_⟩
 have e : r9 l = a - b:=by
  have h1:=av0 hdl
  rw [D7 (by omega),D7 (by omega),x8,x8] at Z1
  have hbr0 : br = 0:=by
   rcases Nat.eq_zero_or_pos br with h | h
   ·exact h
   ·obtain rfl : br = 1:=by omega
    omega
  subst hbr0
  omega
 rw [e] at h4
 exact h4
theorem ba0 (hS : Up S w) (ha : s5 S 3 .i64 w va a) (hla : dl a ≤ 16000000000000) (hc : c ≤ 1000000000) :
  Gives prog 208 [va,.int .i64 (c : Int)] w fun v' w'=>Ext w w' ∧ s5 S 3 .i64 w' v' (a * c):=by
 have hla' : (dg a).length ≤ 16000000000000:=hla
 refine l6 func208 rfl rfl rfl ?_
 repeat (first | refine wW ?_ | refine b8 ?_)
 try refine n6 ?_
 refine F4 [(5,36)] (fun k ρ w'=>∃ (l : List Nat) (v : Value) (cy : Nat),ρ 5 = v ∧ ρ 6 = .int .i64 cy ∧ ρ 7 = .int .i64 (l.length : Int) ∧ cy ≤ 1000000000 ∧ k = (dg a).length + 3 - l.length ∧ l.length ≤ (dg a).length + 2 ∧ (l.length ≤ (dg a).length ∨ (l.length ≤ (dg a).length + 1 ∧ cy ≤ 1) ∨ cy = 0) ∧ Digs l ∧ r9 l + 1000000000 ^ l.length * cy = r9 ((dg a).take l.length) * c ∧ Ext w w' ∧ Own w.heap.size 3 1 w' v l.length (l.map fun d : Nat=>.int .i64 d)) ((dg a).length + 3) ?_ ?_
 ·exact ⟨[],_,0,rfl,rfl,rfl,by omega,by simp,by simp,.inl (by simp),V0,by simp [r9],.refl,ab9⟩
 rintro k u w1 ⟨l,v,cy,h5,h6,h7,hcy,hk,hll,hcl,hdl,Z1,k1,ho⟩
 refine j7 5 h5 (j7 6 h6 (j7 7 h7 ?_))
 clear h5 h6 h7
 have ha1:=ha.to k1
 have hsz:=k1.size
 have hda:=K7 a l.length
 have hta:=M6 (dg a) l.length
 repeat (first | refine wW ?_ | refine b8 ?_ | refine z6 (by conv=>(lhs; whnf)) (by assumption) ?_ | refine N4 rfl rfl ?_)
 refine cb1 [(11,15)] (fun ρ w'=>ρ 15 = .bool (tst (l.length < (dg a).length ∨ 0 < cy)) ∧ w' = w1) ?_ ?_
 ·refine D6 rfl rfl ?_ ?_ <;> intro hlt
  ·repeat (first | refine wW ?_ | refine s9 rfl rfl rfl ?_ | refine s4 rfl ?_)
   exact ⟨by (repeat (first | refine i7 rfl ?_ | exact c7 | refine j1 rfl ?_ | exact b9 | refine m9 rfl ?_ | refine l9 rfl ?_)),by rw [j6 (Or.inl (by omega))]; rfl,rfl⟩
  repeat (first | refine wW ?_ | refine q6 rfl rfl ?_ | refine p9 rfl ?_ | refine Y1 rfl rfl ?_)
  refine ⟨by (repeat (first | refine i7 rfl ?_ | exact c7 | refine j1 rfl ?_ | exact b9 | refine m9 rfl ?_ | refine l9 rfl ?_)),congrArg Value.bool (R0 ?_),rfl⟩
  omega
 rintro u1 w2 ⟨h15,rfl⟩
 refine j7 15 h15 ?_
 clear h15
 skip
 try refine d8 ?_
 refine j3 rfl ?_ ?_ <;> intro hlt
 ·repeat (first | refine wW ?_ | refine b8 ?_ | refine y6 ?_ | refine q5 ?_ | refine wp_skip ?_ | refine z6 (by conv=>(lhs; whnf)) (by assumption) ?_ | refine N4 rfl rfl ?_)
  first | refine d8 ?_ | refine F9 ?_ | refine B5 ?_ | skip
  refine R6 [(6,6),(22,29)] (fun ρ w'=>w' = w2 ∧ ρ 6 = .int .i64 ((cy + (dg a).getD l.length 0 * c : Nat) : Int)) rfl ?_ ?_ ?_
  ·intro hla2
   have hmul : (dg a).getD l.length 0 * c ≤ 999999999 * 1000000000:=Nat.mul_le_mul (by omega) hc
   have hmi : (((dg a).getD l.length 0 : Nat) : Int) * (c : Int) = (((dg a).getD l.length 0 * c : Nat) : Int):=(Int.natCast_mul ..).symm
   repeat (first | refine y8 (i:=l.length) (by conv=>(lhs; whnf)) rfl rfl ha1 (by omega) ?_ | refine r6 rfl ha1 (by omega) ?_ | refine bb5 rfl rfl (by rw [hmi]; omega) (by rw [hmi]; omega) ?_ | refine cj5 rfl rfl (by rw [hmi]; omega) (by rw [hmi]; omega) ?_ | refine wW ?_)
   exact ⟨by (repeat (first | refine i7 rfl ?_ | exact c7 | refine j1 rfl ?_ | exact b9)),rfl,congrArg (Value.int .i64) (by rw [hmi,Int.natCast_add])⟩
  ·intro hla2
   repeat (first | refine M5 ?_ | refine wp_skip ?_)
   refine ⟨by (repeat (first | refine i7 rfl ?_ | exact c7 | refine j1 rfl ?_ | exact b9 | refine m9 rfl ?_ | refine l9 rfl ?_)),rfl,congrArg (Value.int .i64) ?_⟩
   rw [W7 (l:=dg a) (by omega)]
   omega
  rintro u2 w3 ⟨rfl,h6⟩
  refine j7 6 h6 ?_
  clear h6
  obtain ⟨x,hx⟩ : ∃ x,x = (dg a).getD l.length 0:=⟨_,rfl⟩
  rw [← hx] at hda hta ⊢
  have hmul : x * c ≤ 999999999 * 1000000000:=Nat.mul_le_mul (by omega) hc
  have hcn:=br4 (x:=x * c) Z1
  obtain ⟨s,hs⟩ : ∃ s,s = cy + x * c:=⟨_,rfl⟩
  rw [← hs] at hcn ⊢
  have hs0 : (dg a).length ≤ l.length → x = 0:=fun h=>by rw [hx]; exact W7 h
  have hs1 : x = 0 → s = cy:=fun h=>by rw [hs,h]; omega
  repeat (first | refine wW ?_ | refine aq0 rfl rfl (by omega) (by omega) ?_)
  refine ab4 (by conv=>(lhs; whnf)) rfl ?_
  intro w4 g k4 hg hgs
  refine U2 (by conv=>(lhs; whnf)) (ab6 ho k4) rfl hg (by omega) rfl (by simp [Value.oneCell']) (by unfold maxLen; omega) (by omega) (by have:=k4.size; omega) ?_
  intro v5 w5 ho5 k5
  have hlen : (l ++ [s % 1000000000]).length = l.length + 1:=by rw [List.length_append]; rfl
  repeat (first | refine wW ?_ | refine A2 rfl rfl ?_ | refine ao9 rfl rfl (by omega) (by omega) (by omega) ?_)
  refine ⟨by (repeat (first | refine i7 rfl ?_ | exact c7 | refine j1 rfl ?_ | exact b9 | refine m9 rfl ?_ | refine l9 rfl ?_)),(dg a).length + 3 - (l.length + 1),by omega,l ++ [s % 1000000000],v5,s / 1000000000,rfl,congrArg (Value.int .i64) (by omega),congrArg (Value.int .i64) (by rw [hlen]; omega),by omega,by rw [hlen],?_,?_,hdl.append (Digs.cons (by omega) V0),?_,?_,by simpa using ho5⟩
  ·rw [hlen]
   rcases Nat.lt_or_ge l.length (dg a).length with h | h
   ·omega
   have e1:=hs1 (hs0 h); omega
  ·rw [hlen]
   rcases Nat.lt_or_ge l.length (dg a).length with h | h
   ·exact .inl (by omega)
   have e1:=hs1 (hs0 h); omega
  ·rw [hlen,am5,hcn,hta,Nat.add_mul,Nat.mul_assoc]
  exact Keeps.later (k1.trans k4) k5 fun i hi _ e=>by have:=(ho.lt i e.symm).1; omega
 repeat (first | refine wW ?_ | refine wp_exit ?_)
 refine d9 (aw3 (S:=S) (v:=v) (l:=l) (Row.of_own ho hS) hdl) rfl ?_
 rintro v4 w4 ⟨rfl,h4⟩
 repeat refine wW ?_
 refine o5 rfl ⟨k1,?_⟩
 have e : r9 l = a * c:=by
  have hcy0 : cy = 0:=by omega
  subst hcy0
  rw [D7 (by omega),x8] at Z1
  omega
 rw [e] at h4
 exact h4
theorem c53 (hS : Up S w) (ha : s5 S 3 .i64 w va a) (hla : dl a ≤ 16000000000000) (hc : c ≤ 1000000000) (hc0 : 0 < c) :
    Gives prog 209 [va, .int .i64 (c : Int)] w fun v' w' => ∃ vq, v' = .tuple #[vq, .int .i64 ((a % c : Nat) : Int)] ∧ Ext w w' ∧ s5 S 3 .i64 w' vq (a / c) := by
  have hla' : (dg a).length ≤ 16000000000000 := hla
  refine l6 func209 rfl rfl rfl ?_
  repeat (first | refine wW ?_ | refine z6 (by conv => (lhs; whnf)) (by assumption) ?_)
  refine bb1 (l := (dg a).length) (c := (dg a).length) rfl rfl rfl rfl (Nat.le_refl _) (by omega) (by unfold maxLen; omega) ?_
  intro w2 q k2 hg hgs
  have hg : Blk w2 q 3 ((List.replicate (dg a).length 0).map fun d : Nat => .int .i64 d) := by
    simpa [toList_madeCells_one, Value.cells, List.map_replicate] using hg
  have ha2 := (ha.mono (S' := fun k => S k ∧ k ≠ q) fun i hi hs => ⟨hs, by omega⟩).to k2
  repeat (first | refine wW ?_ | refine b8 ?_ | refine z6 (by conv => (lhs; whnf)) (by assumption) ?_ | refine x9 rfl rfl ?_)
  try refine n6 ?_
  refine F4 [(7, 8), (15, 34)] (fun k ρ w' => ∃ (o : List Nat) (r : Nat), ρ 8 = .int .i64 ((k : Int) - 1) ∧ ρ 7 = .int .i64 (r : Int) ∧ r < c ∧ k ≤ o.length ∧ o.length = (dg a).length ∧ Digs o ∧
        r9 ((dg a).drop k) = r9 (o.drop k) * c + r ∧ Blk w' q 3 (o.map fun d : Nat => .int .i64 d) ∧ Keeps (fun k => k ≠ q) w2 w') (dg a).length ?_ ?_
  · exact ⟨List.replicate (dg a).length 0, 0, rfl, rfl, hc0, by simp, by simp, fun x hx => by rw [List.eq_of_mem_replicate hx]; omega, by simp [r9], hg, .refl⟩
  rintro k u w3 ⟨o, r, h8, h7, hr, hko, hol, hod, hv, hg3, k3⟩
  refine j7 8 h8 (j7 7 h7 ?_)
  clear h8 h7 hg
  have ha3 : s5 (fun k => S k ∧ k ≠ q) 3 .i64 w3 va a := ha2.keep (k3.mono fun i hi => hi.2)
  repeat (first | refine wW ?_ | refine b8 ?_ | refine aj6 rfl rfl ?_)
  try refine d8 ?_
  refine j3 rfl ?_ ?_ <;> intro hk
  · obtain ⟨m, rfl⟩ : ∃ m, k = m + 1 := ⟨k - 1, by omega⟩
    have hda := K7 a m
    repeat (first | refine H8 (i := m) rfl rfl (by omega) (by omega) ?_ | refine bb5 rfl rfl (by omega) (by omega) ?_ | refine y8 (i := m) (by conv => (lhs; whnf)) rfl (by omega) ha3 (by omega) ?_ | refine r6 rfl ha3 (by omega) ?_ | refine wW ?_ | refine y6 ?_ | refine q5 ?_ | refine wp_skip ?_ | refine A2 rfl rfl ?_ | refine ao9 rfl rfl (by omega) (by omega) (by omega) ?_)
    have hdr := U5 (show m < (dg a).length by omega)
    rw [hv] at hdr
    obtain ⟨d, hd⟩ : ∃ d, d = (dg a).getD m 0 := ⟨_, rfl⟩
    rw [← hd] at hda hdr ⊢
    have hdo := U5 (show m < o.length by omega)
    obtain ⟨s, hs⟩ : ∃ s, s = r * 1000000000 + d := ⟨_, rfl⟩
    have hsi : (r : Int) * 1000000000 + (d : Int) = (s : Int) := by omega
    rw [hsi]
    have hsb : s < c * 1000000000 := by
      have : r * 1000000000 + 1000000000 ≤ c * 1000000000 := by omega
      omega
    have hq9 : s / c < 1000000000 := Nat.div_lt_of_lt_mul hsb
    have hqm := Nat.div_add_mod s c
    have hrm := Nat.mod_lt s hc0
    have hdi : (s : Int) / (c : Int) = ((s / c : Nat) : Int) := rfl
    have hmi : (s : Int) % (c : Int) = ((s % c : Nat) : Int) := rfl
    have hsle : s ≤ 1000000000000000000 := by
      have : c * 1000000000 ≤ 1000000000 * 1000000000 := Nat.mul_le_mul_right _ hc
      omega
    refine U6 (c := s / c) rfl rfl hdi hg3 (by omega) ?_
    intro w4 k4 hg4
    repeat (first | refine wW ?_ | refine x9 rfl rfl ?_ | refine aq0 rfl rfl (by omega) (by omega) ?_)
    refine ⟨by (repeat (first | refine i7 rfl ?_ | exact c7 | refine j1 rfl ?_ | exact b9 | refine m9 rfl ?_ | refine l9 rfl ?_)), m, by omega, o.set m (s / c), s % c, congrArg (Value.int .i64) (by omega), rfl, hrm, by rw [List.length_set]; omega, by rw [List.length_set]; omega, hod.set hq9 _, ?_, hg4, k3.trans k4⟩
    have hds := U5 (l := o.set m (s / c)) (m := m) (by rw [List.length_set]; omega)
    rw [ac5 (by omega), ar7] at hds
    rw [hdr, hds, Nat.mul_add, Nat.add_mul, Nat.mul_assoc]
    have e : s / c * c + s % c = d + 1000000000 * r := by rw [Nat.mul_comm (s / c), hqm, hs]; omega
    omega
  · obtain rfl : k = 0 := by omega
    rw [List.drop_zero, List.drop_zero, x8] at hv
    repeat (first | refine wW ?_ | refine wp_exit ?_)
    refine d9 (aw3 (S := S) (v := .slice (some ⟨q, 0, none⟩) (dg a).length (dg a).length) (l := o) ?_ hod) rfl ?_
    · have h4 := Row.of_blk (S := S) (s := 1) (n := o.length) (cap := o.length) hg3 (hS q (by omega)) (Nat.le_refl _) (by unfold maxLen; omega) (by simp)
      rw [Nat.mul_one, List.take_of_length_le (by simp)] at h4
      rw [← hol]
      exact h4
    · rintro v4 w4 ⟨rfl, h4⟩
      have hdiv : a / c = r9 o := by
        rw [hv, Nat.add_comm, Nat.add_mul_div_right _ _ hc0, Nat.div_eq_of_lt hr, Nat.zero_add]
      have hmod : a % c = r := by
        rw [hv, Nat.mul_comm, Nat.mul_add_mod, Nat.mod_eq_of_lt hr]
      repeat refine wW ?_
      refine au4 rfl (by conv => (lhs; whnf)) (by conv => (lhs; whnf)) ⟨v4, by rw [hmod], ?_, ?_⟩
      · exact Keeps.later k2 k3 fun i hi _ => by omega
      · rw [hdiv]; exact h4
theorem b21 (hd : Digs l) (h : l ≠ [] → 1000000000 ^ (l.length - 1) ≤ r9 l) : a66 l:=by
 refine ⟨hd,fun hne h0=>?_⟩
 have h1:=h hne
 have e:=List.dropLast_concat_getLast hne
 rw [h0] at e
 have h2 : r9 l = r9 l.dropLast:=by
  conv=>lhs; rw [← e]
  rw [am5]
  simp
 have h3 : Digs l.dropLast:=fun x hx=>hd x (List.dropLast_subset _ hx)
 have h4:=av0 h3
 rw [List.length_dropLast] at h4
 omega
theorem cg0 (h : 0 < dl a) : 1000000000 ^ (dl a - 1) ≤ a:=by
 have h1:=X4 (ah3 a) (by intro e; unfold dl at h; rw [e] at h; simp at h)
 rw [x8] at h1
 exact h1
theorem dz8 (hS : Up S w) (ha : s5 S 3 .i64 w va a) (hb : s5 S 3 .i64 w vb b) (hla : dl a ≤ 16000000000000) (hlb : dl b ≤ 16000000000000) :
  Gives prog 176 [va,vb] w fun v' w'=>Ext w w' ∧ s5 S 3 .i64 w' v' (a + b):=by
 have hla' : (dg a).length ≤ 16000000000000:=hla
 have hlb' : (dg b).length ≤ 16000000000000:=hlb
 obtain ⟨M,hM⟩ : ∃ M,M = max (dg a).length (dg b).length:=⟨_,rfl⟩
 refine l6 func176 rfl rfl rfl ?_
 repeat (first | refine wW ?_ | refine b8 ?_)
 try refine n6 ?_
 refine F4 [(5,50)] (fun k ρ w'=>∃ (l : List Nat) (v : Value) (cy : Nat),ρ 5 = v ∧ ρ 6 = .int .i64 cy ∧ ρ 7 = .int .i64 (l.length : Int) ∧ cy ≤ 1 ∧ k = M + 2 - l.length ∧ (l.length ≤ M ∨ (l.length = M + 1 ∧ cy = 0 ∧ 1000000000 ^ M ≤ a + b)) ∧ Digs l ∧ r9 l + 1000000000 ^ l.length * cy = r9 ((dg a).take l.length) + r9 ((dg b).take l.length) ∧ Ext w w' ∧ Own w.heap.size 3 1 w' v l.length (l.map fun d : Nat=>.int .i64 d)) (M + 2) ?_ ?_
 ·exact ⟨[],_,0,rfl,rfl,rfl,by omega,by simp,.inl (by simp),V0,by simp [r9],.refl,ab9⟩
 rintro k u w1 ⟨l,v,cy,h5,h6,h7,hcy,hk,hll,hdl,Z1,k1,ho⟩
 refine j7 5 h5 (j7 6 h6 (j7 7 h7 ?_))
 clear h5 h6 h7
 have ha1:=ha.to k1
 have hb1:=hb.to k1
 have hsz:=k1.size
 have hda:=K7 a l.length
 have hdb:=K7 b l.length
 have hta:=M6 (dg a) l.length
 have htb:=M6 (dg b) l.length
 repeat (first | refine wW ?_ | refine b8 ?_ | refine z6 (by conv=>(lhs; whnf)) (by assumption) ?_ | refine N4 rfl rfl ?_)
 refine cb1 [(12,21)] (fun ρ w'=>ρ 21 = .bool (tst ((l.length < (dg a).length ∨ l.length < (dg b).length) ∨ 0 < cy)) ∧ w' = w1) ?_ ?_
 ·refine D6 rfl rfl ?_ ?_ <;> intro hlt
  ·repeat (first | refine wW ?_ | refine s9 rfl rfl rfl ?_ | refine s4 rfl ?_)
   exact ⟨by (repeat (first | refine i7 rfl ?_ | exact c7 | refine j1 rfl ?_ | exact b9 | refine m9 rfl ?_ | refine l9 rfl ?_)),by rw [j6 (Or.inl (Or.inl (by omega)))]; rfl,rfl⟩
  ·repeat (first | refine q8 ?_ | refine z6 (by conv=>(lhs; whnf)) (by assumption) ?_ | refine q6 rfl rfl ?_ | refine p9 rfl ?_ | refine N4 rfl rfl ?_)
   refine D6 rfl rfl ?_ ?_ <;> intro hlt2
   ·repeat (first | refine wW ?_ | refine s9 rfl rfl rfl ?_ | refine s4 rfl ?_)
    exact ⟨by (repeat (first | refine i7 rfl ?_ | exact c7 | refine j1 rfl ?_ | exact b9 | refine m9 rfl ?_ | refine l9 rfl ?_)),by rw [j6 (Or.inl (Or.inr (by omega)))]; rfl,rfl⟩
   ·repeat (first | refine wW ?_ | refine q6 rfl rfl ?_ | refine p9 rfl ?_ | refine Y1 rfl rfl ?_)
    refine ⟨by (repeat (first | refine i7 rfl ?_ | exact c7 | refine j1 rfl ?_ | exact b9 | refine m9 rfl ?_ | refine l9 rfl ?_)),congrArg Value.bool (R0 ?_),rfl⟩
    omega
 rintro u2 w3 ⟨h21,rfl⟩
 refine j7 21 h21 ?_
 clear h21
 skip
 try refine d8 ?_
 refine j3 rfl ?_ ?_ <;> intro hlt
 ·repeat (first | refine wW ?_ | refine b8 ?_ | refine y6 ?_ | refine q5 ?_ | refine wp_skip ?_ | refine z6 (by conv=>(lhs; whnf)) (by assumption) ?_ | refine N4 rfl rfl ?_)
  first | refine d8 ?_ | refine F9 ?_ | refine B5 ?_ | skip
  refine R6 [(6,6),(28,33)] (fun ρ w'=>w' = w3 ∧ ρ 6 = .int .i64 ((cy + (dg a).getD l.length 0 : Nat) : Int)) rfl ?_ ?_ ?_
  ·intro hl2
   repeat (first | refine y8 (i:=l.length) (by conv=>(lhs; whnf)) rfl rfl ha1 (by omega) ?_ | refine r6 rfl ha1 (by omega) ?_ | refine wW ?_ | refine A2 rfl rfl ?_)
   exact ⟨by (repeat (first | refine i7 rfl ?_ | exact c7 | refine j1 rfl ?_ | exact b9)),rfl,rfl⟩
  ·intro hl2
   repeat (first | refine M5 ?_ | refine wp_skip ?_)
   refine ⟨by (repeat (first | refine i7 rfl ?_ | exact c7 | refine j1 rfl ?_ | exact b9 | refine m9 rfl ?_ | refine l9 rfl ?_)),rfl,congrArg (Value.int .i64) ?_⟩
   rw [W7 (l:=dg a) (by omega)]
   omega
  rintro u3 w4 ⟨rfl,h6⟩
  refine j7 6 h6 ?_
  clear h6
  obtain ⟨x,hx⟩ : ∃ x,x = (dg a).getD l.length 0:=⟨_,rfl⟩
  rw [← hx] at hda hta ⊢
  repeat (first | refine wW ?_ | refine b8 ?_ | refine z6 (by conv=>(lhs; whnf)) (by assumption) ?_ | refine N4 rfl rfl ?_)
  first | refine d8 ?_ | refine F9 ?_ | refine B5 ?_ | skip
  refine R6 [(6,6),(38,43)] (fun ρ w'=>w' = w4 ∧ ρ 6 = .int .i64 ((cy + x + (dg b).getD l.length 0 : Nat) : Int)) rfl ?_ ?_ ?_
  ·intro hl2
   repeat (first | refine y8 (i:=l.length) (by conv=>(lhs; whnf)) rfl rfl hb1 (by omega) ?_ | refine r6 rfl hb1 (by omega) ?_ | refine wW ?_ | refine A2 rfl rfl ?_)
   exact ⟨by (repeat (first | refine i7 rfl ?_ | exact c7 | refine j1 rfl ?_ | exact b9)),rfl,rfl⟩
  ·intro hl2
   repeat (first | refine M5 ?_ | refine wp_skip ?_)
   refine ⟨by (repeat (first | refine i7 rfl ?_ | exact c7 | refine j1 rfl ?_ | exact b9 | refine m9 rfl ?_ | refine l9 rfl ?_)),rfl,congrArg (Value.int .i64) ?_⟩
   rw [W7 (l:=dg b) (by omega)]
   omega
  rintro u4 w5 ⟨rfl,h6⟩
  refine j7 6 h6 ?_
  clear h6
  obtain ⟨y,hy⟩ : ∃ y,y = (dg b).getD l.length 0:=⟨_,rfl⟩
  rw [← hy] at hdb htb ⊢
  have hcn:=br4 (x:=x + y) Z1
  obtain ⟨s,hs⟩ : ∃ s,s = cy + x + y:=⟨_,rfl⟩
  rw [← Nat.add_assoc,← hs] at hcn
  rw [← hs]
  have hs0 : M ≤ l.length → s = cy:=fun h=>by rw [hs,hx,hy,W7 (by omega),W7 (by omega)]; omega
  repeat (first | refine wW ?_ | refine aq0 rfl rfl (by omega) (by omega) ?_)
  refine ab4 (by conv=>(lhs; whnf)) rfl ?_
  intro w6 g k6 hg hgs
  refine U2 (by conv=>(lhs; whnf)) (ab6 ho k6) rfl hg (by omega) rfl (by simp [Value.oneCell']) (by unfold maxLen; omega) (by omega) (by have:=k6.size; omega) ?_
  intro v7 w7 ho7 k7
  have hlen : (l ++ [s % 1000000000]).length = l.length + 1:=by rw [List.length_append]; rfl
  repeat (first | refine wW ?_ | refine A2 rfl rfl ?_ | refine ao9 rfl rfl (by omega) (by omega) (by omega) ?_)
  refine ⟨by (repeat (first | refine i7 rfl ?_ | exact c7 | refine j1 rfl ?_ | exact b9 | refine m9 rfl ?_ | refine l9 rfl ?_)),M + 2 - (l.length + 1),by omega,l ++ [s % 1000000000],v7,s / 1000000000,rfl,congrArg (Value.int .i64) (by omega),congrArg (Value.int .i64) (by rw [hlen]; omega),by omega,by rw [hlen],?_,hdl.append (Digs.cons (by omega) V0),?_,?_,by simpa using ho7⟩
  ·rw [hlen]
   rcases Nat.lt_or_ge l.length M with h | h
   ·exact .inl (by omega)
   ·have e1:=hs0 h
    have e2 : l.length = M:=by omega
    have e3 : cy = 1:=by omega
    refine .inr ⟨by omega,by omega,?_⟩
    rw [e2,e3,D7 (by omega),D7 (by omega),x8,x8] at Z1
    omega
  ·rw [hlen,am5,hcn,hta,htb,Nat.mul_add]
   omega
  exact Keeps.later (k1.trans k6) k7 fun i hi _ e=>by have:=(ho.lt i e.symm).1; omega
 repeat (first | refine wW ?_ | refine wp_exit ?_)
 have e : r9 l = a + b:=by
  have hcy0 : cy = 0:=by omega
  subst hcy0
  rw [D7 (by omega),D7 (by omega),x8,x8] at Z1
  omega
 have hcan : a66 l:=b21 hdl fun hne=>by
  have hl0 : 0 < l.length:=List.length_pos_iff.2 hne
  rw [e]
  rcases hll with h | ⟨h,_,h2⟩
  ·rcases Nat.lt_or_ge (dg a).length (dg b).length with h3 | h3
   ·have e4 : l.length = dl b:=by unfold dl; omega
    have:=cg0 (a:=b) (by omega)
    rw [e4]
    omega
   ·have e4 : l.length = dl a:=by unfold dl; omega
    have:=cg0 (a:=a) (by omega)
    rw [e4]
    omega
  rw [h,Nat.add_sub_cancel]; exact h2
 refine o5 rfl ⟨k1,?_⟩
 have h8:=Row.of_own ho hS
 show Sl _ _ _ _ _ _
 rw [← e,bd6 hcan]
 exact h8
theorem d53 (hS : Up S w) (ha : s5 S 3 .i64 w va a) (hb : s5 S 3 .i64 w vb b) (hla : dl a ≤ 8000000000000) (hlb : dl b ≤ 8000000000000) :
  Gives prog 156 [va,vb] w fun v' w'=>Ext w w' ∧ s5 S 3 .i64 w' v' (a * b):=by
 have hla' : (dg a).length ≤ 8000000000000:=hla
 have hlb' : (dg b).length ≤ 8000000000000:=hlb
 refine l6 func156 rfl rfl rfl ?_
 repeat (first | refine wW ?_ | refine z6 (by conv=>(lhs; whnf)) (by assumption) ?_ | refine A2 rfl rfl ?_)
 refine bb1 (l:=(dg a).length + (dg b).length) (c:=(dg a).length + (dg b).length) rfl rfl (by omega) (by omega) (Nat.le_refl _) (by omega) (by unfold maxLen; omega) ?_
 intro w1 g k1 hg hgs
 have hg : Blk w1 g 3 ((List.replicate ((dg a).length + (dg b).length) 0).map fun d : Nat=>.int .i64 d):=by
  simpa [toList_madeCells_one,Value.cells,List.map_replicate] using hg
 have ha0:=ha.mono (S':=fun k=>S k ∧ k < w.heap.size) fun i hi hs=>⟨hs,hi⟩
 have hb0:=hb.mono (S':=fun k=>S k ∧ k < w.heap.size) fun i hi hs=>⟨hs,hi⟩
 repeat (first | refine wW ?_ | refine b8 ?_)
 try refine n6 ?_
 refine F4 [(6,9),(16,63)] (fun k ρ w'=>∃ (i : Nat) (o : List Nat),k + i = (dg a).length ∧ ρ 6 = .int .i64 i ∧ o.length = (dg a).length + (dg b).length ∧ Digs o ∧ r9 o = r9 ((dg a).take i) * b ∧ (∀ j,i + (dg b).length ≤ j → o.getD j 0 = 0) ∧
   Blk w' g 3 (o.map fun d : Nat=>.int .i64 d) ∧ Keeps (fun k=>k < w.heap.size) w w') (dg a).length
  ⟨0,List.replicate ((dg a).length + (dg b).length) 0,by omega,rfl,by simp,fun x hx=>by rw [List.eq_of_mem_replicate hx]; omega,by rw [a09]; simp [r9],fun j _=>by simp [List.getD_eq_getElem?_getD,List.getElem?_replicate]; split <;> rfl,hg,k1.mono fun _ _=>trivial⟩ ?_
 rintro k u w2 ⟨i,o,hki,h6,hol,hod,hv,hz,hg2,k2⟩
 refine j7 6 h6 ?_
 clear h6 hg
 have ha2 : s5 (fun k=>S k ∧ k < w.heap.size) 3 .i64 w2 va a:=ha0.keep (k2.mono fun i hi=>hi.2)
 have hda:=K7 a i
 repeat (first | refine wW ?_ | refine b8 ?_ | refine z6 (by conv=>(lhs; whnf)) (by assumption) ?_ | refine N4 rfl rfl ?_)
 try refine d8 ?_
 refine j3 rfl ?_ ?_ <;> intro hc
 ·repeat (first | refine wW ?_ | refine y6 ?_ | refine q5 ?_ | refine wp_skip ?_)
  obtain ⟨x,hx⟩ : ∃ x,x = (dg a).getD i 0:=⟨_,rfl⟩
  first | refine n6 ?_ | refine F9 ?_ | refine B5 ?_ | skip
  refine au3 [(7,9),(22,63)] (fun ρ w'=>∃ (o' : List Nat),o'.length = o.length ∧ Digs o' ∧ r9 o' = r9 o + 1000000000 ^ i * (x * b) ∧
    (∀ j,i + 1 + (dg b).length ≤ j → o'.getD j 0 = 0) ∧ Blk w' g 3 (o'.map fun d : Nat=>.int .i64 d) ∧ Keeps (fun k=>k < w.heap.size) w w') ?_ ?_
  ·try refine n6 ?_
   refine F4 [(7,9),(22,63)] (fun k ρ w'=>∃ (j : Nat) (o' : List Nat) (c : Nat),k = (dg b).length + 2 - j ∧ ρ 8 = .int .i64 j ∧ ρ 7 = .int .i64 c ∧ c < 1000000000 ∧ (j ≤ (dg b).length ∨ (j = (dg b).length + 1 ∧ c = 0)) ∧ o'.length = o.length ∧ Digs o' ∧ r9 o' + 1000000000 ^ (i + j) * c = r9 o + 1000000000 ^ i * (x * r9 ((dg b).take j)) ∧
    (∀ p,i + max j (dg b).length ≤ p → o'.getD p 0 = 0) ∧ Blk w' g 3 (o'.map fun d : Nat=>.int .i64 d) ∧ Keeps (fun k=>k < w.heap.size) w w') ((dg b).length + 2)
    ⟨0,o,0,by omega,rfl,rfl,by omega,by omega,rfl,hod,by simp [r9],fun p hp=>hz p (by omega),hg2,k2⟩ ?_
   rintro k2' u2 w3 ⟨j,o',c,hkj,h8,h7,hc9,hjj,hol',hod',hv',hz',hg3,k3⟩
   refine j7 8 h8 (j7 7 h7 ?_)
   clear h8 h7
   have ha3 : s5 (fun k=>S k ∧ k < w.heap.size) 3 .i64 w3 va a:=ha0.keep (k3.mono fun i hi=>hi.2)
   have hb3 : s5 (fun k=>S k ∧ k < w.heap.size) 3 .i64 w3 vb b:=hb0.keep (k3.mono fun i hi=>hi.2)
   repeat (first | refine wW ?_ | refine b8 ?_ | refine z6 (by conv=>(lhs; whnf)) (by assumption) ?_ | refine N4 rfl rfl ?_)
   refine cb1 [(26,29)] (fun ρ w'=>ρ 29 = .bool (tst (j < (dg b).length ∨ 0 < c)) ∧ w' = w3) ?_ ?_
   ·refine D6 rfl rfl ?_ ?_ <;> intro hlt
    ·repeat (first | refine wW ?_ | refine s9 rfl rfl rfl ?_ | refine s4 rfl ?_)
     exact ⟨by (repeat (first | refine i7 rfl ?_ | exact c7 | refine j1 rfl ?_ | exact b9 | refine m9 rfl ?_ | refine l9 rfl ?_)),by rw [j6 (Or.inl (by omega))]; rfl,rfl⟩
    repeat (first | refine wW ?_ | refine q6 rfl rfl ?_ | refine p9 rfl ?_ | refine Y1 rfl rfl ?_)
    refine ⟨by (repeat (first | refine i7 rfl ?_ | exact c7 | refine j1 rfl ?_ | exact b9 | refine m9 rfl ?_ | refine l9 rfl ?_)),congrArg Value.bool (R0 ?_),rfl⟩
    omega
   rintro u3 w4 ⟨h29,rfl⟩
   refine j7 29 h29 ?_
   clear h29
   skip
   try refine d8 ?_
   refine j3 rfl ?_ ?_ <;> intro hjc
   ·have hij : i + j < o'.length:=by omega
    have hdo:=hod'.getD (i + j)
    have hdb:=K7 b j
    repeat (first | refine H8 (i:=i + j) rfl rfl (by omega) (by omega) ?_ | refine at1 rfl hg3 hij ?_ | refine wW ?_ | refine b8 ?_ | refine y6 ?_ | refine q5 ?_ | refine wp_skip ?_ | refine z6 (by conv=>(lhs; whnf)) (by assumption) ?_ | refine N4 rfl rfl ?_ | refine A2 rfl rfl ?_)
    first | refine d8 ?_ | refine F9 ?_ | refine B5 ?_ | skip
    refine R6 [(9,9),(44,54)] (fun ρ w'=>Ext w4 w' ∧ ρ 9 = .int .i64 ((o'.getD (i + j) 0 + c + x * (dg b).getD j 0 : Nat) : Int)) rfl ?_ ?_ ?_
    ·intro hjb
     have hmul : x * (dg b).getD j 0 ≤ 999999999 * 999999999:=Nat.mul_le_mul (by omega) (by omega)
     have hmi : (((dg a).getD i 0 : Nat) : Int) * (((dg b).getD j 0 : Nat) : Int) = ((x * (dg b).getD j 0 : Nat) : Int):=by rw [hx]; exact (Int.natCast_mul ..).symm
     try refine A0 ?_
     refine s7 10 ?_
     apply a7
     ·intro x w1 k1 hd
      refine q8 ?_
      refine b7 ?_
      exact i6
     apply a7
     ·intro x w1 k1 hd
      refine q8 ?_
      refine b7 ?_
      exact i6
     apply a7
     ·intro x w1 k1 hd
      refine q8 ?_
      refine b7 ?_
      exact i6
     apply a7
     ·intro x w1 k1 hd
      refine y8 (i:=i) (by conv=>(lhs; whnf)) rfl rfl (ha3.to k1) (by omega) ?_
      refine b7 ?_
      exact i6
     apply a7
     ·intro x w1 k1 hd
      refine r6 rfl (ha3.to k1) (by omega) ?_
      refine b7 ?_
      exact i6
     apply a7
     ·intro x w1 k1 hd
      refine q8 ?_
      refine b7 ?_
      exact i6
     apply a7
     ·intro x w1 k1 hd
      refine q8 ?_
      refine b7 ?_
      exact i6
     apply a7
     ·intro x w1 k1 hd
      refine y8 (i:=j) (by conv=>(lhs; whnf)) rfl rfl (hb3.to k1) (by omega) ?_
      refine b7 ?_
      exact i6
     apply a7
     ·intro x w1 k1 hd
      refine r6 rfl (hb3.to k1) (by omega) ?_
      refine b7 ?_
      exact i6
     apply a7
     ·intro x w1 k1 hd
      refine bb5 rfl rfl (by rw [hmi]; omega) (by rw [hmi]; omega) ?_
      refine b7 ?_
      exact i6
     refine F5 (G7 ?_)
     intro z w5 k5 _
     repeat (first | refine cj5 rfl rfl (by rw [hmi]; omega) (by rw [hmi]; omega) ?_ | refine wW ?_)
     exact ⟨by (repeat (first | refine i7 rfl ?_ | exact c7 | refine j1 rfl ?_ | exact b9 | refine m9 rfl ?_ | refine l9 rfl ?_)),k5,congrArg (Value.int .i64) (by rw [hmi,Int.natCast_add,Int.natCast_add])⟩
    ·intro hjb
     repeat (first | refine M5 ?_ | refine wp_skip ?_)
     refine ⟨by (repeat (first | refine i7 rfl ?_ | exact c7 | refine j1 rfl ?_ | exact b9 | refine m9 rfl ?_ | refine l9 rfl ?_)),.refl,congrArg (Value.int .i64) ?_⟩
     rw [W7 (l:=dg b) (by omega)]
     omega
    rintro u5 w5 ⟨k5,h9⟩
    refine j7 9 h9 ?_
    clear h9
    have hg5:=hg3.to k5
    obtain ⟨y,hy⟩ : ∃ y,y = (dg b).getD j 0:=⟨_,rfl⟩
    obtain ⟨t,ht⟩ : ∃ t,t = o'.getD (i + j) 0:=⟨_,rfl⟩
    rw [← hy,← ht]
    rw [← hy] at hdb
    rw [← ht] at hdo
    have hmul : x * y ≤ 999999999 * 999999999:=Nat.mul_le_mul (by omega) (by omega)
    have bc4:=cb4 (m:=x * y) hij hv'
    rw [← ht] at bc4
    obtain ⟨s,hs⟩ : ∃ s,s = t + c + x * y:=⟨_,rfl⟩
    rw [← hs]
    have hs9 : s < 1000000000 * 1000000000:=by omega
    have hj1 : (dg b).length ≤ j → s = c:=fun h=>by
     have h0:=hz' (i + j) (by omega)
     rw [← ht] at h0
     rw [hs,hy,W7 (l:=dg b) h,h0]
     omega
    repeat (first | refine H8 (i:=i + j) rfl rfl (by omega) (by omega) ?_ | refine wW ?_ | refine A2 rfl rfl ?_ | refine aq0 rfl rfl (by omega) (by omega) ?_)
    refine U6 (c:=s % 1000000000) rfl rfl rfl hg5 hij ?_
    intro w6 k6 hg6
    repeat (first | refine wW ?_ | refine A2 rfl rfl ?_ | refine ao9 rfl rfl (by omega) (by omega) (by omega) ?_)
    refine ⟨by (repeat (first | refine i7 rfl ?_ | exact c7 | refine j1 rfl ?_ | exact b9 | refine m9 rfl ?_ | refine l9 rfl ?_)),(dg b).length + 2 - (j + 1),by omega,j + 1,o'.set (i + j) (s % 1000000000),s / 1000000000,rfl,rfl,rfl,by omega,?_,by rw [List.length_set]; exact hol',hod'.set (by omega) _,?_,fun p hp=>?_,hg6,?_⟩
    ·rcases Nat.lt_or_ge j (dg b).length with h | h
     ·exact .inl (by omega)
     have:=hj1 h; omega
    ·have e : x * y + t + c = s:=by rw [hs]; omega
     rw [e] at bc4
     rw [← Nat.add_assoc,bc4,M6,← hy,Nat.mul_add,Nat.mul_add,Nat.add_assoc]
     congr 2
     rw [Nat.pow_add,Nat.mul_assoc]
     congr 1
     rw [← Nat.mul_assoc,← Nat.mul_assoc,Nat.mul_comm x]
    ·rw [S9 (by omega)]
     exact hz' p (by omega)
    exact (k3.trans (.of k5)).trans (k6.mono fun i hi=>by omega)
   ·repeat (first | refine M5 ?_ | refine wp_exit ?_ | refine Y3 ?_ | refine R7 rfl ?_)
    refine ⟨by (repeat (first | refine i7 rfl ?_ | exact c7 | refine j1 rfl ?_ | exact b9 | refine m9 rfl ?_ | refine l9 rfl ?_)),o',hol',hod',?_,fun p hp=>hz' p (by omega),hg3,k3⟩
    have hcy0 : c = 0:=by omega
    subst hcy0
    rw [D7 (by omega),x8] at hv'
    omega
  rintro u3 w4 ⟨o',hol',hod',hv',hz',hg4,k4⟩
  repeat (first | refine wW ?_ | refine A2 rfl rfl ?_)
  refine ⟨by (repeat (first | refine i7 rfl ?_ | exact c7 | refine j1 rfl ?_ | exact b9 | refine m9 rfl ?_ | refine l9 rfl ?_)),k - 1,by omega,i + 1,o',by omega,rfl,by omega,hod',?_,fun p hp=>hz' p (by omega),hg4,k4⟩
  rw [hv',hv,M6,← hx,Nat.add_mul,Nat.mul_assoc]
 repeat (first | refine wW ?_ | refine wp_exit ?_)
 refine d9 (aw3 (S:=S) (v:=.slice (some ⟨g,0,none⟩) ((dg a).length + (dg b).length) ((dg a).length + (dg b).length)) (l:=o) ?_ hod) rfl ?_
 ·have h4:=Row.of_blk (S:=S) (s:=1) (n:=o.length) (cap:=o.length) hg2 (hS g (by omega)) (Nat.le_refl _) (by unfold maxLen; omega) (by simp)
  rw [Nat.mul_one,List.take_of_length_le (by simp)] at h4
  rw [← hol]
  exact h4
 rintro v4 w4 ⟨rfl,h4⟩
 repeat refine wW ?_
 refine o5 rfl ⟨?_,?_⟩
 ·exact Keeps.later .refl k2 fun i hi _=>hi
 rw [hv,D7 (by omega),x8] at h4
 exact h4
section rules
variable {P : Program} {n : Nat} {Q : G8} {ρ : Fr} {w : World} {all rest : List Oper} {d : Tmp} {ty : TypeId} {pos : String} {aft : Array Edge}
theorem aa9 {a : Addr} (hx : ev ρ x = .pointer (some a)) (h : WpR P n all Q rest (upd ρ d (.pointer (some a))) w) :
  WpR P n all Q (⟨some d,.nilCheck x,ty,pos,aft,none⟩ :: rest) ρ w:=
 F1 rfl rfl (by simp [execOp,hx]) h
theorem bx7 {src dst : TypeId} (hx : ev ρ x = u) (hr : (convert src dst u).run P w = .ok v w) (h : WpR P n all Q rest (upd ρ d v) w) :
  WpR P n all Q (⟨some d,.convert src dst x,ty,pos,aft,none⟩ :: rest) ρ w:=
 F1 rfl rfl (by subst hx; simp [execOp,hr]) h
theorem a30 {e : TypeId} (hp : P.underlying t = some (.pointer e)) {a : Option Addr} (hx : ev ρ x = .pointer a) (h : WpR P n all Q rest (upd ρ d (.bool a.isNone)) w) :
  WpR P n all Q (⟨some d,.binOp .eql t x (.const (.pointer none)) t2,ty,pos,aft,none⟩ :: rest) ρ w:=by
 refine F1 rfl rfl ?_ h
 have hn : ev ρ (.const (.pointer none)) = .pointer none:=rfl
 have h2 : (Op.equal t (.pointer a) (.pointer none)).run P w = .ok a.isNone w:=by
  unfold Op.equal Op.maxDepth Op.equalIn
  cases a <;> simp [run_underlying hp]
 simp [execOp,hx,hn,eqGuard,binOp,h2]
theorem cj6 {e : TypeId} {j : TypeInfo} (hp : P.underlying t = some (.pointer e)) (hj : P.info? e = some j) {a : Addr} (hx : ev ρ x = .pointer (some a)) (hy : ev ρ y = .pointer (some a)) (h : WpR P n all Q rest (upd ρ d (.bool false)) w) :
  WpR P n all Q (⟨some d,.binOp .neq t x y t2,ty,pos,aft,none⟩ :: rest) ρ w:=by
 refine F1 rfl rfl ?_ h
 have h2:=Lib.run_neq_ptr_same (P:=P) w a hp hj
 simp [execOp,hx,hy,eqGuard,h2]
theorem dm2 {f : FuncId} {l : List Operand} {ts : Array TypeId} {args : List Value} (hr : (callFunc f args.toArray).run P w = .ok (.value v) w) (ha : l.map (ev ρ) = args)
  (h : WpR P n all Q rest (upd ρ d v) w) : WpR P n all Q (⟨some d,.call ⟨.value (.func f),l.toArray,ts⟩,ty,pos,aft,none⟩ :: rest) ρ w:=by
 refine F1 rfl rfl ?_ h
 subst ha
 simp [execOp,resolve,Deferred.ofValue,ev,invoke,hr]
theorem cy9 [ti : TyI P t 1 b z agg] {a : Addr} {c : Value}
  (hx : ev ρ x = .pointer (some a)) (hy : ev ρ y = u) (hc : w.cell? a = some c) (hf : w.frozen? a = false) (h1 : u.oneCell' = true)
  (h : WpR P n all Q rest ρ (w.setCell a u)) : WpR P n all Q (⟨none,.store t x y,ty,pos,aft,none⟩ :: rest) ρ w:=by
 refine b14 rfl rfl ?_ h
 have hcc : u.cells = #[u]:=am2 h1
 have h2:=run_store P w a u .plain h1
 rw [hc,hf] at h2
 simp only [Bool.false_eq_true,if_false] at h2
 have h3 : a.add 0 = a:=by unfold Addr.add; simp
 simp [execOp,hx,hy,Instr.storeAt,Instr.sureAddr,storeVar,ti.runSize w,hcc,storeCells,h3,h2]
theorem bw0 {u e : TypeId} [st : SlT P t e] [su : StrT P u] [ti : TyI P e 1 1 (.int .u8 0) false] {base : Nat} {xs : List Value} {s : List UInt8}
  (hx : ev ρ x = v) (hown : Own base e 1 w v m xs) (hy : ev ρ y = F3 s) (hbytes : m + s.length ≤ 140737488355328) (hbase : base ≤ w.heap.size)
  (h : ∀ v' w',Own base e 1 w' v' (m + s.length) (xs ++ Lib.byteCells s) → Keeps (fun i=>some i ≠ v.ownBlock) w w' → WpR P n all Q rest (upd ρ d v') w') :
  WpR P n all Q (⟨some d,.call ⟨.builtin .append,#[x,y],#[t,u]⟩,ty,pos,aft,none⟩ :: rest) ρ w:=by
 obtain ⟨i,hi,e1,e2,e3⟩:=ti.ex
 obtain ⟨v',w',hr,h2,h3,_⟩:=Lib.run_append_own_string (P:=P) w base t u ty e i st.und su.und hi e3 e1 e2 v m xs hown ⟨s.toArray⟩ (by show m + s.toArray.size ≤ _; simp [maxLen]; omega) (by show m + s.toArray.size ≤ _; simpa using hbytes) hbase
 have es : (⟨s.toArray⟩ : ByteArray).size = s.length:=by show s.toArray.size = _; simp
 rw [es,Lib.strCells_eq] at h2
 refine al0 rfl rfl ?_ (h v' w' h2 (.of_grown h3))
 simp [execOp,resolve,invoke,builtin,hx,hy,hr]
end rules
abbrev BuiltF (B b : Nat) (bs : List UInt8) (w : World) : Prop:=Lib.IsBuilder 221 5 B b (Lib.byteCells bs) w
theorem liesBuilder : liesAt prog prog.depth 221 (2 / prog.cellsOf 221) 0 221 1 = true:=by kernel_rfl
theorem b84 {bs : List Value} (h : Lib.IsBuilder 221 5 B b bs w) :
  Gives prog 202 [.pointer (some ⟨b,0,none⟩)] w fun v' w'=>Lib.BuilderAt 221 5 B b (.pointer (some ⟨b,0,none⟩)) bs w' ∧ Below B w w':=by
 obtain ⟨i,hi,hsz,_⟩:=(inferInstance : TyI prog 221 2 _ _ _).ex
 rcases h with h | h
 ·refine l6 func202 rfl rfl rfl ?_
  repeat (first | refine aa9 rfl ?_ | refine wW ?_ | refine j4 rfl ?_)
  refine a11 (u:=.pointer none) rfl (ad4 inferInstance h.cell0) ?_
  refine a30 underlying218 rfl ?_
  repeat (first | refine wW ?_ | refine wp_cond_true rfl ?_)
  refine bx7 rfl (Lib.run_to_unsafe w ⟨b,0,none⟩ underlying218 underlying259 hi (by rw [hsz]; decide) h.shape (Nat.zero_lt_succ 1)) ?_
  refine dm2 (args:=[.pointer (some ⟨b,0,none⟩)]) (v:=.pointer (some ⟨b,0,none⟩)) ?_ rfl ?_
  ·rw [run_callFunc_extern func227 (by kernel_rfl) (by kernel_rfl) (by kernel_rfl) (e:=Extern.AbiNoEscape.same) (by kernel_rfl)]
   rw [Lib.run_noEscape]
   rfl
  refine bx7 rfl (Lib.run_from_unsafe w ⟨b,0,none⟩ underlying259 underlying218 hi h.shape liesBuilder) ?_
  repeat (first | refine aa9 rfl ?_ | refine j4 rfl ?_)
  refine cy9 (a:=⟨b,0,none⟩) rfl rfl h.cell0 h.frozen0 rfl ?_
  repeat (first | refine b7 ?_)
  exact ⟨[],rfl,h.used _,(Below.refl B w).setCell (p:=⟨b,0,none⟩) h.1 _⟩
 ·refine l6 func202 rfl rfl rfl ?_
  repeat (first | refine aa9 rfl ?_ | refine wW ?_ | refine j4 rfl ?_)
  refine a11 (u:=.pointer (some ⟨b,0,none⟩)) rfl (ad4 inferInstance h.cell0) ?_
  refine a30 underlying218 rfl ?_
  repeat (first | refine aa9 rfl ?_ | refine wW ?_ | refine j4 rfl ?_ | refine wp_cond_false rfl ?_)
  refine a11 (u:=.pointer (some ⟨b,0,none⟩)) rfl (ad4 inferInstance h.cell0) ?_
  repeat (first | refine q8 ?_)
  refine cj6 underlying218 hi rfl rfl ?_
  repeat (first | refine wW ?_ | refine wp_skip ?_ | refine wp_cond_false rfl ?_)
  exact ⟨[],rfl,h,Below.refl B _⟩
theorem ay5 {bs s : List UInt8} (h : BuiltF B b bs w) (hlen : bs.length + s.length ≤ 140737488355328) (hBw : B ≤ w.heap.size) :
  Gives prog 179 [.pointer (some ⟨b,0,none⟩),F3 s] w fun v' w'=>BuiltF B b (bs ++ s) w' ∧ Below B w w':=by
 refine l6 func179 rfl rfl rfl ?_
 repeat refine wW ?_
 refine d9 (b84 h) rfl ?_
 rintro v1 w1 ⟨h1,k1⟩
 obtain ⟨hB,v,hbk,hown,hne⟩:=h1
 have hblk : Blk w1 b 221 [.pointer (some ⟨b,0,none⟩),v]:=hbk
 have hk1:=k1.size
 repeat (first | refine aa9 rfl ?_ | refine d7 rfl hblk rfl ?_ | refine wW ?_ | refine j4 rfl ?_)
 rw [Lib.byteCells_length] at hown
 refine bw0 (by conv=>(lhs; whnf)) hown rfl hlen (by omega) ?_
 intro v2 w2 hown2 k2
 repeat (first | refine aa9 rfl ?_ | refine j4 rfl ?_)
 have hblk2 : Blk w2 b 221 [.pointer (some ⟨b,0,none⟩),v]:=hblk.keep k2 (fun e=>hne e.symm)
 have h1 : v2.oneCell' = true:=by
  rcases hown2.2 with ⟨hv,_⟩ | ⟨g,cap,cur,hv,_⟩ <;> rw [hv] <;> rfl
 refine O4 (i:=1) rfl rfl hblk2 (show 1 < 2 by decide) h1 ?_
 intro w3 k3 hblk3
 repeat (first | refine wW ?_ | refine bs3 rfl ?_)
 refine au4 rfl (by conv=>(lhs; whnf)) (by conv=>(lhs; whnf)) ⟨.inr ⟨hB,v2,hblk3,?_,?_⟩,?_⟩
 ·have hl : (Lib.byteCells bs ++ Lib.byteCells s).length = bs.length + s.length:=by rw [List.length_append,Lib.byteCells_length,Lib.byteCells_length]
  rw [Lib.byteCells_append,hl]
  exact ad1 hown2 k3 fun g hg e=>Lib.ownBlock_ne hown2 hblk2 (by decide) (e ▸ hg)
 ·exact Lib.ownBlock_ne hown2 hblk2 (by decide)
 have k4 : Keeps (fun k=>k < B) w1 w3:=(Keeps.own hown k2).trans (k3.mono fun i hi e=>by omega)
 refine k1.trans ⟨k4.os,k4.tape,k4.output,k4.size,fun i hi=>k4.block i (by omega) hi⟩
end Go.Proofs.YtmkhgjccoolfjaaGreatDoor
end
section
namespace Go.Proofs.YtmkhgjccoolfjaaGreatDoor
open Go Tryz
variable {u k a b n : Nat}
def low : Nat → Nat → List UInt8
 | 0,_=>[]
 | k + 1,v=>UInt8.ofNat (48 + v % 10) :: low k (v / 10)
theorem ag4 (k v : Nat) : (low k v).length = k:=by
 induction k generalizing v with
 | zero=>rfl
 | succ k ih=>simp [low,ih]
theorem aq5 (j k v : Nat) : low (j + k) v = low j v ++ low k (v / 10 ^ j):=by
 induction j generalizing v with
 | zero=>simp [low]
 | succ j ih=>
  rw [show j + 1 + k = (j + k) + 1 by omega,low,ih,low,List.cons_append,Nat.div_div_eq_div_mul,Nat.pow_succ,Nat.mul_comm (10 ^ j)]
theorem dn7 (k v : Nat) : low k (v % 10 ^ k) = low k v:=by
 induction k generalizing v with
 | zero=>rfl
 | succ k ih=>
  have h1 : v % 10 ^ (k + 1) % 10 = v % 10:=Nat.mod_mod_of_dvd _ ⟨10 ^ k,by rw [Nat.pow_succ,Nat.mul_comm]⟩
  have h2 : v % 10 ^ (k + 1) / 10 = v / 10 % 10 ^ k:=by
   rw [Nat.pow_succ,Nat.mul_comm,Nat.mod_mul_right_div_self]
  rw [low,low,h1,h2,ih]
theorem dc1 (k : Nat) : low k 0 = List.replicate k 48:=by
 induction k with
 | zero=>rfl
 | succ k ih=>simp [low,ih,List.replicate_succ]
theorem bf9 (u : Nat) : (Lib.decDigits u).reverse = low (Lib.nDigits u) u:=by
 induction u using Nat.strongRecOn with
 | _ u ih=>
  rw [Lib.decDigits,Lib.nDigits]
  by_cases h : u < 10
  ·simp [dif_pos h,low,Nat.mod_eq_of_lt h]
  simp only [dif_neg h,List.reverse_append,List.reverse_cons,List.reverse_nil,List.nil_append,List.cons_append,low]
  rw [ih (u / 10) (by omega)]
theorem do0 (h : Lib.nDigits u ≤ k) : low k u = (Lib.decDigits u).reverse ++ List.replicate (k - Lib.nDigits u) 48:=by
 obtain ⟨j,rfl⟩ : ∃ j,k = Lib.nDigits u + j:=⟨k - Lib.nDigits u,by omega⟩
 rw [aq5,bf9,Nat.div_eq_of_lt (Lib.lt_pow_nDigits u),dc1,Nat.add_sub_cancel_left]
theorem c27 (ha : 0 < a) (hb : b < 10 ^ k) : Lib.decDigits (a * 10 ^ k + b) = Lib.decDigits a ++ (low k b).reverse:=by
 induction k generalizing b with
 | zero=>
  obtain rfl : b = 0:=by simpa using hb
  simp [low]
 | succ k ih=>
  have hp : 0 < 10 ^ k:=Nat.pow_pos (by decide)
  have h0 : a * 10 ^ k * 10 = a * 10 ^ (k + 1):=by rw [Nat.pow_succ,Nat.mul_assoc]
  have h1 : 10 ^ k ≤ a * 10 ^ k:=Nat.le_mul_of_pos_left _ ha
  have h2 : (a * 10 ^ (k + 1) + b) / 10 = a * 10 ^ k + b / 10:=by omega
  have h3 : (a * 10 ^ (k + 1) + b) % 10 = b % 10:=by omega
  rw [Lib.decDigits,dif_neg (by omega),h2,h3,ih (by rw [Nat.pow_succ] at hb; omega),low]
  simp
theorem ao4 (hk : 0 < k) (h : u < 10 ^ k) : Lib.nDigits u ≤ k:=by
 induction k generalizing u with
 | zero=>omega
 | succ k ih=>
  by_cases h1 : u < 10
  ·rw [Lib.nDigits_small h1]; omega
  ·rw [Lib.nDigits_big h1]
   rw [Nat.pow_succ] at h
   rcases Nat.eq_zero_or_pos k with e | e
   ·subst e; simp at h; omega
   ·have:=ih (u:=u / 10) e (by omega)
    omega
theorem fd7 (hb : b < 1000000000) : (low 9 b).reverse = List.replicate (9 - Lib.nDigits b) 48 ++ Lib.decDigits b:=by
 rw [do0 (ao4 (by omega) (by omega : b < 10 ^ 9))]
 simp
theorem c87 (ha : 0 < a) (hb : b < 1000000000) : Lib.decDigits (b + 1000000000 * a) = Lib.decDigits a ++ (List.replicate (9 - Lib.nDigits b) 48 ++ Lib.decDigits b):=by
 rw [← fd7 hb,← c27 ha (by omega : b < 10 ^ 9)]
 congr 1
 omega
theorem ap4 (hb : b < 1000000000) : Lib.nDigits b ≤ 9:=ao4 (by omega) (by omega : b < 10 ^ 9)
theorem ai3 (k : Nat) : 1000000000 ^ k = 10 ^ (9 * k):=by rw [Nat.pow_mul]
theorem ay6 (h : 0 < n) : Lib.nDigits n ≤ 9 * dl n:=by
 have h1:=A6 n
 rw [ai3] at h1
 have:=bx8 (n:=n) (by omega)
 exact ao4 (by omega) h1
theorem co6 {v i : Nat} (h : i < k) : (low k v)[i]? = some (UInt8.ofNat (48 + v / 10 ^ i % 10)):=by
 induction k generalizing v i with
 | zero=>omega
 | succ k ih=>
  cases i with
  | zero=>simp [low]
  | succ i=>rw [low,List.getElem?_cons_succ,ih (by omega),Nat.div_div_eq_div_mul,Nat.pow_succ,Nat.mul_comm 10]
theorem c72 (k v : Nat) : low (k + 1) v = low k v ++ [UInt8.ofNat (48 + v / 10 ^ k % 10)]:=by
 rw [aq5]
 rfl
theorem bn2 (h : 0 < n) : n / 10 ^ (Lib.nDigits n - 1) % 10 ≠ 0:=by
 induction n using Nat.strongRecOn with
 | _ n ih=>
  by_cases h1 : n < 10
  ·rw [Lib.nDigits_small h1]; simp; omega
  have h2:=ih (n / 10) (by omega) (by omega)
  have h3:=Lib.nDigits_pos (n / 10)
  rw [Lib.nDigits_big h1,Nat.add_sub_cancel]
  obtain ⟨j,hj⟩ : ∃ j,Lib.nDigits (n / 10) = j + 1:=⟨Lib.nDigits (n / 10) - 1,by omega⟩
  rw [hj] at h2 ⊢
  rw [Nat.add_sub_cancel] at h2
  rw [Nat.pow_succ,Nat.mul_comm,← Nat.div_div_eq_div_mul]
  exact h2
theorem b31 (h : Lib.nDigits n ≤ k) : n / 10 ^ k % 10 = 0:=by
 have h1:=Lib.lt_pow_nDigits n
 have h2 : 10 ^ Lib.nDigits n ≤ 10 ^ k:=Nat.pow_le_pow_right (by omega) h
 rw [Nat.div_eq_of_lt (by omega)]
theorem bk2 (n : Nat) : ∀ i,(dg n).getD i 0 = n / 1000000000 ^ i % 1000000000:=by
 induction n using Nat.strongRecOn with
 | _ n ih=>
  intro i
  by_cases h : n = 0
  ·subst h; simp [ak1]
  rw [al9 h]
  cases i with
  | zero=>simp
  | succ i=>rw [List.getD_cons_succ,ih _ (by omega),Nat.div_div_eq_div_mul,Nat.pow_succ,Nat.mul_comm 1000000000]
theorem c56 (n i : Nat) : low (9 * (i + 1)) n = low (9 * i) n ++ low 9 ((dg n).getD i 0):=by
 rw [Nat.mul_add,aq5,bk2,← ai3]
 congr 1
 exact (dn7 9 _).symm
end Go.Proofs.YtmkhgjccoolfjaaGreatDoor
end
section
namespace Go.Proofs
open Go.Shelf
def Tryz.lays169_ren : Go.Shelf.Ren:=⟨fun | 169=>182 | n=>n,fun | 70=>218 | 9=>9 | 0=>0 | 72=>221 | 37=>219 | 127=>242 | 3=>3 | 5=>5 | n=>n,fun | n=>n⟩
theorem Tryz.lays169 : Go.Proofs.Lays.n169 Tryz.prog Tryz.lays169_ren:={
 mixed:=by kernel_rfl
 f169:=Tryz.func182.trans (congrArg some (by kernel_rfl))
 t0:=Tryz.underlying0
 a0:=Tryz.isAgg0
 z0:=Tryz.sizeOf0
 v0:=Tryz.zeroValue0
 t3:=Tryz.underlying3
 a3:=Tryz.isAgg3
 z3:=Tryz.sizeOf3
 v3:=Tryz.zeroValue3
 t9:=Tryz.underlying9
 a9:=Tryz.isAgg9
 z9:=Tryz.sizeOf9
 v9:=Tryz.zeroValue9
 t37:=Tryz.underlying219
 a37:=Tryz.isAgg219
 z37:=Tryz.sizeOf219
 v37:=Tryz.zeroValue219
 t70:=Tryz.underlying218
 a70:=Tryz.isAgg218
 z70:=Tryz.sizeOf218
 v70:=Tryz.zeroValue218
 t72:=Tryz.underlying221
 a72:=Tryz.isAgg221
 z72:=Tryz.sizeOf221
 v72:=Tryz.zeroValue221
 t127:=Tryz.underlying242
 a127:=Tryz.isAgg242
 z127:=Tryz.sizeOf242
 v127:=Tryz.zeroValue242 }
theorem Tryz.Builder_Extra_169 : Builder.Extra Tryz.prog Tryz.lays169_ren:={
 sizeBuilder:=by kernel_rfl
 liesBuilder:=by kernel_rfl
 t5:=Tryz.underlying5
 a5:=Tryz.isAgg5
 z5:=Tryz.sizeOf5
 v5:=Tryz.zeroValue5
 infoByte:=by kernel_rfl
 cellsByte:=by kernel_rfl
 sizeByte:=by kernel_rfl
 neB5:=by decide }
open Go.RowKit in
theorem Tryz.Builder_String_any (B b : Nat) (l : List UInt8) (w : World) (h : Lib.IsBuilder 221 5 B b (Lib.byteCells l) w) (hBw : B ≤ w.heap.size) :
  Calls Tryz.prog 182 #[.pointer (some ⟨b,0,none⟩)] w fun e w'=>e = .returned (.string ⟨l.toArray⟩) ∧ Below B w w':=Any.Builder_String_any Tryz.lays169 Tryz.Builder_Extra_169 B b l w h hBw
def Tryz.laysM171_ren : Go.Shelf.Ren:=⟨fun | 171=>180 | 243=>203 | 246=>228 | 283=>250 | 284=>251 | 285=>252 | 286=>253 | 129=>264 | 317=>263 | 318=>265 | 319=>266 | 320=>267 | 337=>272 | 338=>273 | n=>n,fun | 3=>3 | 9=>9 | 2=>2 | 4=>4 | 171=>280 | 0=>0 | 53=>197 | 37=>219 | 5=>5 | 173=>283 | 212=>295 | 51=>227 | 20=>20 | 213=>296 | 46=>46 | 232=>309 | 233=>310 | n=>n,fun | 17=>3 | 18=>6 | 19=>7 | n=>n⟩
theorem Tryz.laysM171 : Go.Proofs.LaysM.n171 Tryz.prog Tryz.laysM171_ren:={
 mixed:=by kernel_rfl
 f129:=Tryz.func264.trans (congrArg some (by kernel_rfl))
 f171:=Tryz.func180.trans (congrArg some (by kernel_rfl))
 f243:=Tryz.func203.trans (congrArg some (by kernel_rfl))
 f246:=Tryz.func228.trans (congrArg some (by kernel_rfl))
 f283:=Tryz.func250.trans (congrArg some (by kernel_rfl))
 f284:=Tryz.func251.trans (congrArg some (by kernel_rfl))
 f285:=Tryz.func252.trans (congrArg some (by kernel_rfl))
 f286:=Tryz.func253.trans (congrArg some (by kernel_rfl))
 f317:=Tryz.func263.trans (congrArg some (by kernel_rfl))
 f318:=Tryz.func265.trans (congrArg some (by kernel_rfl))
 f319:=Tryz.func266.trans (congrArg some (by kernel_rfl))
 f320:=Tryz.func267.trans (congrArg some (by kernel_rfl))
 f337:=Tryz.func272.trans (congrArg some (by kernel_rfl))
 f338:=Tryz.func273.trans (congrArg some (by kernel_rfl))
 t0:=Tryz.underlying0
 a0:=Tryz.isAgg0
 z0:=Tryz.sizeOf0
 v0:=Tryz.zeroValue0
 t2:=Tryz.underlying2
 a2:=Tryz.isAgg2
 z2:=Tryz.sizeOf2
 v2:=Tryz.zeroValue2
 t3:=Tryz.underlying3
 a3:=Tryz.isAgg3
 z3:=Tryz.sizeOf3
 v3:=Tryz.zeroValue3
 t4:=Tryz.underlying4
 a4:=Tryz.isAgg4
 z4:=Tryz.sizeOf4
 v4:=Tryz.zeroValue4
 t5:=Tryz.underlying5
 a5:=Tryz.isAgg5
 z5:=Tryz.sizeOf5
 v5:=Tryz.zeroValue5
 t9:=Tryz.underlying9
 a9:=Tryz.isAgg9
 z9:=Tryz.sizeOf9
 v9:=Tryz.zeroValue9
 t20:=Tryz.underlying20
 a20:=Tryz.isAgg20
 z20:=Tryz.sizeOf20
 v20:=Tryz.zeroValue20
 t37:=Tryz.underlying219
 a37:=Tryz.isAgg219
 z37:=Tryz.sizeOf219
 v37:=Tryz.zeroValue219
 t46:=Tryz.underlying46
 a46:=Tryz.isAgg46
 z46:=Tryz.sizeOf46
 v46:=Tryz.zeroValue46
 t51:=Tryz.underlying227
 a51:=Tryz.isAgg227
 z51:=Tryz.sizeOf227
 v51:=Tryz.zeroValue227
 t53:=Tryz.underlying197
 a53:=Tryz.isAgg197
 z53:=Tryz.sizeOf197
 v53:=Tryz.zeroValue197
 t171:=Tryz.underlying280
 a171:=Tryz.isAgg280
 z171:=Tryz.sizeOf280
 v171:=Tryz.zeroValue280
 t173:=Tryz.underlying283
 a173:=Tryz.isAgg283
 z173:=Tryz.sizeOf283
 v173:=Tryz.zeroValue283
 t212:=Tryz.underlying295
 a212:=Tryz.isAgg295
 z212:=Tryz.sizeOf295
 v212:=Tryz.zeroValue295
 t213:=Tryz.underlying296
 a213:=Tryz.isAgg296
 z213:=Tryz.sizeOf296
 t232:=Tryz.underlying309
 a232:=Tryz.isAgg309
 z232:=Tryz.sizeOf309
 v232:=Tryz.zeroValue309
 t233:=Tryz.underlying310
 a233:=Tryz.isAgg310
 z233:=Tryz.sizeOf310
 v233:=Tryz.zeroValue310
 g17:=by kernel_rfl
 g18:=by kernel_rfl
 g19:=by kernel_rfl
 i0:=by kernel_rfl
 i2:=by kernel_rfl
 i3:=by kernel_rfl
 i4:=by kernel_rfl
 i5:=by kernel_rfl
 i9:=by kernel_rfl
 i20:=by kernel_rfl
 i37:=by kernel_rfl
 i46:=by kernel_rfl
 i51:=by kernel_rfl
 i53:=by kernel_rfl
 i171:=by kernel_rfl
 i173:=by kernel_rfl
 i212:=by kernel_rfl
 i232:=by kernel_rfl
 i233:=by kernel_rfl
 m17:=by kernel_rfl
 m18:=by kernel_rfl
 m19:=by kernel_rfl }
open Go.RowKit Go.Sort Go.Lib in
theorem Tryz.strconv_Itoa (n : Int) (h0 : -9223372036854775808 ≤ n) (h1 : n ≤ 9223372036854775807) (w : World) (htab : Lib.TabIs Tryz.prog w "internal/strconv.uint64pow10" .u64 Lib.pow10Tab) :
  Calls Tryz.prog 180 #[.int .i64 n] w fun e w'=>e = .returned (.string ⟨(Lib.itoa n).toArray⟩) ∧ ∃ k os,w' = grow (w.drewN k) os:=Any.strconv_Itoa Tryz.laysM171 n h0 h1 w htab
def Tryz.lays105_ren : Go.Shelf.Ren:=⟨fun | 105=>181 | 212=>204 | 99=>205 | 165=>206 | 166=>179 | 170=>207 | 169=>182 | 263=>229 | 264=>230 | 206=>217 | 240=>202 | 241=>231 | 276=>227 | 277=>254 | n=>n,fun | 9=>9 | 3=>3 | 4=>4 | 20=>20 | 0=>0 | 46=>46 | 109=>238 | 5=>5 | 72=>221 | 76=>224 | 51=>227 | 146=>262 | 53=>197 | 148=>264 | 70=>218 | 37=>219 | 75=>223 | 127=>242 | 164=>259 | 80=>132 | n=>n,fun | n=>n⟩
theorem Tryz.lays105 : Go.Proofs.Lays.n105 Tryz.prog Tryz.lays105_ren:={
 mixed:=by kernel_rfl
 f99:=Tryz.func205.trans (congrArg some (by kernel_rfl))
 f105:=Tryz.func181.trans (congrArg some (by kernel_rfl))
 f165:=Tryz.func206.trans (congrArg some (by kernel_rfl))
 f166:=Tryz.func179.trans (congrArg some (by kernel_rfl))
 f169:=Tryz.func182.trans (congrArg some (by kernel_rfl))
 f170:=Tryz.func207.trans (congrArg some (by kernel_rfl))
 f206:=Tryz.func217.trans (congrArg some (by kernel_rfl))
 f212:=Tryz.func204.trans (congrArg some (by kernel_rfl))
 f240:=Tryz.func202.trans (congrArg some (by kernel_rfl))
 f241:=Tryz.func231.trans (congrArg some (by kernel_rfl))
 f263:=Tryz.func229.trans (congrArg some (by kernel_rfl))
 f264:=Tryz.func230.trans (congrArg some (by kernel_rfl))
 f276:=Tryz.func227.trans (congrArg some (by kernel_rfl))
 f277:=Tryz.func254.trans (congrArg some (by kernel_rfl))
 t0:=Tryz.underlying0
 a0:=Tryz.isAgg0
 z0:=Tryz.sizeOf0
 v0:=Tryz.zeroValue0
 t3:=Tryz.underlying3
 a3:=Tryz.isAgg3
 z3:=Tryz.sizeOf3
 v3:=Tryz.zeroValue3
 t4:=Tryz.underlying4
 a4:=Tryz.isAgg4
 z4:=Tryz.sizeOf4
 v4:=Tryz.zeroValue4
 t5:=Tryz.underlying5
 a5:=Tryz.isAgg5
 z5:=Tryz.sizeOf5
 v5:=Tryz.zeroValue5
 t9:=Tryz.underlying9
 a9:=Tryz.isAgg9
 z9:=Tryz.sizeOf9
 v9:=Tryz.zeroValue9
 t20:=Tryz.underlying20
 a20:=Tryz.isAgg20
 z20:=Tryz.sizeOf20
 v20:=Tryz.zeroValue20
 t37:=Tryz.underlying219
 a37:=Tryz.isAgg219
 z37:=Tryz.sizeOf219
 v37:=Tryz.zeroValue219
 t46:=Tryz.underlying46
 a46:=Tryz.isAgg46
 z46:=Tryz.sizeOf46
 v46:=Tryz.zeroValue46
 t51:=Tryz.underlying227
 a51:=Tryz.isAgg227
 z51:=Tryz.sizeOf227
 v51:=Tryz.zeroValue227
 t53:=Tryz.underlying197
 a53:=Tryz.isAgg197
 z53:=Tryz.sizeOf197
 v53:=Tryz.zeroValue197
 t70:=Tryz.underlying218
 a70:=Tryz.isAgg218
 z70:=Tryz.sizeOf218
 v70:=Tryz.zeroValue218
 t72:=Tryz.underlying221
 a72:=Tryz.isAgg221
 z72:=Tryz.sizeOf221
 v72:=Tryz.zeroValue221
 t75:=Tryz.underlying223
 a75:=Tryz.isAgg223
 z75:=Tryz.sizeOf223
 v75:=Tryz.zeroValue223
 t76:=Tryz.underlying224
 a76:=Tryz.isAgg224
 z76:=Tryz.sizeOf224
 v76:=Tryz.zeroValue224
 t109:=Tryz.underlying238
 a109:=Tryz.isAgg238
 z109:=Tryz.sizeOf238
 v109:=Tryz.zeroValue238
 t127:=Tryz.underlying242
 a127:=Tryz.isAgg242
 z127:=Tryz.sizeOf242
 v127:=Tryz.zeroValue242
 t146:=Tryz.underlying262
 a146:=Tryz.isAgg262
 z146:=Tryz.sizeOf262
 v146:=Tryz.zeroValue262
 t148:=Tryz.underlying264
 a148:=Tryz.isAgg264
 z148:=Tryz.sizeOf264
 v148:=Tryz.zeroValue264
 t164:=Tryz.underlying259
 a164:=Tryz.isAgg259
 z164:=Tryz.sizeOf259
 v164:=Tryz.zeroValue259 }
theorem Tryz.Builder_Extra_105 : Builder.Extra Tryz.prog Tryz.lays105_ren:={
 sizeBuilder:=by kernel_rfl
 liesBuilder:=by kernel_rfl
 t5:=Tryz.underlying5
 a5:=Tryz.isAgg5
 z5:=Tryz.sizeOf5
 v5:=Tryz.zeroValue5
 infoByte:=by kernel_rfl
 cellsByte:=by kernel_rfl
 sizeByte:=by kernel_rfl
 neB5:=by decide }
open Go.RowKit Go.Lib in
theorem Tryz.strings_Repeat (s : ByteArray) (c : Nat) (w : World) (hc : c ≤ 9223372036854775807) (hlen : s.size * c ≤ 140737488355328) :
  Calls Tryz.prog 181 #[.string s,.int .i64 c] w fun e w'=>e = .returned (.string ⟨(Lib.repeatL s.data.toList c).toArray⟩) ∧ Below w.heap.size w w':=Any.strings_Repeat Tryz.lays105 Tryz.Builder_Extra_105 s c w hc hlen
end Go.Proofs
end
section
namespace Go.Proofs.YtmkhgjccoolfjaaGreatDoor
open Go Go.RowKit Tryz
variable {w w' : World} {k n B j g s i bb : Nat} {b z a : Int} {l : List UInt8} {t T ty ty2 : TypeId} {x y : Operand} {S S' : Nat → Prop} {v va vm vb z0 z1 z2 c m : Value} {cs args : List Value} {agg : Bool} {q : Rat} {P : Program} {ρ F : Fr} {pos pos2 : String} {aft aft2 : Array Edge} {f : FuncId} {Ψ : Value → World → Prop} {Q : Exit → Act → List Frame → World → Prop} {rest : List Nat} {o : Oper}
def Tab (w : World) : Prop := Lib.TabIs prog w "internal/strconv.uint64pow10" .u64 Lib.pow10Tab
theorem Tab.to (h : Tab w) (k : Ext w w') : Tab w':=by
 unfold Tab Lib.TabIs World.var? at *
 cases hg : (prog).globalNamed "internal/strconv.uint64pow10" with
 | none=>simp [hg] at h
 | some g=>
  simp only [hg,Option.bind_eq_bind,Option.bind_some] at h ⊢
  cases hb : w.heap[g]? with
  | none=>rw [hb] at h; cases h
  | some o=>
   rw [k.block g (Array.getElem?_eq_some_iff.1 hb).1 trivial]
   exact h
theorem dh8 {os : Array Obj} : Ext w (Sort.grow (w.drewN k) os):=by
 refine ⟨rfl,rfl,rfl,?_,fun i hi _=>?_⟩
 ·simp [Sort.grow,World.drewN]
 exact Sort.heap_grow_old (w.drewN k) os (by simpa [World.drewN] using hi)
theorem c31 (ht : Tab w) (hn : n ≤ 9223372036854775807) :
  Gives prog 180 [.int .i64 (n : Int)] w fun v' w'=>v' = F3 (Lib.decDigits n) ∧ Ext w w':=
 Calls.mono (Tryz.strconv_Itoa (n : Int) (by omega) (by omega) w ht) fun e w' ⟨he,k,os,hw⟩=>⟨_,he,by rw [Lib.itoa_nonneg],hw ▸ dh8⟩
theorem b79 (c : Nat) : Lib.repeatL [48] c = List.replicate c 48:=by
 induction c with
 | zero=>rfl
 | succ c ih=>
  rw [List.replicate_succ,← ih]
  rfl
theorem dg8 {c : Nat} (hc : c ≤ 1000000) :
  Gives prog 181 [F3 [48],.int .i64 (c : Int)] w fun v' w'=>v' = F3 (List.replicate c 48) ∧ Ext w w':=
 Calls.mono (Tryz.strings_Repeat ⟨[48].toArray⟩ c w (by omega) (by show 1 * c ≤ _; omega)) fun e w' ⟨he,hw⟩=>⟨_,he,by show Value.string ⟨(Lib.repeatL [48] c).toArray⟩ = _; rw [b79],.of_below hw⟩
theorem bp4 {b : Nat} (h : BuiltF B b l w) (hBw : B ≤ w.heap.size) :
  Gives prog 182 [.pointer (some ⟨b,0,none⟩)] w fun v' w'=>v' = F3 l ∧ Below B w w':=
 Calls.mono (Tryz.Builder_String_any B b l w h hBw) fun e w' ⟨he,hw⟩=>⟨_,he,rfl,hw⟩
section rules
variable {P : Program} {n : Nat} {Q : G8} {ρ : Fr} {w : World} {all rest : List Oper} {d : Tmp} {ty : TypeId} {pos : String} {aft : Array Edge}
theorem a95 [st : StrT P t] (hv : ev ρ x = F3 l)
  (h : WpR P n all Q rest (upd ρ d (.int .i64 (l.length : Nat))) w) : WpR P n all Q (⟨some d,.call ⟨.builtin .len,#[x],#[t]⟩,ty,pos,aft,none⟩ :: rest) ρ w:=by
 refine bs3 hv ?_
 have e : (⟨l.toArray⟩ : ByteArray).size = l.length:=by show l.toArray.size = _; simp
 rw [e]
 exact h
theorem bd3 {b : Nat} {z : Value} [ti : TyI P T 1 b z false] {l : List Nat} {k : IntKind} (i : Nat)
  (hx : ev ρ x = .pointer (some (adr v j))) (hj : j = i) (hr : Sl S T k w v l) (hi : i < l.length) (h : WpR P n all Q rest (upd ρ d (.int k (l.getD i 0 : Nat))) w) :
  WpR P n all Q (⟨some d,.load T x,ty,pos,aft,none⟩ :: rest) ρ w:=by
 subst hj
 exact r6 hx hr hi h
end rules
theorem BuiltF.to {b : Nat} (h : BuiltF B b l w) (k : Ext w w') : BuiltF B b l w':=by
 have one : ∀ p,Lib.BuilderAt 221 5 B b p (Lib.byteCells l) w → Lib.BuilderAt 221 5 B b p (Lib.byteCells l) w':=by
  rintro p ⟨hB,v,hb,hown,hne⟩
  exact ⟨hB,v,(k.block b (Array.getElem?_eq_some_iff.1 hb).1 trivial).trans hb,ab6 hown k,hne⟩
 exact h.imp (one _) (one _)
theorem a89 {w1 w2 : World} (h : Ext w w1) (hg : w.heap.size ≤ g) (k : Below g w1 w2) : Ext w w2:=
 ⟨k.os.trans h.os,k.tape.trans h.tape,k.output.trans h.output,Nat.le_trans h.size k.size,fun i hi _=>(k.block i (by omega)).trans (h.block i hi trivial)⟩
theorem cl7 {a : Nat} (h : k < dl a) : 0 < a / 1000000000 ^ k:=by
 have hc:=ah3 a
 have h1:=X4 hc (by intro e; unfold dl at h; rw [e] at h; simp at h)
 rw [x8] at h1
 have h2 : 1000000000 ^ k ≤ 1000000000 ^ ((dg a).length - 1):=Nat.pow_le_pow_right (by omega) (by unfold dl at h; omega)
 exact Nat.div_pos (by omega) (Nat.pow_pos (by omega))
theorem bm3 (a k : Nat) : a / 1000000000 ^ k = (dg a).getD k 0 + 1000000000 * (a / 1000000000 ^ (k + 1)):=by
 rw [bk2,Nat.pow_succ,← Nat.div_div_eq_div_mul]
 omega
theorem cp9 {a : Nat} (h : 0 < dl a) : a / 1000000000 ^ (dl a - 1) = (dg a).getD (dl a - 1) 0:=by
 have h1:=bm3 a (dl a - 1)
 rw [show dl a - 1 + 1 = dl a by omega,Nat.div_eq_of_lt (A6 a)] at h1
 omega
theorem b48 (a k : Nat) (h : 0 < dl a) : Lib.nDigits (a / 1000000000 ^ k) ≤ 9 * dl a:=by
 refine ao4 (by omega) ?_
 have h1:=A6 a
 rw [ai3] at h1
 exact Nat.lt_of_le_of_lt (Nat.div_le_self ..) h1
theorem cd6 {a : Nat} (ht : Tab w) (ha : s5 S 227 .u32 w va a) (hl : dl a ≤ 1099511627776) :
  Gives prog 134 [va] w fun v' w'=>v' = F3 (Lib.decDigits a) ∧ Ext w w':=by
 have hdl : dl a = (dg a).length:=rfl
 rw [hdl] at hl
 refine l6 func134 rfl rfl rfl ?_
 repeat (first | refine wW ?_ | refine b8 ?_ | refine z6 (by conv=>(lhs; whnf)) (by assumption) ?_ | refine ad2 rfl rfl ?_)
 try refine d8 ?_
 refine j3 rfl ?_ ?_ <;> intro hc
 ·repeat (first | refine wW ?_ | refine r4 ?_)
  refine o5 rfl ⟨?_,.refl⟩
  have h0 : a = 0:=J3.1 (by omega)
  subst h0
  rw [Lib.decDigits_one (by decide)]
  rfl
 ·repeat (first | refine wW ?_ | refine wp_skip ?_)
  refine q9 (cs:=[.pointer none,.slice none 0 0]) rfl ?_
  intro w1 g k1 hg hgs
  have hgl:=hg.lt
  have ha0:=ha
  replace ha:=ha.to k1
  repeat (first | refine wW ?_ | refine z6 (by conv=>(lhs; whnf)) (by assumption) ?_ | refine x9 rfl rfl ?_ | refine b02 (by conv=>(lhs; whnf)) rfl (by assumption) (by omega) (by omega) ?_)
  refine bd3 ((dg a).length - 1) rfl (by omega) ha (by omega) ?_
  have hd:=K7 a ((dg a).length - 1)
  repeat (first | refine R3 rfl (wrap_i64 (by omega) (by omega)) ?_)
  refine d9 (c31 (ht.to k1) (by omega)) rfl ?_
  rintro v2 w2 ⟨rfl,k2⟩
  have hb0 : BuiltF g g [] w2:=.inl ⟨Nat.le_refl g,_,(hg.to k2),ab9,by simp [Value.ownBlock]⟩
  have hk2:=k2.size
  have hn9:=ap4 hd
  refine d9 (ay5 hb0 (by rw [List.length_nil,Lib.decDigits_length]; omega) (by omega)) rfl ?_
  rintro v3 w3 ⟨hb3,k3⟩
  rw [List.nil_append,← hdl,← cp9 (by omega)] at hb3
  have hk3:=k3.size
  have kk : Ext w w3:=a89 (k1.trans k2) hgs k3
  repeat (first | refine wW ?_ | refine b8 ?_ | refine z6 (by conv => (lhs; whnf)) (by assumption) ?_ | refine x9 rfl rfl ?_)
  try refine n6 ?_
  refine F4 [(4,5),(21,37)] (fun k ρ w'=>ρ 4 = .int .i64 ((k : Int) - 1) ∧ k < dl a ∧ BuiltF g g (Lib.decDigits (a / 1000000000 ^ k)) w' ∧ Ext w w' ∧ g < w'.heap.size) (dl a - 1) ?_ ?_
  ·exact ⟨congrArg (Value.int .i64) (by omega),by omega,hb3,kk,by omega⟩
  rintro k u w4 ⟨h4,hk,hb4,k4,hg4⟩
  refine j7 4 h4 ?_
  repeat (first | refine wW ?_ | refine b8 ?_ | refine aj6 rfl rfl ?_)
  try refine d8 ?_
  refine j3 rfl ?_ ?_ <;> intro hc2
  ·have ha4:=ha0.to k4
   clear ha
   obtain ⟨i,rfl⟩ : ∃ i,k = i + 1:=⟨k - 1,by omega⟩
   have hd4:=K7 a i
   have hn4:=ap4 hd4
   have hnd:=b48 a (i + 1) (by omega)
   repeat (first | refine wW ?_ | refine y6 ?_ | refine q5 ?_ | refine wp_skip ?_ | refine b02 (by conv=>(lhs; whnf)) rfl (by assumption) (by omega) (by omega) ?_)
   refine bd3 i rfl (by omega) ha4 (by omega) ?_
   repeat (first | refine R3 rfl (wrap_i64 (by omega) (by omega)) ?_)
   refine d9 (c31 (ht.to k4) (by omega)) rfl ?_
   rintro v5 w5 ⟨rfl,k5⟩
   have hlen:=Lib.decDigits_length ((dg a).getD i 0)
   repeat (first | refine a95 rfl ?_ | refine wW ?_ | refine x9 rfl rfl ?_)
   refine d9 (dg8 (c:=9 - Lib.nDigits ((dg a).getD i 0)) (by omega)) ?_ ?_
   ·exact cp2 rfl (congrArg (Value.int .i64) (by omega))
   rintro v6 w6 ⟨rfl,k6⟩
   repeat (first | refine q8 ?_)
   refine bs1 rfl rfl (by rw [List.length_replicate,Lib.decDigits_length]; omega) ?_
   have hb6 : BuiltF g g (Lib.decDigits (a / 1000000000 ^ (i + 1))) w6:=hb4.to (k5.trans k6)
   have hk5:=k5.size
   have hk6:=k6.size
   refine d9 (ay5 hb6 (by rw [List.length_append,List.length_replicate,Lib.decDigits_length,Lib.decDigits_length]; omega) (by omega)) rfl ?_
   rintro v7 w7 ⟨hb7,k7⟩
   have hk7:=k7.size
   repeat (first | refine wW ?_ | refine x9 rfl rfl ?_)
   refine ⟨by (repeat (first | refine i7 rfl ?_ | exact c7 | refine j1 rfl ?_ | exact b9)),i,by omega,congrArg (Value.int .i64) (by omega),by omega,?_,a89 ((k4.trans k5).trans k6) hgs k7,by omega⟩
   rw [bm3 a i,c87 (cl7 (by omega)) hd4]
   exact hb7
  repeat (first | refine wW ?_ | refine wp_exit ?_)
  refine d9 (bp4 hb4 (by omega)) rfl ?_
  rintro v5 w5 ⟨rfl,k5⟩
  repeat refine wW ?_
  refine o5 rfl ⟨?_,a89 k4 hgs k5⟩
  obtain rfl : k = 0:=by omega
  simp
theorem bj8 (ht : Tab w) (ha : IntV S 227 .u32 w va a) (hl : zl a ≤ 1099511627776) :
  Gives prog 133 [va] w fun v' w'=>v' = F3 (Lib.itoa a) ∧ Ext w w':=by
 obtain ⟨ma,rfl,ha⟩:=ha
 have hn : Lib.nDigits a.natAbs ≤ 9 * 1099511627776:=by
  by_cases h0 : a.natAbs = 0
  ·rw [h0,Lib.nDigits_small (by decide)]; decide
  have:=ay6 (n:=a.natAbs) (by omega)
  unfold zl at hl
  omega
 refine l6 func133 rfl rfl rfl ?_
 repeat refine wW ?_
 refine s6 (cs:=[.bool (tst (a < 0)),ma]) rfl ?_
 intro w1 g k1 hg hgs
 repeat (first | refine d7 rfl hg rfl ?_ | refine wW ?_ | refine b8 ?_ | refine j4 rfl ?_)
 try refine d8 ?_
 refine j3 rfl ?_ ?_ <;> intro hc
 ·repeat (first | refine d7 rfl hg rfl ?_ | refine wW ?_ | refine j4 rfl ?_)
  refine d9 (cd6 (ht.to k1) (ha.to k1) hl) rfl ?_
  rintro v2 w2 ⟨rfl,k2⟩
  refine bs1 (a:=[45]) rfl rfl (by rw [Lib.decDigits_length]; simp; omega) ?_
  repeat (first | refine wW ?_ | refine r4 ?_)
  exact Z2 rfl (by conv=>(lhs; whnf)) ⟨by unfold Lib.itoa; rw [if_pos hc]; rfl,k1.trans k2⟩
 repeat (first | refine d7 rfl hg rfl ?_ | refine wW ?_ | refine wp_skip ?_ | refine j4 rfl ?_)
 refine d9 (cd6 (ht.to k1) (ha.to k1) hl) rfl ?_
 rintro v2 w2 ⟨rfl,k2⟩
 repeat refine wW ?_
 exact Z2 rfl (by conv=>(lhs; whnf)) ⟨by unfold Lib.itoa; rw [if_neg hc,show a.natAbs = a.toNat by omega],k1.trans k2⟩
abbrev ZV (S : Nat → Prop) (w : World) (v : Value) (z : Int) : Prop:=IntV S 3 .i64 w v z
abbrev zE (S : Nat → Prop) (z : Int) : Ent:=ba4 S 3 .i64 z
abbrev nE (S : Nat → Prop) (n : Nat) : Ent:=as1 S 3 .i64 n
theorem at3 {p : Prop} (z : Int) (hm : s5 S 3 .i64 w vm n) (ha : z.natAbs = n) (hp : z < 0 ↔ p ∧ 0 < n) :
  Gives prog 154 [.bool (tst p),vm] w fun v' w'=>Ext w w' ∧ ZV S w' v' z:=by
 subst ha
 refine l6 func154 rfl rfl rfl ?_
 repeat refine wW ?_
 refine q9 (cs:=[.bool false,.slice none 0 0]) rfl ?_
 intro w1 g k1 hg hgs
 have hm0:=hm
 replace hm:=hm.to k1
 have hdl : 0 < (dg z.natAbs).length ↔ 0 < z.natAbs:=by
  have:=@J3 z.natAbs
  unfold dl at this
  omega
 repeat refine wW ?_
 refine D6 rfl rfl ?_ ?_ <;> intro hc
 ·repeat (first | refine q8 ?_ | refine z6 (by conv=>(lhs; whnf)) (by assumption) ?_ | refine q6 rfl rfl ?_ | refine s4 rfl ?_ | refine Y1 rfl rfl ?_)
  refine an1 (by conv=>(lhs; whnf)) (by conv=>(lhs; whnf)) rfl hm.one ?_
  refine A5 rfl (by conv=>(lhs; whnf)) hg rfl hm.one ?_
  intro w2 k2 hg2
  repeat refine wW ?_
  refine R9 rfl (n8 hg2 rfl) ⟨?_,vm,?_,?_⟩
  ·exact k1.past k2 hgs
  ·rw [R0 (show (0 : Int) < ((dg z.natAbs).length : Nat) ↔ z < 0 by rw [hp,← hdl]; exact ⟨fun h=>⟨hc,by omega⟩,fun h=>by omega⟩)]
  exact hm0.past k1 k2 hgs
 repeat (first | refine q8 ?_ | refine s9 rfl rfl rfl ?_ | refine p9 rfl ?_)
 refine an1 (by conv=>(lhs; whnf)) (by conv=>(lhs; whnf)) rfl hm.one ?_
 refine A5 rfl (by conv=>(lhs; whnf)) hg rfl hm.one ?_
 intro w2 k2 hg2
 repeat refine wW ?_
 refine R9 rfl (n8 hg2 rfl) ⟨?_,vm,?_,?_⟩
 ·exact k1.past k2 hgs
 ·rw [j2 (show ¬ z < 0 from fun h=>hc (hp.1 h).1)]
 exact hm0.past k1 k2 hgs
theorem dn9 (hm : s5 S 3 .i64 w vm n) :
  Gives prog 154 [.bool false,vm] w fun v' w'=>Ext w w' ∧ ZV S w' v' (n : Int):=by
 have h:=at3 (p:=False) (n : Int) hm (Int.natAbs_natCast n) ⟨fun h=>by omega,fun h=>h.1.elim⟩
 rwa [j2 fun h=>h] at h
theorem cs6 (h : ZV S w v z) :
  Gives prog 129 [v] w fun v' w'=>v' = .int .i64 z.sign ∧ Ext w w':=by
 obtain ⟨m,rfl,hm⟩:=h
 refine l6 func129 rfl rfl rfl ?_
 repeat refine wW ?_
 refine s6 (cs:=[.bool (tst (z < 0)),m]) rfl ?_
 intro w1 g k1 hg hgs
 replace hm:=hm.to k1
 have hl:=@bx6 z.natAbs
 repeat (first | refine d7 rfl hg rfl ?_ | refine wW ?_ | refine b8 ?_ | refine z6 (by conv=>(lhs; whnf)) (by assumption) ?_ | refine ad2 rfl rfl ?_ | refine j4 rfl ?_)
 try refine d8 ?_
 refine j3 rfl ?_ ?_ <;> intro hc
 ·repeat (first | refine wW ?_ | refine r4 ?_)
  exact Z2 rfl (by conv=>(lhs; whnf)) ⟨congrArg (Value.int .i64) (by rw [show z = 0 by omega]; rfl),k1⟩
 ·repeat (first | refine d7 rfl hg rfl ?_ | refine wW ?_ | refine b8 ?_ | refine wp_skip ?_ | refine j4 rfl ?_)
  try refine d8 ?_
  refine j3 rfl ?_ ?_ <;> intro hc2
  ·repeat (first | refine wW ?_ | refine r4 ?_)
   exact Z2 rfl (by conv=>(lhs; whnf)) ⟨congrArg (Value.int .i64) (by rw [Int.sign_eq_neg_one_of_neg hc2]),k1⟩
  repeat (first | refine wW ?_ | refine wp_skip ?_)
  exact Z2 rfl (by conv=>(lhs; whnf)) ⟨congrArg (Value.int .i64) (by rw [Int.sign_eq_one_of_pos (by omega)]),k1⟩
theorem cf7 (h : ZV S w v z) :
  Gives prog 153 [v] w fun v' w'=>Ext w w' ∧ ZV S w' v' (-z):=by
 obtain ⟨m,rfl,hm⟩:=h
 refine l6 func153 rfl rfl rfl ?_
 repeat refine wW ?_
 refine s6 (cs:=[.bool (tst (z < 0)),m]) rfl ?_
 intro w1 g k1 hg hgs
 skip
 refine q9 (cs:=[.bool false,.slice none 0 0]) rfl ?_
 intro w2 g2 k2 hg2 hgs2
 replace hg:=hg.to k2
 have k:=k1.trans k2
 have hm2:=hm.to k
 repeat (first | refine d7 rfl hg rfl ?_ | refine wW ?_ | refine a96 rfl ?_ | refine j4 rfl ?_)
 refine d9 (at3 (-z) hm2 (by omega) (by omega)) rfl ?_
 rintro v3 w3 ⟨k3,m3,rfl,h3⟩
 replace hg2:=hg2.to k3
 have hs:=k1.size
 skip
 refine A5 rfl (by conv=>(lhs; whnf)) hg2 rfl h3.one ?_
 intro w4 k4 hg4
 repeat refine wW ?_
 refine R9 rfl (n8 hg4 rfl) ⟨(k.trans k3).past k4 (by omega),m3,rfl,h3.wrT k4 hg2 (by decide)⟩
theorem da1 (hS : Up S w) (ha : ZV S w va a) (hb : ZV S w vb b) (hla : zl a ≤ 16000000000000) (hlb : zl b ≤ 16000000000000) :
  Gives prog 130 [va,vb] w fun v' w'=>Ext w w' ∧ ZV S w' v' (a + b):=by
 unfold zl at hla hlb
 have ha0:=ha
 have hb0:=hb
 obtain ⟨ma,rfl,hma⟩:=ha
 obtain ⟨mb,rfl,hmb⟩:=hb
 refine l6 func130 rfl rfl rfl ?_
 repeat refine wW ?_
 refine s6 (cs:=[.bool (tst (a < 0)),ma]) rfl ?_
 intro w1 ga k1 hga hgsa
 skip
 refine s6 (cs:=[.bool (tst (b < 0)),mb]) rfl ?_
 intro w2 gb k2 hgb hgsb
 replace hga:=hga.to k2
 have k:=k1.trans k2
 clear k1 k2
 skip
 have hsz:=k.size
 refine q9 (cs:=[.bool false,.slice none 0 0]) rfl ?_
 intro w3 g k3 hg hgs
 replace hga:=hga.to k3
 replace hgb:=hgb.to k3
 replace k:=k.trans k3
 clear k3
 replace ha0:=ha0.to k
 replace hb0:=hb0.to k
 replace hma:=hma.to k
 replace hmb:=hmb.to k
 replace hS:=hS.to k
 repeat (first | refine wW ?_ | refine b8 ?_ | refine j4 rfl ?_)
 repeat (first | refine d7 rfl hga rfl ?_ | refine d7 rfl hgb rfl ?_ | refine wW ?_ | refine c82 rfl rfl ?_ | refine j4 rfl ?_)
 try refine d8 ?_
 refine j3 rfl ?_ ?_ <;> intro he
 ·repeat (first | refine A0 ?_)
  refine s7 8 ?_
  apply a7
  ·intro x w1 k1 hd
   refine j4 rfl ?_
   refine b7 ?_
   exact i6
  apply a7
  ·intro x w1 k1 hd
   refine d7 rfl (hga.to k1) rfl ?_
   refine b7 ?_
   exact i6
  apply a7
  ·intro x w1 k1 hd
   refine j4 rfl ?_
   refine b7 ?_
   exact i6
  apply a7
  ·intro x w1 k1 hd
   refine d7 rfl (hga.to k1) rfl ?_
   refine b7 ?_
   exact i6
  apply a7
  ·intro x w1 k1 hd
   refine j4 rfl ?_
   refine b7 ?_
   exact i6
  apply a7
  ·intro x w1 k1 hd
   refine d7 rfl (hgb.to k1) rfl ?_
   refine b7 ?_
   exact i6
  refine a7 (e:=nE S (a.natAbs + b.natAbs)) ?_ ?_
  ·intro x w1 k1 hd
   refine d9 (dz8 (hS.to k1) (hma.to k1) (hmb.to k1) (by omega) (by omega)) rfl ?_
   rintro v2 w2 ⟨k2,h2⟩
   exact b7 (y7 k2 h2)
  refine a7 (e:=zE S (a + b)) ?_ ?_
  ·intro x w1 k1 hd
   refine d9 (at3 (a + b) hd.1 (by omega) (by omega)) rfl ?_
   rintro v2 w2 ⟨k2,h2⟩
   exact b7 (y7 k2 h2)
  refine F5 (G7 ?_)
  intro x w5 k5 hall
  obtain ⟨m5,hv5,h5⟩:=hall.1
  refine A5 rfl hv5 (hg.to k5) rfl h5.one ?_
  intro w6 k6 hg6
  repeat (first | refine wW ?_ | refine r4 ?_)
  refine R9 rfl (n8 hg6 rfl) ⟨Keeps.past (k.trans k5) k6 (by omega),m5,rfl,h5.wrT k6 (hg.to k5) (by decide)⟩
 ·repeat (first | refine d7 rfl hga rfl ?_ | refine d7 rfl hgb rfl ?_ | refine wW ?_ | refine b8 ?_ | refine wp_skip ?_ | refine j4 rfl ?_)
  refine d9 (dh9 hma hmb) rfl ?_
  rintro v4 w4 ⟨k4,c,rfl,hc⟩
  replace hga:=hga.to k4
  replace hgb:=hgb.to k4
  replace k:=k.trans k4
  replace hma:=hma.to k4
  replace hmb:=hmb.to k4
  replace hg:=hg.to k4
  replace hS:=hS.to k4
  clear k4
  repeat (first | refine wW ?_ | refine aj6 rfl rfl ?_)
  try refine d8 ?_
  refine j3 rfl ?_ ?_ <;> intro hcc
  ·have hge : b.natAbs ≤ a.natAbs:=by have:=hc.1; omega
   repeat (first | refine A0 ?_)
   refine s7 8 ?_
   apply a7
   ·intro x w1 k1 hd
    refine j4 rfl ?_
    refine b7 ?_
    exact i6
   apply a7
   ·intro x w1 k1 hd
    refine d7 rfl (hga.to k1) rfl ?_
    refine b7 ?_
    exact i6
   apply a7
   ·intro x w1 k1 hd
    refine j4 rfl ?_
    refine b7 ?_
    exact i6
   apply a7
   ·intro x w1 k1 hd
    refine d7 rfl (hga.to k1) rfl ?_
    refine b7 ?_
    exact i6
   apply a7
   ·intro x w1 k1 hd
    refine j4 rfl ?_
    refine b7 ?_
    exact i6
   apply a7
   ·intro x w1 k1 hd
    refine d7 rfl (hgb.to k1) rfl ?_
    refine b7 ?_
    exact i6
   refine a7 (e:=nE S (a.natAbs - b.natAbs)) ?_ ?_
   ·intro x w1 k1 hd
    refine d9 (cj4 (hS.to k1) (hma.to k1) (hmb.to k1) (by omega) hge) rfl ?_
    rintro v2 w2 ⟨k2,h2⟩
    exact b7 (y7 k2 h2)
   refine a7 (e:=zE S (a + b)) ?_ ?_
   ·intro x w1 k1 hd
    refine d9 (at3 (a + b) hd.1 (bg4 he hge) (a33 he hge)) rfl ?_
    rintro v2 w2 ⟨k2,h2⟩
    exact b7 (y7 k2 h2)
   refine F5 (G7 ?_)
   intro x w5 k5 hall
   obtain ⟨m5,hv5,h5⟩:=hall.1
   refine A5 rfl hv5 (hg.to k5) rfl h5.one ?_
   intro w6 k6 hg6
   repeat (first | refine wW ?_ | refine r4 ?_)
   refine R9 rfl (n8 hg6 rfl) ⟨Keeps.past (k.trans k5) k6 (by omega),m5,rfl,h5.wrT k6 (hg.to k5) (by decide)⟩
  have hge : a.natAbs ≤ b.natAbs:=by have:=hc.1; omega
  have he2 : ¬ (b < 0 ↔ a < 0):=fun h=>he h.symm
  repeat (first | refine A0 ?_ | refine wp_skip ?_)
  refine s7 8 ?_
  apply a7
  ·intro x w1 k1 hd
   refine j4 rfl ?_
   refine b7 ?_
   exact i6
  apply a7
  ·intro x w1 k1 hd
   refine d7 rfl (hgb.to k1) rfl ?_
   refine b7 ?_
   exact i6
  apply a7
  ·intro x w1 k1 hd
   refine j4 rfl ?_
   refine b7 ?_
   exact i6
  apply a7
  ·intro x w1 k1 hd
   refine d7 rfl (hgb.to k1) rfl ?_
   refine b7 ?_
   exact i6
  apply a7
  ·intro x w1 k1 hd
   refine j4 rfl ?_
   refine b7 ?_
   exact i6
  apply a7
  ·intro x w1 k1 hd
   refine d7 rfl (hga.to k1) rfl ?_
   refine b7 ?_
   exact i6
  refine a7 (e:=nE S (b.natAbs - a.natAbs)) ?_ ?_
  ·intro x w1 k1 hd
   refine d9 (cj4 (hS.to k1) (hmb.to k1) (hma.to k1) (by omega) hge) rfl ?_
   rintro v2 w2 ⟨k2,h2⟩
   exact b7 (y7 k2 h2)
  refine a7 (e:=zE S (a + b)) ?_ ?_
  ·intro x w1 k1 hd
   refine d9 (at3 (a + b) hd.1 (by rw [Int.add_comm]; exact bg4 he2 hge) (by rw [Int.add_comm]; exact a33 he2 hge)) rfl ?_
   rintro v2 w2 ⟨k2,h2⟩
   exact b7 (y7 k2 h2)
  refine F5 (G7 ?_)
  intro x w5 k5 hall
  obtain ⟨m5,hv5,h5⟩:=hall.1
  refine A5 rfl hv5 (hg.to k5) rfl h5.one ?_
  intro w6 k6 hg6
  repeat refine wW ?_
  refine R9 rfl (n8 hg6 rfl) ⟨Keeps.past (k.trans k5) k6 (by omega),m5,rfl,h5.wrT k6 (hg.to k5) (by decide)⟩
theorem db7 (hS : Up S w) (ha : ZV S w va a) (hb : ZV S w vb b) (hla : zl a ≤ 16000000000000) (hlb : zl b ≤ 16000000000000) :
  Gives prog 115 [va,vb] w fun v' w'=>Ext w w' ∧ ZV S w' v' (a - b):=by
 rw [show a - b = a + -b from Int.sub_eq_add_neg ..]
 have ha0:=ha
 have hb0:=hb
 obtain ⟨ma,rfl,hma⟩:=ha
 obtain ⟨mb,rfl,hmb⟩:=hb
 refine l6 func115 rfl rfl rfl ?_
 repeat refine wW ?_
 refine s6 (cs:=[.bool (tst (a < 0)),ma]) rfl ?_
 intro w1 ga k1 hga hgsa
 skip
 refine s6 (cs:=[.bool (tst (b < 0)),mb]) rfl ?_
 intro w2 gb k2 hgb hgsb
 replace hga:=hga.to k2
 have k:=k1.trans k2
 clear k1 k2
 skip
 have hsz:=k.size
 refine q9 (cs:=[.bool false,.slice none 0 0]) rfl ?_
 intro w3 g k3 hg hgs
 replace hga:=hga.to k3
 replace hgb:=hgb.to k3
 replace k:=k.trans k3
 clear k3
 replace ha0:=ha0.to k
 replace hb0:=hb0.to k
 replace hma:=hma.to k
 replace hmb:=hmb.to k
 replace hS:=hS.to k
 repeat refine wW ?_
 refine s7 4 ?_
 apply a7
 ·intro x w1 k1 hd
  refine o9 rfl (hga.to k1) rfl ?_
  refine b7 ?_
  exact i6
 apply a7
 ·intro x w1 k1 hd
  refine o9 rfl (hgb.to k1) rfl ?_
  refine b7 ?_
  exact i6
 refine a7 (e:=zE S (-b)) ?_ ?_
 ·intro x w1 k1 hd
  refine d9 (cf7 ⟨mb,rfl,hmb.to k1⟩) rfl ?_
  rintro v2 w2 ⟨k2,h2⟩
  exact b7 (y7 k2 h2)
 refine a7 (e:=zE S (a + -b)) ?_ ?_
 ·intro x w1 k1 hd
  refine d9 (da1 (hS.to k1) ⟨ma,rfl,hma.to k1⟩ hd.1 hla (by unfold zl; rw [Int.natAbs_neg]; exact hlb)) rfl ?_
  rintro v2 w2 ⟨k2,h2⟩
  exact b7 (y7 k2 h2)
 refine F5 (G7 ?_)
 intro x w5 k5 hall
 obtain ⟨m5,hv5,h5⟩:=hall.1
 refine A5 rfl hv5 (hg.to k5) rfl h5.one ?_
 intro w6 k6 hg6
 repeat refine wW ?_
 refine R9 rfl (n8 hg6 rfl) ⟨Keeps.past (k.trans k5) k6 (by omega),m5,rfl,h5.wrT k6 (hg.to k5) (by decide)⟩
theorem ak7 (hS : Up S w) (ha : ZV S w va a) (hb : ZV S w vb b) (hla : zl a ≤ 8000000000000) (hlb : zl b ≤ 8000000000000) :
  Gives prog 114 [va,vb] w fun v' w'=>Ext w w' ∧ ZV S w' v' (a * b):=by
 unfold zl at hla hlb
 have ha0:=ha
 have hb0:=hb
 obtain ⟨ma,rfl,hma⟩:=ha
 obtain ⟨mb,rfl,hmb⟩:=hb
 refine l6 func114 rfl rfl rfl ?_
 repeat refine wW ?_
 refine s6 (cs:=[.bool (tst (a < 0)),ma]) rfl ?_
 intro w1 ga k1 hga hgsa
 skip
 refine s6 (cs:=[.bool (tst (b < 0)),mb]) rfl ?_
 intro w2 gb k2 hgb hgsb
 replace hga:=hga.to k2
 have k:=k1.trans k2
 clear k1 k2
 skip
 have hsz:=k.size
 refine q9 (cs:=[.bool false,.slice none 0 0]) rfl ?_
 intro w3 g k3 hg hgs
 replace hga:=hga.to k3
 replace hgb:=hgb.to k3
 replace k:=k.trans k3
 clear k3
 replace ha0:=ha0.to k
 replace hb0:=hb0.to k
 replace hma:=hma.to k
 replace hmb:=hmb.to k
 replace hS:=hS.to k
 repeat refine wW ?_
 refine s7 11 ?_
 apply a7
 ·intro x w1 k1 hd
  refine j4 rfl ?_
  refine b7 ?_
  exact i6
 apply a7
 ·intro x w1 k1 hd
  refine d7 rfl (hga.to k1) rfl ?_
  refine b7 ?_
  exact i6
 apply a7
 ·intro x w1 k1 hd
  refine j4 rfl ?_
  refine b7 ?_
  exact i6
 apply a7
 ·intro x w1 k1 hd
  refine d7 rfl (hgb.to k1) rfl ?_
  refine b7 ?_
  exact i6
 apply a7
 ·intro x w1 k1 hd
  refine bw6 rfl rfl ?_
  refine b7 ?_
  exact i6
 apply a7
 ·intro x w1 k1 hd
  refine j4 rfl ?_
  refine b7 ?_
  exact i6
 apply a7
 ·intro x w1 k1 hd
  refine d7 rfl (hga.to k1) rfl ?_
  refine b7 ?_
  exact i6
 apply a7
 ·intro x w1 k1 hd
  refine j4 rfl ?_
  refine b7 ?_
  exact i6
 apply a7
 ·intro x w1 k1 hd
  refine d7 rfl (hgb.to k1) rfl ?_
  refine b7 ?_
  exact i6
 refine a7 (e:=nE S (a.natAbs * b.natAbs)) ?_ ?_
 ·intro x w1 k1 hd
  refine d9 (d53 (hS.to k1) (hma.to k1) (hmb.to k1) (by omega) (by omega)) rfl ?_
  rintro v2 w2 ⟨k2,h2⟩
  exact b7 (y7 k2 h2)
 refine a7 (e:=zE S (a * b)) ?_ ?_
 ·intro x w1 k1 hd
  refine d9 (at3 (a * b) hd.1 (Int.natAbs_mul ..) (bh4 a b)) rfl ?_
  rintro v2 w2 ⟨k2,h2⟩
  exact b7 (y7 k2 h2)
 refine F5 (G7 ?_)
 intro x w5 k5 hall
 obtain ⟨m5,hv5,h5⟩:=hall.1
 refine A5 rfl hv5 (hg.to k5) rfl h5.one ?_
 intro w6 k6 hg6
 repeat refine wW ?_
 refine R9 rfl (n8 hg6 rfl) ⟨Keeps.past (k.trans k5) k6 (by omega),m5,rfl,h5.wrT k6 (hg.to k5) (by decide)⟩
theorem d39 (hS : Up S w) (ha : ZV S w va a) (hb : ZV S w vb b) (hla : zl a ≤ 16000000000000) (hlb : zl b ≤ 16000000000000) :
  Gives prog 135 [va,vb] w fun v' w'=>v' = .int .i64 (a - b).sign ∧ Ext w w':=by
 have ha0:=ha
 have hb0:=hb
 obtain ⟨ma,rfl,hma⟩:=ha
 obtain ⟨mb,rfl,hmb⟩:=hb
 refine l6 func135 rfl rfl rfl ?_
 repeat refine wW ?_
 refine s6 (cs:=[.bool (tst (a < 0)),ma]) rfl ?_
 intro w1 ga k1 hga hgsa
 skip
 refine s6 (cs:=[.bool (tst (b < 0)),mb]) rfl ?_
 intro w2 gb k2 hgb hgsb
 replace hga:=hga.to k2
 have k:=k1.trans k2
 clear k1 k2
 replace ha0:=ha0.to k
 replace hb0:=hb0.to k
 replace hma:=hma.to k
 replace hmb:=hmb.to k
 replace hS:=hS.to k
 repeat refine wW ?_
 repeat (first | refine o9 rfl hga rfl ?_ | refine o9 rfl hgb rfl ?_)
 refine d9 (db7 hS ⟨ma,rfl,hma⟩ ⟨mb,rfl,hmb⟩ hla hlb) rfl ?_
 rintro v3 w3 ⟨k3,h3⟩
 skip
 refine d9 (cs6 h3) rfl ?_
 rintro v4 w4 ⟨rfl,k4⟩
 repeat refine wW ?_
 exact o5 rfl ⟨rfl,(k.trans k3).trans k4⟩
theorem c36 (hS : Up S w) (h0 : -9223372036854775808 ≤ z) (h1 : z ≤ 9223372036854775807) :
  Gives prog 112 [.int .i64 z] w fun v' w'=>Ext w w' ∧ ZV S w' v' z:=by
 have hl3 : dl z.natAbs ≤ 3:=G9 (by omega)
 refine l6 func112 rfl rfl rfl ?_
 repeat refine wW ?_
 refine q9 (cs:=[.bool false,.slice none 0 0]) rfl ?_
 intro w1 g k1 hg hgs
 repeat refine wW ?_
 refine R3 rfl rfl ?_
 repeat (first | refine wW ?_ | refine b8 ?_ | refine N4 rfl rfl ?_)
 first | refine d8 ?_ | refine F9 ?_ | refine B5 ?_ | skip
 refine R6 [(9,10),(3,3)] (fun ρ w'=>w' = w1 ∧ ρ 3 = .int .u64 ((z.natAbs : Nat) : Int)) rfl ?_ ?_ ?_
 ·intro hc
  repeat refine wW ?_
  refine ak2 (op:=.sub) rfl rfl (Or.inr (Or.inl ⟨rfl,show IntKind.u64.wrap (0 - IntKind.u64.wrap z) = ((z.natAbs : Nat) : Int) by simp [IntKind.wrap,IntKind.signed,IntKind.bits]; omega⟩)) ?_
  repeat refine wW ?_
  exact ⟨by (repeat (first | refine i7 rfl ?_ | exact c7 | refine j1 rfl ?_ | exact b9 | refine m9 rfl ?_ | refine l9 rfl ?_)),rfl,rfl⟩
 ·intro hc
  repeat (first | refine M5 ?_ | refine wp_skip ?_)
  exact ⟨by (repeat (first | refine i7 rfl ?_ | exact c7 | refine j1 rfl ?_ | exact b9 | refine m9 rfl ?_ | refine l9 rfl ?_)),rfl,congrArg (Value.int .u64) (by simp [IntKind.wrap,IntKind.signed,IntKind.bits]; omega)⟩
 rintro u w2 ⟨rfl,h3⟩
 refine j7 3 h3 ?_
 clear h3
 repeat refine wW ?_
 try refine n6 ?_
 refine F4 ((3,3) :: [(3,4),(11,20)]) (fun k ρ w'=>∃ l v,ρ 3 = .int .u64 (k : Int) ∧ k ≤ z.natAbs ∧ ρ 4 = v ∧ l ++ dg k = dg z.natAbs ∧ Ext w2 w' ∧ Own w2.heap.size 3 1 w' v l.length (l.map fun d : Nat=>.int .i64 d)) z.natAbs
  ⟨[],_,rfl,Nat.le_refl _,rfl,rfl,.refl,ab9⟩ ?_
 rintro k u w3 ⟨l,v,h3,hk,h4,hd,k3,ho⟩
 refine j7 3 h3 (j7 4 h4 ?_)
 clear h3 h4
 repeat (first | refine wW ?_ | refine b8 ?_ | refine Y1 rfl rfl ?_)
 try refine d8 ?_
 refine j3 rfl ?_ ?_ <;> intro hc
 ·have hkl:=congrArg List.length hd
  rw [List.length_append] at hkl
  have hdk:=al9 (show k ≠ 0 by omega)
  have hdl : (dg z.natAbs).length = dl z.natAbs:=rfl
  repeat (first | refine Y7 ?_ | refine wW ?_ | refine J4 ?_ | refine wp_skip ?_ | refine R3 rfl (wrap_i64 (by omega) (by omega)) ?_ | refine aq0 rfl rfl (by omega) (by omega) ?_)
  refine ab4 (by conv=>(lhs; whnf)) rfl ?_
  intro w4 g4 k4 hb hg4
  refine U2 (by conv=>(lhs; whnf)) (ab6 ho k4) rfl hb (by omega) rfl (by simp [Value.oneCell']) (by unfold maxLen; omega) (by omega) (Nat.le_trans k3.size k4.size) ?_
  intro v5 w5 ho5 k5
  repeat (first | refine wW ?_ | refine cf5 rfl rfl (by omega) (by omega) (by omega) ?_)
  refine ⟨by (repeat (first | refine i7 rfl ?_ | exact c7 | refine j1 rfl ?_ | exact b9)),k / 1000000000,by omega,l ++ [k % 1000000000],v5,congrArg (Value.int .u64) (by omega),by omega,rfl,?_,?_,?_⟩
  ·rw [← hd,hdk,List.append_assoc]; rfl
  ·exact Keeps.later (k3.trans k4) k5 fun i hi _ e=>by have:=(ho.lt i e.symm).1; omega
  simpa using ho5
 ·repeat (first | refine wW ?_ | refine wp_exit ?_ | refine N4 rfl rfl ?_)
  obtain rfl : k = 0:=by omega
  rw [ak1,List.append_nil] at hd
  subst hd
  refine d9 (at3 (S:=S) (n:=z.natAbs) z (Row.of_own ho (hS.to k1)) rfl (by omega)) rfl ?_
  rintro v4 w4 ⟨k4,m4,rfl,h4⟩
  skip
  have hg4:=hg.to (k3.trans k4)
  refine A5 rfl (by conv=>(lhs; whnf)) hg4 rfl h4.one ?_
  intro w5 k5 hg5
  repeat refine wW ?_
  exact R9 rfl (n8 hg5 rfl) ⟨Keeps.past ((k1.trans k3).trans k4) k5 hgs,m4,rfl,h4.wrT k5 hg4 (by decide)⟩
theorem c69 {b t D l : Nat} (hl : 0 < l) (hb : b < (t + 1) * 1000000000 ^ (l - 1)) (hD : D * (t + 1) ≤ 1000000000) : b * D < 1000000000 ^ l:=by
 rcases Nat.eq_zero_or_pos D with rfl | h0
 ·simp; exact Nat.pow_pos (by omega)
 have h1 : b * D < (t + 1) * 1000000000 ^ (l - 1) * D:=Nat.mul_lt_mul_of_pos_right hb h0
 have h2 : (t + 1) * 1000000000 ^ (l - 1) * D = D * (t + 1) * 1000000000 ^ (l - 1):=by rw [Nat.mul_comm,← Nat.mul_assoc]
 have h3 : D * (t + 1) * 1000000000 ^ (l - 1) ≤ 1000000000 * 1000000000 ^ (l - 1):=Nat.mul_le_mul_right _ hD
 have h4 : 1000000000 * 1000000000 ^ (l - 1) = 1000000000 ^ l:=by
  obtain ⟨j,rfl⟩ : ∃ j,l = j + 1:=⟨l - 1,by omega⟩
  rw [Nat.add_sub_cancel,Nat.pow_succ,Nat.mul_comm]
 omega
theorem db0 {y p t h : Nat} (hp : 0 < p) (ht : t = s / p) (hh : h = y / p + 1) (hn : n ≤ max 1 (min 999999999 (t / h))) (hys : y ≤ s) : y * n ≤ s:=by
 rcases Nat.lt_or_ge (t / h) 1 with h1 | h1
 ·have : n ≤ 1:=by omega
  calc y * n ≤ y * 1:=Nat.mul_le_mul_left _ this
   _ ≤ s:=by omega
 have h2 : n ≤ t / h:=by omega
 have h3 : y < h * p:=by
  rw [hh]
  have:=Nat.lt_div_mul_add (a:=y) hp
  rw [Nat.add_mul,Nat.one_mul]
  exact this
 have h4 : h * n ≤ t:=Nat.le_trans (Nat.mul_le_mul_left _ h2) (Nat.mul_div_le t h)
 calc y * n ≤ h * p * n:=Nat.mul_le_mul_right _ (Nat.le_of_lt h3)
  _ = p * (h * n):=by rw [Nat.mul_assoc,Nat.mul_left_comm]
  _ ≤ p * t:=Nat.mul_le_mul_left _ h4
  _ ≤ s:=by rw [ht]; exact Nat.mul_div_le s p
theorem bc0 {a : Nat} (h : 0 < dl a) : (dg a).getD ((dg a).length - 1) 0 = a / 1000000000 ^ ((dg a).length - 1):=(cp9 h).symm
theorem br1 {y : Nat} (hy : s < y * 1000000000) (hi : dl y - 1 ≤ i) : s / 1000000000 ^ i < 1000000000000000000:=by
 have h1:=A6 y
 have h2 : 1000000000 ^ dl y ≤ 1000000000 ^ (i + 1):=Nat.pow_le_pow_right (by omega) (by omega)
 rw [Nat.pow_succ] at h2
 have h3 : s < 1000000000000000000 * 1000000000 ^ i:=by
  generalize 1000000000 ^ i = p at h2
  generalize 1000000000 ^ dl y = r at h1 h2
  omega
 rw [Nat.mul_comm] at h3
 exact Nat.div_lt_of_lt_mul h3
theorem di0 {a b : Nat} (hS : Up S w) (ha : s5 S 3 .i64 w va a) (hb : s5 S 3 .i64 w vb b) (hla : dl a ≤ 15999999999000) (hlb : dl b ≤ 15999999999000) (hb0 : 0 < b) :
    Gives prog 187 [va, vb] w fun v' w' => ∃ vq vr, v' = .tuple #[vq, vr] ∧ Ext w w' ∧ s5 S 3 .i64 w' vq (a / b) ∧ s5 S 3 .i64 w' vr (a % b) := by
  have hla' : (dg a).length ≤ 15999999999000 := hla
  have hlb' : (dg b).length ≤ 15999999999000 := hlb
  have hbl : 0 < (dg b).length := bx8 (n := b) (by omega)
  have htd := K7 b ((dg b).length - 1)
  have htb : b < ((dg b).getD ((dg b).length - 1) 0 + 1) * 1000000000 ^ ((dg b).length - 1) := by
    rw [bc0 hbl, Nat.add_mul, Nat.one_mul]
    exact Nat.lt_div_mul_add (Nat.pow_pos (by omega))
  refine l6 func187 rfl rfl rfl ?_
  repeat (first | refine y8 (i := (dg b).length - 1) (by conv => (lhs; whnf)) rfl (by omega) hb (by omega) ?_ | refine r6 rfl hb (by omega) ?_ | refine wW ?_ | refine z6 (by conv => (lhs; whnf)) (by assumption) ?_ | refine A2 rfl rfl ?_ | refine x9 rfl rfl ?_ | refine ao9 rfl rfl (by omega) (by omega) (by omega) ?_)
  obtain ⟨t, ht⟩ : ∃ t, t = (dg b).getD ((dg b).length - 1) 0 := ⟨_, rfl⟩
  rw [← ht] at htd htb ⊢
  obtain ⟨D, hD⟩ : ∃ D, D = 1000000000 / (t + 1) := ⟨_, rfl⟩
  have hDi : (1000000000 : Int) / ((t : Int) + 1) = (D : Int) := by rw [hD]; rfl
  rw [hDi]
  have hD1 : 1 ≤ D := by rw [hD]; exact Nat.div_pos (by omega) (by omega)
  have hD2 : D * (t + 1) ≤ 1000000000 := by rw [hD]; exact Nat.div_mul_le_self ..
  have hD3 : D ≤ 1000000000 := by rw [hD]; exact Nat.div_le_self ..
  skip
  refine d9 (ba0 hS ha (by omega) hD3) rfl ?_
  rintro vx w1 ⟨k1, hx⟩
  repeat (first | refine q8 ?_)
  refine d9 (ba0 (hS.to k1) (hb.to k1) (by omega) hD3) rfl ?_
  rintro vy w2 ⟨k2, hy⟩
  replace hx := hx.to k2
  have k12 := k1.trans k2
  have hxa : dl (a * D) ≤ dl a + 1 := by
    refine G9 ?_
    have h4 := A6 a
    have h5 : a * D ≤ a * 1000000000 := Nat.mul_le_mul_left _ hD3
    rw [Nat.pow_succ]
    omega
  obtain ⟨x, hxd⟩ : ∃ x, x = a * D := ⟨_, rfl⟩
  obtain ⟨y, hyd⟩ : ∃ y, y = b * D := ⟨_, rfl⟩
  rw [← hxd] at hx hxa
  rw [← hyd] at hy
  have hyb : y < 1000000000 ^ dl b := by rw [hyd]; exact c69 hbl htb hD2
  have hy0 : 0 < y := by rw [hyd]; exact Nat.mul_pos hb0 hD1
  have hyl : dl y ≤ dl b := G9 hyb
  have hyp : 0 < dl y := bx8 (by omega)
  have hyl' : (dg y).length = dl y := rfl
  have hxl' : (dg x).length = dl x := rfl
  have htd2 := K7 y ((dg y).length - 1)
  repeat (first | refine y8 (i := (dg y).length - 1) (by conv => (lhs; whnf)) rfl (by omega) hy (by omega) ?_ | refine r6 rfl hy (by omega) ?_ | refine wW ?_ | refine z6 (by conv => (lhs; whnf)) (by assumption) ?_ | refine A2 rfl rfl ?_ | refine x9 rfl rfl ?_)
  have hhi : (((dg y).getD ((dg y).length - 1) 0 : Nat) : Int) + 1 = ((y / 1000000000 ^ (dl y - 1) + 1 : Nat) : Int) := by rw [bc0 hyp]; rfl
  have hhb : y / 1000000000 ^ (dl y - 1) + 1 ≤ 1000000000 := by rw [← hyl', ← bc0 hyp]; omega
  rw [hhi]
  obtain ⟨h, hh⟩ : ∃ h, h = y / 1000000000 ^ (dl y - 1) + 1 := ⟨_, rfl⟩
  rw [← hh] at hhb ⊢
  have hh0 : 0 < h := by omega
  clear htd2 hhi htd htb hDi ha hb
  refine bb1 (l := (dg x).length) (c := (dg x).length) rfl rfl rfl rfl (Nat.le_refl _) (by omega) (by unfold maxLen; omega) ?_
  intro w3 q k3 hg hgs
  have hg : Blk w3 q 3 ((List.replicate (dg x).length 0).map fun d : Nat => .int .i64 d) := by
    simpa [toList_madeCells_one, Value.cells, List.map_replicate] using hg
  have hs12 := k12.size
  have hq := hg.lt
  have hS3 : Up (fun k => S k ∧ k ≠ q) w3 := fun i hi => ⟨hS i (by have := k3.size; omega), by omega⟩
  have hx3 := (hx.mono (S' := fun k => S k ∧ k ≠ q) fun i hi hs => ⟨hs, by omega⟩).to k3
  have hy3 := (hy.mono (S' := fun k => S k ∧ k ≠ q) fun i hi hs => ⟨hs, by omega⟩).to k3
  replace k12 := k12.trans k3
  repeat (first | refine wW ?_ | refine b8 ?_ | refine z6 (by conv => (lhs; whnf)) (by assumption) ?_ | refine x9 rfl rfl ?_)
  try refine n6 ?_
  refine F4 [(11, 15), (45, 97)] (fun k ρ w' => ∃ (o : List Nat) (r : Nat) (vr : Value), ρ 12 = .int .i64 ((k : Int) - 1) ∧ ρ 11 = vr ∧ r < y ∧ k ≤ o.length ∧ o.length = (dg x).length ∧ Digs o ∧ (∀ j, j < k → o.getD j 0 = 0) ∧
        r9 ((dg x).drop k) = r9 (o.drop k) * y + r ∧ Blk w' q 3 (o.map fun d : Nat => .int .i64 d) ∧ s5 (fun k => S k ∧ k ≠ q) 3 .i64 w' vr r ∧ Keeps (fun k => k ≠ q) w3 w') (dg x).length
      ⟨List.replicate (dg x).length 0, 0, _, rfl, rfl, hy0, by simp, by simp, fun x hx => by rw [List.eq_of_mem_replicate hx]; omega, fun j _ => by simp [List.getD_eq_getElem?_getD, List.getElem?_replicate]; split <;> rfl, by simp [r9], hg, Row.nil, .refl⟩ ?_
  rintro k u w4 ⟨o, r, vr, h12, h11, hr, hko, hol, hod, hz, hv, hg4, hvr, k4⟩
  refine j7 12 h12 (j7 11 h11 ?_)
  clear h12 h11 hg
  have hx4 : s5 (fun k => S k ∧ k ≠ q) 3 .i64 w4 vx x := hx3.keep (k4.mono fun i hi => hi.2)
  have hy4 : s5 (fun k => S k ∧ k ≠ q) 3 .i64 w4 vy y := hy3.keep (k4.mono fun i hi => hi.2)
  have hS4 : Up (fun k => S k ∧ k ≠ q) w4 := fun i hi => hS3 i (by have := k4.size; omega)
  have hq4 := hg4.lt
  repeat (first | refine wW ?_ | refine b8 ?_ | refine aj6 rfl rfl ?_)
  try refine d8 ?_
  refine j3 rfl ?_ ?_ <;> intro hk
  · obtain ⟨m, rfl⟩ : ∃ m, k = m + 1 := ⟨k - 1, by omega⟩
    repeat (first | refine y8 (i := m) (by conv => (lhs; whnf)) rfl (by omega) hx4 (by omega) ?_ | refine r6 rfl hx4 (by omega) ?_ | refine wW ?_ | refine y6 ?_ | refine q5 ?_ | refine wp_skip ?_)
    have hda := K7 x m
    have hdr := U5 (show m < (dg x).length by omega)
    rw [hv] at hdr
    obtain ⟨d, hd⟩ : ∃ d, d = (dg x).getD m 0 := ⟨_, rfl⟩
    rw [← hd] at hda hdr ⊢
    have hdo := U5 (show m < o.length by omega)
    have hdl := bt6 hr hda
    have hrb : (dg r).length ≤ dl y := I6 (Nat.le_of_lt hr)
    refine ab4 (by conv => (lhs; whnf)) rfl ?_
    intro w5 g5 k5 h5 hg5
    have hs5 := k5.size
    repeat refine wW ?_
    refine a47 (by conv => (lhs; whnf)) (av4 h5 hg5 (by unfold maxLen; omega) rfl) (by conv => (lhs; whnf)) (hvr.to k5) (by omega) b42 (by unfold maxLen; omega) (by omega) (by omega) ?_
    intro v6 w6 ho6 k6
    skip
    have hdd : Digs (d :: dg r) := (a35 r).cons hda
    refine d9 (aw3 (S := fun k => S k ∧ k ≠ q) (v := v6) (l := d :: dg r) ?_ hdd) rfl ?_
    · have h4 := Row.of_own ho6 hS4
      rw [Nat.add_comm] at h4
      exact h4
    rintro v7 w7 ⟨rfl, h7⟩
    have k7 : Ext w4 w7 := Keeps.later k5 k6 fun i hi _ e => by simp [Value.ownBlock] at e; omega
    have h7 : s5 (fun k => S k ∧ k ≠ q) 3 .i64 w7 v7 (d + 1000000000 * r) := by simpa [r9, x8] using h7
    clear ho6 k6 k5 h5 hs5 hdd
    obtain ⟨s0, hs0⟩ : ∃ s, s = d + 1000000000 * r := ⟨_, rfl⟩
    rw [← hs0] at h7 hdl
    have hlt9 : s0 < y * 1000000000 := by omega
    have hom : o.getD m 0 = 0 := hz m (by omega)
    have hset0 : o.set m 0 = o := by
      refine List.ext_getElem (by simp) fun i h1 h2 => ?_
      rw [List.getElem_set]
      split
      · rename_i e
        subst e
        rw [List.getD_eq_getElem?_getD, List.getElem?_eq_getElem h2] at hom
        simpa using hom.symm
      · rfl
    repeat refine wW ?_
    try refine n6 ?_
    refine F4 [(11, 11), (14, 15), (58, 97)] (fun k ρ w' => ∃ (g : Nat) (vs : Value), ρ 11 = vs ∧ s0 = y * g + k ∧ g < 1000000000 ∧ Blk w' q 3 ((o.set m g).map fun d : Nat => .int .i64 d) ∧ s5 (fun k => S k ∧ k ≠ q) 3 .i64 w' vs k ∧ Keeps (fun k => k ≠ q) w7 w') s0
      ⟨0, v7, rfl, by omega, by omega, by rw [hset0]; exact hg4.to k7, h7, .refl⟩ ?_
    rintro s u2 w8 ⟨g, vs, h11, hsg, hg9, hg8, hvs, k8⟩
    refine j7 11 h11 ?_
    clear h11
    have hy8 : s5 (fun k => S k ∧ k ≠ q) 3 .i64 w8 vy y := (hy4.to k7).keep (k8.mono fun i hi => hi.2)
    have hS8 : Up (fun k => S k ∧ k ≠ q) w8 := fun i hi => hS4 i (by have := k8.size; have := k7.size; omega)
    have hsl : s ≤ s0 := by omega
    have hsd : (dg s).length ≤ dl s0 := I6 hsl
    repeat (first | refine wW ?_ | refine b8 ?_)
    refine d9 (dh9 hvs hy8) rfl ?_
    rintro v9 w9 ⟨k9, c9, rfl, hc9⟩
    repeat (first | refine wW ?_ | refine aj6 rfl rfl ?_)
    try refine d8 ?_
    refine j3 rfl ?_ ?_ <;> intro hge
    · have hys : y ≤ s := by have := hc9.1; omega
      have hvs9 := hvs.to k9
      have hy9 := hy8.to k9
      have hls : dl y ≤ dl s := I6 hys
      have hls' : (dg s).length = dl s := rfl
      repeat (first | refine wW ?_ | refine b8 ?_ | refine q5 ?_ | refine wp_skip ?_ | refine z6 (by conv => (lhs; whnf)) (by assumption) ?_ | refine x9 rfl rfl ?_)
      first | refine n6 ?_ | refine F9 ?_ | refine B5 ?_ | skip
      refine au3 [(14, 15), (65, 78)] (fun ρ w' => w' = w9 ∧ ρ 14 = .int .i64 ((s / 1000000000 ^ (dl y - 1) : Nat) : Int)) ?_ ?_
      · try refine n6 ?_
        refine F4 [(14, 15), (65, 78)] (fun k ρ w' => w' = w9 ∧ ∃ i, k = i + 1 - dl y ∧ dl y ≤ i + 1 ∧ i ≤ dl s ∧ ρ 15 = .int .i64 ((i : Int) - 1) ∧ ρ 14 = .int .i64 ((s / 1000000000 ^ i : Nat) : Int)) (dl s + 1 - dl y) ?_ ?_
        · exact ⟨rfl, dl s, rfl, by omega, Nat.le_refl _, congrArg (Value.int .i64) (by omega), by rw [Nat.div_eq_of_lt (A6 s)]; rfl⟩
        rintro k3 u3 w10 ⟨rfl, i, hki, hyi, his, h15, h14⟩
        refine j7 15 h15 (j7 14 h14 ?_)
        clear h15 h14
        repeat (first | refine wW ?_ | refine b8 ?_ | refine z6 (by conv => (lhs; whnf)) (by assumption) ?_ | refine aj6 rfl rfl ?_ | refine x9 rfl rfl ?_)
        try refine d8 ?_
        refine j3 rfl ?_ ?_ <;> intro hcc
        · obtain ⟨j, rfl⟩ : ∃ j, i = j + 1 := ⟨i - 1, by omega⟩
          have hsq := br1 (s := s) (y := y) (i := j) (by omega) (by omega)
          have hst := bm3 s j
          obtain ⟨p, hp⟩ : ∃ p, p = s / 1000000000 ^ (j + 1) := ⟨_, rfl⟩
          rw [← hp] at hst ⊢
          repeat (first | refine bb5 rfl rfl (by omega) (by omega) ?_ | refine y8 (i := j) (by conv => (lhs; whnf)) rfl (by omega) hvs9 (by omega) ?_ | refine r6 rfl hvs9 (by omega) ?_ | refine Y7 ?_ | refine wW ?_ | refine J4 ?_ | refine wp_skip ?_ | refine A2 rfl rfl ?_ | refine x9 rfl rfl ?_)
          refine ⟨by (repeat (first | refine i7 rfl ?_ | exact c7 | refine j1 rfl ?_ | exact b9 | refine m9 rfl ?_ | refine l9 rfl ?_)), j + 1 - dl y, by omega, rfl, j, rfl, by omega, by omega, congrArg (Value.int .i64) (by omega), congrArg (Value.int .i64) (by rw [hst]; omega)⟩
        · have hid : i = dl y - 1 := by omega
          subst hid
          repeat (first | refine M5 ?_ | refine wp_exit ?_ | refine Y3 ?_ | refine R7 rfl ?_)
          exact ⟨by (repeat (first | refine i7 rfl ?_ | exact c7 | refine j1 rfl ?_ | exact b9 | refine m9 rfl ?_ | refine l9 rfl ?_)), rfl, rfl⟩
      rintro u4 w10 ⟨rfl, h14⟩
      refine j7 14 h14 ?_
      clear h14
      have hsq := br1 (s := s) (y := y) (i := dl y - 1) (by omega) (Nat.le_refl _)
      obtain ⟨t4, ht4⟩ : ∃ t, t = s / 1000000000 ^ (dl y - 1) := ⟨_, rfl⟩
      rw [← ht4] at hsq ⊢
      repeat (first | refine wW ?_ | refine ao9 rfl rfl (by omega) (by omega) (by omega) ?_ | refine c51 rfl rfl ?_ | refine fa8 rfl rfl ?_)
      obtain ⟨n, hn⟩ : ∃ n, n = max 1 (min 999999999 (t4 / h)) := ⟨_, rfl⟩
      have hni : max (1 : Int) (min 999999999 ((t4 : Int) / (h : Int))) = (n : Int) := by
        rw [hn]
        have : (t4 : Int) / (h : Int) = ((t4 / h : Nat) : Int) := rfl
        rw [this]
        omega
      rw [hni]
      have hn1 : 1 ≤ n := by omega
      have hn2 : n ≤ 999999999 := by omega
      have hnle : y * n ≤ s := db0 (Nat.pow_pos (by omega)) ht4 hh (by omega) hys
      have hyn : y ≤ y * n := Nat.le_mul_of_pos_right _ (by omega)
      refine d9 (ba0 (hS8.to k9) hy9 (by omega) (by omega)) rfl ?_
      rintro v11 w11 ⟨k11, h11⟩
      skip
      refine d9 (cj4 ((hS8.to k9).to k11) (hvs9.to k11) h11 (by omega) hnle) rfl ?_
      rintro v12 w12 ⟨k12b, h12⟩
      have k9b := (k9.trans k11).trans k12b
      have hg12 := hg8.to k9b
      have hgn : y * (g + n) ≤ s0 := by rw [Nat.mul_add]; omega
      have hgn9 : g + n < 1000000000 := Nat.lt_of_mul_lt_mul_left (a := y) (by omega)
      have hlen : m < (o.set m g).length := by rw [List.length_set]; omega
      repeat (first | refine H8 (i := m) rfl rfl (by omega) (by omega) ?_ | refine at1 rfl hg12 hlen ?_ | refine wW ?_)
      rw [ac5 (by omega)]
      repeat (first | refine H8 (i := m) rfl rfl (by omega) (by omega) ?_ | refine A2 rfl rfl ?_)
      refine U6 (c := g + n) rfl rfl rfl hg12 hlen ?_
      intro w13 k13 hg13
      rw [List.set_set] at hg13
      repeat (first | refine wW ?_ | refine af2 ?_)
      refine ⟨by (repeat (first | refine i7 rfl ?_ | exact c7 | refine j1 rfl ?_ | exact b9 | refine m9 rfl ?_ | refine l9 rfl ?_)), s - y * n, by omega, g + n, v12, rfl, by rw [Nat.mul_add]; omega, hgn9, hg13, h12.keep (k13.mono fun i hi => hi.2), (k8.trans (.of k9b)).trans k13⟩
    · have hlt : s < y := by have := hc9.1; omega
      repeat (first | refine wW ?_ | refine wp_exit ?_ | refine x9 rfl rfl ?_)
      refine ⟨by (repeat (first | refine i7 rfl ?_ | exact c7 | refine j1 rfl ?_ | exact b9 | refine m9 rfl ?_ | refine l9 rfl ?_)), m, by omega, o.set m g, s, vs, congrArg (Value.int .i64) (by omega), rfl, hlt, by rw [List.length_set]; omega, by rw [List.length_set]; omega, hod.set hg9 _, fun j hj => by rw [S9 (by omega)]; exact hz j (by omega), ?_, hg8.to k9, hvs.to k9, ((k4.trans (.of k7)).trans k8).trans (.of k9)⟩
      have hds := U5 (l := o.set m g) (m := m) (by rw [List.length_set]; omega)
      rw [ac5 (by omega), ar7] at hds
      rw [hdr, hds, Nat.mul_add, Nat.add_mul, Nat.mul_assoc, Nat.mul_comm g]
      omega
  · obtain rfl : k = 0 := by omega
    rw [List.drop_zero, List.drop_zero, x8] at hv
    repeat (first | refine wW ?_ | refine wp_exit ?_)
    have hrb : (dg r).length ≤ dl y := I6 (Nat.le_of_lt hr)
    refine d9 (c53 hS4 hvr (by show (dg r).length ≤ _; omega) hD3 hD1) rfl ?_
    rintro v5 w5 ⟨vq, rfl, k5, h5⟩
    repeat (first | refine wW ?_ | refine B4 rfl rfl ?_)
    have hg5 := hg4.to k5
    refine d9 (aw3 (S := S) (v := .slice (some ⟨q, 0, none⟩) (dg x).length (dg x).length) (l := o) ?_ hod) rfl ?_
    · have h4 := Row.of_blk (S := S) (s := 1) (n := o.length) (cap := o.length) hg5 (hS q (by omega)) (Nat.le_refl _) (by unfold maxLen; omega) (by simp)
      rw [Nat.mul_one, List.take_of_length_le (by simp)] at h4
      rw [← hol]
      exact h4
    · rintro v6 w6 ⟨rfl, h6⟩
      have hdiv : a / b = r9 o := by
        have h1 : a * D / (b * D) = a / b := Nat.mul_div_mul_right a b hD1
        rw [← h1, ← hxd, ← hyd, hv, Nat.add_comm, Nat.add_mul_div_right _ _ hy0, Nat.div_eq_of_lt hr, Nat.zero_add]
      have hmod : a % b = r / D := by
        have h1 : a * D % (b * D) = a % b * D := Nat.mul_mod_mul_right D a b
        rw [← hxd, ← hyd, hv, Nat.mul_comm (r9 o), Nat.mul_add_mod, Nat.mod_eq_of_lt hr] at h1
        rw [h1, Nat.mul_div_cancel _ hD1]
      repeat refine wW ?_
      refine au4 rfl (by conv => (lhs; whnf)) (by conv => (lhs; whnf)) ⟨_, _, rfl, ?_, ?_, ?_⟩
      · exact Keeps.later k12 (k4.trans (.of k5)) fun i hi _ => by omega
      · rw [hdiv]; exact h6
      · rw [hmod]; exact h5.mono fun i _ hi => hi.1
theorem dw9 {a b : Nat} (hS : Up S w) (ha : s5 S 3 .i64 w va a) (hb : s5 S 3 .i64 w vb b) (hla : dl a ≤ 15999999999000) (hlb : dl b ≤ 15999999999000) :
  Gives prog 186 [va,vb] w fun v' w'=>Ext w w' ∧ s5 S 3 .i64 w' v' (Nat.gcd a b):=by
 refine l6 func186 rfl rfl rfl ?_
 repeat refine wW ?_
 try refine n6 ?_
 refine F4 [(0,1),(5,17)] (fun k ρ w'=>∃ (x : Nat) (vx vy : Value),ρ 0 = vx ∧ ρ 1 = vy ∧ s5 S 3 .i64 w' vx x ∧ s5 S 3 .i64 w' vy k ∧ Nat.gcd x k = Nat.gcd a b ∧ dl x ≤ 15999999999000 ∧ dl k ≤ 15999999999000 ∧ Ext w w') b
  ⟨a,va,vb,rfl,rfl,ha,hb,rfl,hla,hlb,.refl⟩ ?_
 rintro y u w2 ⟨x,vx,vy,h0,h1,hx,hy,hg,hlx,hly,k2⟩
 refine j7 0 h0 (j7 1 h1 ?_)
 clear h0 h1
 repeat (first | refine wW ?_ | refine b8 ?_ | refine z6 (by conv=>(lhs; whnf)) (by assumption) ?_ | refine Y1 rfl rfl ?_)
 try refine d8 ?_
 refine j3 rfl ?_ ?_ <;> intro hc
 ·have hy0 : 0 < y:=by
   rcases Nat.eq_zero_or_pos y with rfl | h
   ·rw [ak1] at hc; simp at hc
   exact h
  repeat (first | refine wW ?_ | refine q5 ?_ | refine wp_skip ?_)
  refine d9 (di0 (hS.to k2) hx hy hlx hly hy0) rfl ?_
  rintro v3 w3 ⟨vq,vr,rfl,k3,hq,hr⟩
  have hml:=I6 (Nat.le_of_lt (Nat.mod_lt x hy0))
  repeat (first | refine wW ?_ | refine af2 ?_ | refine B4 rfl rfl ?_)
  refine ⟨by (repeat (first | refine i7 rfl ?_ | exact c7 | refine j1 rfl ?_ | exact b9)),x % y,Nat.mod_lt x hy0,y,vy,vr,rfl,rfl,hy.to k3,hr,?_,hly,by omega,k2.trans k3⟩
  rw [Nat.gcd_comm,← Nat.gcd_rec,Nat.gcd_comm,hg]
 obtain rfl : y = 0:=J3.1 (by unfold dl; omega)
 rw [Nat.gcd_zero_right] at hg
 rw [← hg]
 repeat (first | refine wW ?_ | refine wp_exit ?_)
 exact o5 rfl ⟨k2,hx⟩
section rules
variable {P : Program} {n : Nat} {Q : G8} {ρ : Fr} {w : World} {all rest : List Oper} {d : Tmp} {ty : TypeId} {pos : String} {aft : Array Edge}
theorem p6 {b : Nat} {z : Value} [ti : TyI P t s b z true] {o : Nat} {us : List Value}
  (hx : ev ρ x = .pointer (some ⟨g,o,none⟩)) (hb : Blk w g T cs) (hu : (cs.drop o).take s = us) (hs : us.length = s) (h : WpR P n all Q rest (upd ρ d (.agg us.toArray)) w) :
  WpR P n all Q (⟨some d,.load t x,ty,pos,aft,none⟩ :: rest) ρ w:=by
 subst hu
 refine a11 hx (as6 ti hs fun i hi=>?_) h
 have h1 : ((cs.drop o).take s)[i]? = cs[o + i]?:=by
  rw [List.getElem?_take,if_pos (by omega),List.getElem?_drop]
 rw [h1]
 rw [hs] at hi
 have hl : o + i < cs.length:=by
  rw [List.length_take,List.length_drop] at hs
  omega
 rw [List.getElem?_eq_getElem hl]
 exact hb.cell (List.getElem?_eq_getElem hl)
theorem b86 {d : Tmp} [ti : TyI P T 3 bb (.agg #[z0,z1,z2]) true] [st : StcT P T [(0,2),(2,1)]] {a b : Value} (hx : ev ρ x = .agg #[a,b]) (hy : ev ρ y = c) (h1 : c.oneCell' = true)
  (h : WpR P n all Q rest (upd ρ d (.agg #[a,b,c])) w) : WpR P n all Q (⟨some d,.build T #[(0,x),(1,y)],ty,pos,aft,none⟩ :: rest) ρ w:=
 a48 (parts:=[(0,x),(1,y)]) (zs:=[z0,z1,z2]) (cs:=[a,b,c]) (vs:=[(0,.agg #[a,b]),(1,c)]) rfl (by rw [← hx,← hy]; rfl)
  (a15 rfl (by simp) (bh7 rfl h1 (by simp) ar3)) h
theorem bd8 {d : Tmp} [ti : TyI P T 3 bb (.agg #[z0,z1,z2]) true] [st : StcT P T [(0,2),(2,1)]] {a b : Value} (hx : ev ρ x = .agg #[a,b])
  (h : WpR P n all Q rest (upd ρ d (.agg #[a,b,z2])) w) : WpR P n all Q (⟨some d,.build T #[(0,x)],ty,pos,aft,none⟩ :: rest) ρ w:=
 a48 (parts:=[(0,x)]) (zs:=[z0,z1,z2]) (cs:=[a,b,z2]) (vs:=[(0,.agg #[a,b])]) rfl (by rw [← hx]; rfl) (a15 rfl (by simp) ar3) h
theorem c85 {a b : Value} (h1 : a.oneCell' = true) (h2 : b.oneCell' = true) (h3 : c.oneCell' = true) : ∀ v ∈ [a,b,c],v.oneCell' = true:=fun v hv=>by
 simp only [List.mem_cons,List.not_mem_nil,or_false] at hv
 rcases hv with rfl | rfl | rfl <;> assumption
theorem F7 {z : Value} [ti : TyI P t 3 bb z agg] {a b : Value}
  (hx : ev ρ x = .pointer (some ⟨g,0,none⟩)) (hy : ev ρ y = .agg #[a,b,c]) (hb : Blk w g T cs) (hl : cs.length = 3) (h1 : a.oneCell' = true) (h2 : b.oneCell' = true) (h3 : c.oneCell' = true)
  (h : ∀ w',Wrt g w w' → Blk w' g T [a,b,c] → WpR P n all Q rest ρ w') : WpR P n all Q (⟨none,.store t x y,ty,pos,aft,none⟩ :: rest) ρ w:=
 F0 (us:=[a,b,c]) hx hy rfl rfl hb hl (c85 h1 h2 h3) h
end rules
def bot (q : Rat) : Nat:=if q.den = 1 then 0 else q.den
def RatV (S : Nat → Prop) (w : World) (v : Value) (q : Rat) : Prop:=
 ∃ m b,v = .agg #[.bool (tst (q.num < 0)),m,b] ∧ s5 S 227 .u32 w m q.num.natAbs ∧ s5 S 227 .u32 w b (bot q)
theorem RatV.keep (h : RatV S w v q) (k : Keeps S w w') : RatV S w' v q:=let ⟨m,b,h1,h2,h3⟩:=h; ⟨m,b,h1,h2.keep k,h3.keep k⟩
theorem RatV.to (h : RatV S w v q) (k : Ext w w') : RatV S w' v q:=h.keep (.of k)
theorem RatV.mono (h : RatV S w v q) (hs : ∀ k,k < w.heap.size → S k → S' k) : RatV S' w v q:=let ⟨m,b,h1,h2,h3⟩:=h; ⟨m,b,h1,h2.mono hs,h3.mono hs⟩
def dj6 (S : Nat → Prop) (q : Rat) : Ent:=Ent.of (fun v w=>RatV S w v q) fun v w w' h kk=>h.to kk
abbrev rl (q : Rat) (n : Nat) : Prop:=dl q.num.natAbs ≤ n ∧ dl q.den ≤ n
theorem bd4 (hS : Up S w) (h : RatV S w v q) :
  Gives prog 167 [v] w fun v' w'=>Ext w w' ∧ s5 S 227 .u32 w' v' q.den:=by
 obtain ⟨m,b,rfl,hm,hb⟩:=h
 have hl : (dg (bot q)).length = 0 ↔ q.den = 1:=by
  have h1:=@J3 (bot q)
  unfold dl at h1
  rw [h1]
  unfold bot
  have:=q.den_pos
  split <;> omega
 refine l6 func167 rfl rfl rfl ?_
 repeat refine wW ?_
 refine s6 (cs:=[.bool (tst (q.num < 0)),m,b]) rfl ?_
 intro w1 g k1 hg hgs
 replace hb:=hb.to k1
 repeat (first | refine d7 rfl hg rfl ?_ | refine wW ?_ | refine b8 ?_ | refine z6 (by conv=>(lhs; whnf)) (by assumption) ?_ | refine ad2 rfl rfl ?_ | refine j4 rfl ?_)
 try refine d8 ?_
 refine j3 rfl ?_ ?_ <;> intro hc
 ·repeat refine wW ?_
  refine d9 (c96 (hS.to k1)) rfl ?_
  rintro v2 w2 ⟨k2,h2⟩
  repeat (first | refine wW ?_ | refine r4 ?_)
  refine o5 rfl ⟨k1.trans k2,?_⟩
  rw [hl.1 (by omega)]
  exact h2
 repeat (first | refine d7 rfl hg rfl ?_ | refine wW ?_ | refine wp_skip ?_ | refine j4 rfl ?_)
 refine o5 rfl ⟨k1,?_⟩
 have h1 : bot q = q.den:=by unfold bot; rw [if_neg (fun h=>hc (by have:=hl.2 h; omega))]
 rw [h1] at hb
 exact hb
theorem by9 (hS : Up S w) (h : RatV S w v q) :
  Gives prog 145 [v] w fun v' w'=>Ext w w' ∧ IntV S 227 .u32 w' v' (q.den : Int):=by
 have h0:=h
 obtain ⟨m,b,rfl,hm,hb⟩:=h
 refine l6 func145 rfl rfl rfl ?_
 repeat refine wW ?_
 refine s6 (cs:=[.bool (tst (q.num < 0)),m,b]) rfl ?_
 intro w1 g k1 hg hgs
 skip
 refine q9 (cs:=[.bool false,.slice none 0 0]) rfl ?_
 intro w2 g2 k2 hg2 hgs2
 replace hg:=hg.to k2
 have hk1:=k1.size
 repeat (first | refine o9 rfl hg rfl ?_ | refine wW ?_)
 refine d9 (bd4 (hS.to (k1.trans k2)) (h0.to (k1.trans k2))) rfl ?_
 rintro v3 w3 ⟨k3,h3⟩
 refine d9 (br7 h3) rfl ?_
 rintro v4 w4 ⟨k4,m4,rfl,h4⟩
 have hg4:=hg2.to (k3.trans k4)
 refine A5 rfl (by conv=>(lhs; whnf)) hg4 rfl h4.one ?_
 intro w5 k5 hg5
 repeat refine wW ?_
 exact R9 rfl (n8 hg5 rfl) ⟨Keeps.past (((k1.trans k2).trans k3).trans k4) k5 (by omega),m4,rfl,h4.wrT k5 hg4 (by decide)⟩
theorem aj3 (z : Int) {d : Nat} (hd : 0 < d) : (mkRat z d).num.natAbs = z.natAbs / Nat.gcd d z.natAbs ∧ (mkRat z d).den = d / Nat.gcd d z.natAbs ∧ ((mkRat z d).num < 0 ↔ z < 0) ∧ (mkRat z d).num = z / (Nat.gcd d z.natAbs : Nat):=by
 have hg : 0 < Nat.gcd d z.natAbs:=Nat.gcd_pos_of_pos_left _ hd
 have e : mkRat z d = Rat.normalize z d (by omega):=by unfold mkRat; rw [dif_neg (by omega)]
 have hn : (mkRat z d).num = z / (Nat.gcd d z.natAbs : Nat):=by rw [e,Rat.normalize_eq]; show z / ((Nat.gcd z.natAbs d : Nat) : Int) = _; rw [Nat.gcd_comm]
 have hdn : (mkRat z d).den = d / Nat.gcd d z.natAbs:=by rw [e,Rat.normalize_eq]; show d / Nat.gcd z.natAbs d = _; rw [Nat.gcd_comm]
 obtain ⟨c,hc⟩ : ((Nat.gcd d z.natAbs : Nat) : Int) ∣ z:=Int.ofNat_dvd_left.2 (Nat.gcd_dvd_right ..)
 generalize Nat.gcd d z.natAbs = g at *
 have h1 : z / (g : Int) = c:=by rw [hc]; exact Int.mul_ediv_cancel_left _ (by omega)
 have h2 : z.natAbs = g * c.natAbs:=by rw [hc,Int.natAbs_mul,Int.natAbs_natCast]
 refine ⟨?_,hdn,?_,hn⟩
 ·rw [hn,h1,h2,Nat.mul_div_cancel_left _ hg]
 rw [hn,h1,hc]
 constructor
 ·intro h; exact Int.mul_neg_of_pos_of_neg (by omega) h
 intro h
 rcases Int.lt_trichotomy c 0 with h3 | h3 | h3
 ·exact h3
 ·subst h3; simp at h
 have:=Int.mul_pos (show (0 : Int) < g by omega) h3; omega
theorem a92 {vn vd : Value} {d : Nat} (hS : Up S w) (hz : IntV S 227 .u32 w vn z) (hd : s5 S 227 .u32 w vd d) (hd0 : 0 < d) (hlz : zl z ≤ 1099511626000) (hld : dl d ≤ 1099511626000) :
  Gives prog 164 [vn,vd] w fun v' w'=>Ext w w' ∧ RatV S w' v' (mkRat z d):=by
 obtain ⟨m,rfl,hm⟩:=hz
 obtain ⟨hp1,hp2,hp3,_⟩:=aj3 z hd0
 have hg0 : 0 < Nat.gcd d z.natAbs:=Nat.gcd_pos_of_pos_left _ hd0
 unfold zl at hlz
 have hlg : dl (Nat.gcd d z.natAbs) ≤ 1099511626000:=Nat.le_trans (I6 (Nat.gcd_le_left _ hd0)) hld
 refine l6 func164 rfl rfl rfl ?_
 repeat refine wW ?_
 refine s6 (cs:=[.bool (tst (z < 0)),m]) rfl ?_
 intro w1 g k1 hg hgs
 skip
 refine q9 (cs:=[.bool false,.slice none 0 0,.slice none 0 0]) rfl ?_
 intro w2 g2 k2 hg2 hgs2
 have hgl:=hg.lt
 replace hg:=hg.to k2
 have k:=k1.trans k2
 have hk1:=k1.size
 replace hm:=hm.to k
 replace hd:=hd.to k
 have hS2:=hS.to k
 repeat (first | refine d7 rfl hg rfl ?_ | refine wW ?_ | refine j4 rfl ?_)
 refine d9 (du5 hS2 hd hm (by omega) (by omega)) rfl ?_
 rintro v3 w3 ⟨k3,h3⟩
 repeat (first | refine wW ?_ | refine b8 ?_)
 refine d9 (bw7 h3) rfl ?_
 rintro v4 w4 ⟨rfl,rfl⟩
 replace hg:=hg.to k3
 replace hg2:=hg2.to k3
 replace hm:=hm.to k3
 replace hd:=hd.to k3
 have hS4:=hS2.to k3
 have kk:=k.trans k3
 repeat (first | refine wW ?_ | refine a96 rfl ?_)
 first | refine d8 ?_ | refine F9 ?_ | refine B5 ?_ | skip
 refine R6 [(1,1),(13,26)] (fun ρ w'=>∃ mv dv,Blk w' g 51 [.bool (tst (z < 0)),mv] ∧ ρ 1 = dv ∧ s5 S 227 .u32 w' mv (z.natAbs / Nat.gcd d z.natAbs) ∧ s5 S 227 .u32 w' dv (d / Nat.gcd d z.natAbs) ∧ Ext w w' ∧ Blk w' g2 53 [.bool false,.slice none 0 0,.slice none 0 0]) rfl ?_ ?_ ?_
 ·intro hc
  repeat (first | refine d7 rfl hg rfl ?_ | refine wW ?_ | refine j4 rfl ?_)
  refine d9 (cm1 hS4 hm h3 (by omega) (by omega) hg0) rfl ?_
  rintro v5 w5 ⟨vq,vr,rfl,k5,hvq,hvr⟩
  repeat (first | refine q8 ?_ | refine B4 rfl rfl ?_ | refine j4 rfl ?_)
  refine O4 rfl rfl (hg.to k5) (show 1 < 2 by decide) hvq.one ?_
  intro w6 k6 hg6
  have hg2':=(hg2.to k5).wr k6 (by omega)
  replace hvq:=hvq.wrT k6 (hg.to k5) (by decide)
  have hS6 : Up S w6:=fun i hi=>hS4 i (by have:=k5.size; have:=k6.size; omega)
  repeat refine wW ?_
  refine d9 (cm1 hS6 ((hd.to k5).wrT k6 (hg.to k5) (by decide)) ((h3.to k5).wrT k6 (hg.to k5) (by decide)) (by omega) (by omega) hg0) rfl ?_
  rintro v7 w7 ⟨vq2,vr2,rfl,k7,hvq2,hvr2⟩
  repeat (first | refine wW ?_ | refine B4 rfl rfl ?_)
  exact ⟨by (repeat (first | refine i7 rfl ?_ | exact c7 | refine j1 rfl ?_ | exact b9)),_,_,hg6.to k7,rfl,hvq.to k7,hvq2,(Keeps.past (kk.trans k5) k6 hgs).trans k7,hg2'.to k7⟩
 ·intro hc
  have h1 : Nat.gcd d z.natAbs = 1:=Classical.not_not.1 hc
  repeat (first | refine M5 ?_ | refine wp_skip ?_)
  refine ⟨by (repeat (first | refine i7 rfl ?_ | exact c7 | refine j1 rfl ?_ | exact b9)),_,_,hg,rfl,?_,?_,kk,hg2⟩
  ·rw [h1,Nat.div_one]; exact hm
  rw [h1,Nat.div_one]; exact hd
 rintro u w5 ⟨mv,dv,hg5,h1,hmv,hdv,k5,hg25⟩
 refine j7 1 h1 ?_
 have hS5:=hS.to k5
 repeat (first | refine wW ?_ | refine b8 ?_)
 refine d9 (bw7 hdv) rfl ?_
 rintro v6 w6 ⟨rfl,rfl⟩
 repeat refine wW ?_
 first | refine d8 ?_ | refine F9 ?_ | refine B5 ?_ | skip
 refine R6 [(1,1)] (fun ρ w'=>∃ dv,ρ 1 = dv ∧ s5 S 227 .u32 w6 dv (bot (mkRat z d)) ∧ w' = w6) rfl ?_ ?_ ?_
 ·intro hc
  repeat refine wW ?_
  refine ⟨by (repeat (first | refine i7 rfl ?_ | exact c7 | refine j1 rfl ?_ | exact b9)),_,rfl,?_,rfl⟩
  unfold bot
  rw [hp2,if_pos hc]
  exact .nil
 ·intro hc
  repeat (first | refine M5 ?_ | refine wp_skip ?_)
  refine ⟨by (repeat (first | refine i7 rfl ?_ | exact c7 | refine j1 rfl ?_ | exact b9)),_,rfl,?_,rfl⟩
  unfold bot
  rw [hp2,if_neg hc]
  exact hdv
 rintro u2 w7 ⟨dv2,h12,hdv2,rfl⟩
 refine j7 1 h12 ?_
 repeat (first | refine d7 rfl hg5 rfl ?_ | refine wW ?_ | refine j4 rfl ?_)
 refine d9 (Z6 (mkRat z d).num hmv hp1 ?_) rfl ?_
 ·rw [hp3]
  exact ⟨fun h=>⟨h,by have:=hp3.2 h; omega⟩,fun h=>h.1⟩
 rintro v8 w8 ⟨k8,m8,rfl,h8⟩
 repeat (first | refine q8 ?_)
 refine b86 (by conv=>(lhs; whnf)) (by conv=>(lhs; whnf)) hdv2.one ?_
 refine F7 rfl (by conv=>(lhs; whnf)) (hg25.to k8) rfl rfl h8.one hdv2.one ?_
 intro w9 k9 hg9
 repeat refine wW ?_
 exact R9 rfl (n8 hg9 rfl) ⟨Keeps.past (k5.trans k8) k9 (by omega),m8,dv2,rfl,h8.wrT k9 (hg25.to k8) (by decide),(hdv2.to k8).wrT k9 (hg25.to k8) (by decide)⟩
theorem ba1 (a b : Rat) : a * b = mkRat (a.num * b.num) (a.den * b.den):=by
 rw [Rat.mul_def]
 unfold mkRat
 rw [dif_neg (Nat.mul_ne_zero a.den_nz b.den_nz)]
theorem a27 (a b : Rat) (hb : b.num ≠ 0) : a / b = mkRat (a.num * b.den * b.num.sign) (a.den * b.num.natAbs):=by
 rw [Rat.div_def,Rat.inv_def]
 have h1 : a = Rat.divInt a.num a.den:=by rw [Rat.divInt_ofNat]; exact (Rat.mkRat_self a).symm
 conv=>lhs; rw [h1]
 rw [Rat.divInt_mul_divInt]
 rcases Int.lt_trichotomy b.num 0 with h | h | h
 ·have e1 : (a.den : Int) * b.num = -((a.den * b.num.natAbs : Nat) : Int):=by
   rw [Int.natCast_mul,show ((b.num.natAbs : Nat) : Int) = -b.num by omega,Int.mul_neg,Int.neg_neg]
  rw [e1,Int.sign_eq_neg_one_of_neg h,Rat.divInt_neg',Rat.divInt_ofNat]
  congr 1
  rw [Int.mul_neg,Int.mul_one]
 ·exact absurd h hb
 have e1 : (a.den : Int) * b.num = ((a.den * b.num.natAbs : Nat) : Int):=by
  rw [Int.natCast_mul,show ((b.num.natAbs : Nat) : Int) = b.num by omega]
 rw [e1,Int.sign_eq_one_of_pos h,Rat.divInt_ofNat]
 congr 1
 rw [Int.mul_one]
theorem dk9 {a b : Rat} (hS : Up S w) (ha : RatV S w va a) (hb : RatV S w vb b) (hla : rl a 400000000000) (hlb : rl b 400000000000) :
  Gives prog 169 [va,vb] w fun v' w'=>Ext w w' ∧ RatV S w' v' (a + b):=by
 rw [Rat.add_def']
 have h1:=X7 a.num b.den
 have h2:=X7 b.num a.den
 have h3:=bu8 (a.num * b.den) (b.num * a.den)
 have h4:=al1 a.den b.den
 have hd0 : 0 < a.den * b.den:=Nat.mul_pos a.den_pos b.den_pos
 obtain ⟨hla1,hla2⟩:=hla
 obtain ⟨hlb1,hlb2⟩:=hlb
 unfold zl at *
 rw [Int.natAbs_natCast] at h1 h2
 have ha0:=ha
 have hb0:=hb
 obtain ⟨ma,ba,rfl,hma,hba⟩:=ha
 obtain ⟨mb,bb,rfl,hmb,hbb⟩:=hb
 refine l6 func169 rfl rfl rfl ?_
 repeat refine wW ?_
 refine s6 (cs:=[.bool (tst (a.num < 0)),ma,ba]) rfl ?_
 intro w1 ga k1 hga hgsa
 skip
 refine s6 (cs:=[.bool (tst (b.num < 0)),mb,bb]) rfl ?_
 intro w2 gb k2 hgb hgsb
 skip
 refine q9 (cs:=[.bool false,.slice none 0 0,.slice none 0 0]) rfl ?_
 intro w3 g k3 hg hgs
 replace hga:=hga.to (k2.trans k3)
 replace hgb:=hgb.to k3
 have k:=(k1.trans k2).trans k3
 have hs:=(k1.trans k2).size
 replace ha0:=ha0.to k
 replace hb0:=hb0.to k
 replace hma:=hma.to k
 replace hmb:=hmb.to k
 replace hba:=hba.to k
 replace hbb:=hbb.to k
 replace hS:=hS.to k
 clear k1 k2 k3
 repeat refine wW ?_
 refine s7 17 ?_
 apply a7
 ·intro x w1 k1 hd
  refine j4 rfl ?_
  refine b7 ?_
  exact i6
 apply a7
 ·intro x w1 k1 hd
  refine p6 rfl (hga.to k1) rfl rfl ?_
  refine b7 ?_
  exact i6
 apply a7
 ·intro x w1 k1 hd
  refine o9 rfl (hgb.to k1) rfl ?_
  refine b7 ?_
  exact i6
 refine a7 (e:=ba4 S 227 .u32 (b.den : Int)) ?_ ?_
 ·intro x w1 k1 hd
  refine d9 (by9 (hS.to k1) (hb0.to k1)) rfl ?_
  rintro v2 w2 ⟨k2,h2⟩
  exact b7 (y7 k2 h2)
 refine a7 (e:=ba4 S 227 .u32 (a.num * b.den)) ?_ ?_
 ·intro x w1 k1 hd
  refine d9 (bj5 (hS.to k1) ⟨ma,rfl,hma.to k1⟩ hd.1 (by unfold zl; omega) (by unfold zl; rw [Int.natAbs_natCast]; omega)) rfl ?_
  rintro v2 w2 ⟨k2,h2⟩
  exact b7 (y7 k2 h2)
 apply a7
 ·intro x w1 k1 hd
  refine j4 rfl ?_
  refine b7 ?_
  exact i6
 apply a7
 ·intro x w1 k1 hd
  refine p6 rfl (hgb.to k1) rfl rfl ?_
  refine b7 ?_
  exact i6
 apply a7
 ·intro x w1 k1 hd
  refine o9 rfl (hga.to k1) rfl ?_
  refine b7 ?_
  exact i6
 refine a7 (e:=ba4 S 227 .u32 (a.den : Int)) ?_ ?_
 ·intro x w1 k1 hd
  refine d9 (by9 (hS.to k1) (ha0.to k1)) rfl ?_
  rintro v2 w2 ⟨k2,h2⟩
  exact b7 (y7 k2 h2)
 refine a7 (e:=ba4 S 227 .u32 (b.num * a.den)) ?_ ?_
 ·intro x w1 k1 hd
  refine d9 (bj5 (hS.to k1) ⟨mb,rfl,hmb.to k1⟩ hd.1 (by unfold zl; omega) (by unfold zl; rw [Int.natAbs_natCast]; omega)) rfl ?_
  rintro v2 w2 ⟨k2,h2⟩
  exact b7 (y7 k2 h2)
 refine a7 (e:=ba4 S 227 .u32 (a.num * b.den + b.num * a.den)) ?_ ?_
 ·intro x w1 k1 hd
  refine d9 (dl1 (hS.to k1) hd.2.2.2.2.2.1 hd.1 (by omega) (by omega)) rfl ?_
  rintro v2 w2 ⟨k2,h2⟩
  exact b7 (y7 k2 h2)
 apply a7
 ·intro x w1 k1 hd
  refine o9 rfl (hga.to k1) rfl ?_
  refine b7 ?_
  exact i6
 refine a7 (e:=as1 S 227 .u32 a.den) ?_ ?_
 ·intro x w1 k1 hd
  refine d9 (bd4 (hS.to k1) (ha0.to k1)) rfl ?_
  rintro v2 w2 ⟨k2,h2⟩
  exact b7 (y7 k2 h2)
 apply a7
 ·intro x w1 k1 hd
  refine o9 rfl (hgb.to k1) rfl ?_
  refine b7 ?_
  exact i6
 refine a7 (e:=as1 S 227 .u32 b.den) ?_ ?_
 ·intro x w1 k1 hd
  refine d9 (bd4 (hS.to k1) (hb0.to k1)) rfl ?_
  rintro v2 w2 ⟨k2,h2⟩
  exact b7 (y7 k2 h2)
 refine a7 (e:=as1 S 227 .u32 (a.den * b.den)) ?_ ?_
 ·intro x w1 k1 hd
  refine d9 (ap2 (hS.to k1) hd.2.2.1 hd.1 (by omega) (by omega)) rfl ?_
  rintro v2 w2 ⟨k2,h2⟩
  exact b7 (y7 k2 h2)
 refine a7 (e:=dj6 S (mkRat (a.num * b.den + b.num * a.den) (a.den * b.den))) ?_ ?_
 ·intro x w1 k1 hd
  refine d9 (a92 (hS.to k1) hd.2.2.2.2.2.1 hd.1 hd0 (by unfold zl; omega) (by omega)) rfl ?_
  rintro v2 w2 ⟨k2,h2⟩
  exact b7 (y7 k2 h2)
 refine F5 (G7 ?_)
 intro x w5 k5 hall
 obtain ⟨m5,b5,hv5,h5,h6⟩:=hall.1
 refine F7 rfl hv5 (hg.to k5) rfl rfl h5.one h6.one ?_
 intro w6 k6 hg6
 repeat refine wW ?_
 exact R9 rfl (n8 hg6 rfl) ⟨Keeps.past (k.trans k5) k6 (by omega),m5,b5,rfl,h5.wrT k6 (hg.to k5) (by decide),h6.wrT k6 (hg.to k5) (by decide)⟩
theorem c73 {a b : Rat} (hS : Up S w) (ha : RatV S w va a) (hb : RatV S w vb b) (hla : rl a 400000000000) (hlb : rl b 400000000000) :
  Gives prog 161 [va,vb] w fun v' w'=>Ext w w' ∧ RatV S w' v' (a * b):=by
 rw [ba1]
 have h1:=X7 a.num b.num
 have h4:=al1 a.den b.den
 have hd0 : 0 < a.den * b.den:=Nat.mul_pos a.den_pos b.den_pos
 obtain ⟨hla1,hla2⟩:=hla
 obtain ⟨hlb1,hlb2⟩:=hlb
 unfold zl at *
 have ha0:=ha
 have hb0:=hb
 obtain ⟨ma,ba,rfl,hma,hba⟩:=ha
 obtain ⟨mb,bb,rfl,hmb,hbb⟩:=hb
 refine l6 func161 rfl rfl rfl ?_
 repeat refine wW ?_
 refine s6 (cs:=[.bool (tst (a.num < 0)),ma,ba]) rfl ?_
 intro w1 ga k1 hga hgsa
 skip
 refine s6 (cs:=[.bool (tst (b.num < 0)),mb,bb]) rfl ?_
 intro w2 gb k2 hgb hgsb
 skip
 refine q9 (cs:=[.bool false,.slice none 0 0,.slice none 0 0]) rfl ?_
 intro w3 g k3 hg hgs
 replace hga:=hga.to (k2.trans k3)
 replace hgb:=hgb.to k3
 have k:=(k1.trans k2).trans k3
 have hs:=(k1.trans k2).size
 replace ha0:=ha0.to k
 replace hb0:=hb0.to k
 replace hma:=hma.to k
 replace hmb:=hmb.to k
 replace hba:=hba.to k
 replace hbb:=hbb.to k
 replace hS:=hS.to k
 clear k1 k2 k3
 repeat refine wW ?_
 refine s7 11 ?_
 apply a7
 ·intro x w1 k1 hd
  refine j4 rfl ?_
  refine b7 ?_
  exact i6
 apply a7
 ·intro x w1 k1 hd
  refine p6 rfl (hga.to k1) rfl rfl ?_
  refine b7 ?_
  exact i6
 apply a7
 ·intro x w1 k1 hd
  refine j4 rfl ?_
  refine b7 ?_
  exact i6
 apply a7
 ·intro x w1 k1 hd
  refine p6 rfl (hgb.to k1) rfl rfl ?_
  refine b7 ?_
  exact i6
 refine a7 (e:=ba4 S 227 .u32 (a.num * b.num)) ?_ ?_
 ·intro x w1 k1 hd
  refine d9 (bj5 (hS.to k1) ⟨ma,rfl,hma.to k1⟩ ⟨mb,rfl,hmb.to k1⟩ (by unfold zl; omega) (by unfold zl; omega)) rfl ?_
  rintro v2 w2 ⟨k2,h2⟩
  exact b7 (y7 k2 h2)
 apply a7
 ·intro x w1 k1 hd
  refine o9 rfl (hga.to k1) rfl ?_
  refine b7 ?_
  exact i6
 refine a7 (e:=as1 S 227 .u32 a.den) ?_ ?_
 ·intro x w1 k1 hd
  refine d9 (bd4 (hS.to k1) (ha0.to k1)) rfl ?_
  rintro v2 w2 ⟨k2,h2⟩
  exact b7 (y7 k2 h2)
 apply a7
 ·intro x w1 k1 hd
  refine o9 rfl (hgb.to k1) rfl ?_
  refine b7 ?_
  exact i6
 refine a7 (e:=as1 S 227 .u32 b.den) ?_ ?_
 ·intro x w1 k1 hd
  refine d9 (bd4 (hS.to k1) (hb0.to k1)) rfl ?_
  rintro v2 w2 ⟨k2,h2⟩
  exact b7 (y7 k2 h2)
 refine a7 (e:=as1 S 227 .u32 (a.den * b.den)) ?_ ?_
 ·intro x w1 k1 hd
  refine d9 (ap2 (hS.to k1) hd.2.2.1 hd.1 (by omega) (by omega)) rfl ?_
  rintro v2 w2 ⟨k2,h2⟩
  exact b7 (y7 k2 h2)
 refine a7 (e:=dj6 S (mkRat (a.num * b.num) (a.den * b.den))) ?_ ?_
 ·intro x w1 k1 hd
  refine d9 (a92 (hS.to k1) hd.2.2.2.2.2.1 hd.1 hd0 (by unfold zl; omega) (by omega)) rfl ?_
  rintro v2 w2 ⟨k2,h2⟩
  exact b7 (y7 k2 h2)
 refine F5 (G7 ?_)
 intro x w5 k5 hall
 obtain ⟨m5,b5,hv5,h5,h6⟩:=hall.1
 refine F7 rfl hv5 (hg.to k5) rfl rfl h5.one h6.one ?_
 intro w6 k6 hg6
 repeat refine wW ?_
 exact R9 rfl (n8 hg6 rfl) ⟨Keeps.past (k.trans k5) k6 (by omega),m5,b5,rfl,h5.wrT k6 (hg.to k5) (by decide),h6.wrT k6 (hg.to k5) (by decide)⟩
theorem b75 (a b : Rat) (hb : b.num ≠ 0) : (a.num * b.den * b.num.sign).natAbs = a.num.natAbs * b.den:=by
 have h1 : b.num.sign.natAbs = 1:=by
  rcases Int.lt_trichotomy b.num 0 with h | h | h
  ·rw [Int.sign_eq_neg_one_of_neg h]; rfl
  ·exact absurd h hb
  rw [Int.sign_eq_one_of_pos h]; rfl
 rw [Int.natAbs_mul,Int.natAbs_mul,h1,Int.natAbs_natCast,Nat.mul_one]
theorem cz7 (a b : Rat) (hb : b.num ≠ 0) : a.num * b.den * b.num.sign < 0 ↔ (¬ (a.num < 0 ↔ b.num < 0)) ∧ 0 < a.num.natAbs * b.den:=by
 have hd:=b.den_pos
 have e : a.num.natAbs * b.den = a.num.natAbs * (b.den : Int).natAbs:=by rw [Int.natAbs_natCast]
 have h0:=bh4 a.num b.den
 have hdn : ¬ ((b.den : Int) < 0):=by omega
 rw [Int.natAbs_natCast] at h0
 rcases Int.lt_trichotomy b.num 0 with h | h | h
 ·rw [Int.sign_eq_neg_one_of_neg h,Int.mul_neg,Int.mul_one]
  have hp : 0 < a.num.natAbs * b.den ↔ a.num ≠ 0:=by
   constructor
   ·intro h1 h2; rw [h2] at h1; simp at h1
   intro h1; exact Nat.mul_pos (by omega) hd
  rw [hp] at h0 ⊢
  have hz : a.num = 0 → a.num * (b.den : Int) = 0:=fun h=>by rw [h]; simp
  have hnz : a.num * (b.den : Int) = 0 → a.num = 0:=fun h=>by
   rcases Int.mul_eq_zero.1 h with h | h
   ·exact h
   omega
  constructor
  ·intro h1
   refine ⟨fun hi=>?_,fun hi=>by have:=hz hi; omega⟩
   have : a.num < 0:=hi.2 h
   have h2:=h0.2 ⟨fun x=>hdn (x.1 this),by omega⟩
   omega
  rintro ⟨h1,h2⟩
  have h3 : ¬ a.num < 0:=fun x=>h1 ⟨fun _=>h,fun _=>x⟩
  have h4 : ¬ a.num * (b.den : Int) < 0:=fun x=>(h0.1 x).1 ⟨fun y=>absurd y h3,fun y=>absurd y hdn⟩
  have : a.num * (b.den : Int) ≠ 0:=fun x=>h2 (hnz x)
  omega
 ·exact absurd h hb
 rw [Int.sign_eq_one_of_pos h,Int.mul_one,h0]
 have h2 : ¬ b.num < 0:=by omega
 constructor
 ·rintro ⟨h1,h3⟩
  exact ⟨fun hi=>h1 ⟨fun x=>absurd (hi.1 x) h2,fun x=>absurd x hdn⟩,h3⟩
 rintro ⟨h1,h3⟩
 exact ⟨fun hi=>h1 ⟨fun x=>absurd (hi.1 x) hdn,fun x=>absurd x h2⟩,h3⟩
theorem dl5 {a b : Rat} (hS : Up S w) (ha : RatV S w va a) (hb : RatV S w vb b) (hla : rl a 400000000000) (hlb : rl b 400000000000) (hb0' : b.num ≠ 0) :
  Gives prog 124 [va,vb] w fun v' w'=>Ext w w' ∧ RatV S w' v' (a / b):=by
 rw [a27 a b hb0']
 have h1:=al1 a.num.natAbs b.den
 have h4:=al1 a.den b.num.natAbs
 have hd0 : 0 < a.den * b.num.natAbs:=Nat.mul_pos a.den_pos (by omega)
 have hab:=b75 a b hb0'
 have hsg:=cz7 a b hb0'
 obtain ⟨hla1,hla2⟩:=hla
 obtain ⟨hlb1,hlb2⟩:=hlb
 have ha0:=ha
 have hb0:=hb
 obtain ⟨ma,ba,rfl,hma,hba⟩:=ha
 obtain ⟨mb,bb,rfl,hmb,hbb⟩:=hb
 refine l6 func124 rfl rfl rfl ?_
 repeat refine wW ?_
 refine s6 (cs:=[.bool (tst (a.num < 0)),ma,ba]) rfl ?_
 intro w1 ga k1 hga hgsa
 skip
 refine s6 (cs:=[.bool (tst (b.num < 0)),mb,bb]) rfl ?_
 intro w2 gb k2 hgb hgsb
 skip
 refine q9 (cs:=[.bool false,.slice none 0 0,.slice none 0 0]) rfl ?_
 intro w3 g k3 hg hgs
 replace hga:=hga.to (k2.trans k3)
 replace hgb:=hgb.to k3
 have k:=(k1.trans k2).trans k3
 have hs:=(k1.trans k2).size
 replace ha0:=ha0.to k
 replace hb0:=hb0.to k
 replace hma:=hma.to k
 replace hmb:=hmb.to k
 replace hba:=hba.to k
 replace hbb:=hbb.to k
 replace hS:=hS.to k
 clear k1 k2 k3
 repeat refine wW ?_
 refine s7 21 ?_
 apply a7
 ·intro x w1 k1 hd
  refine j4 rfl ?_
  refine b7 ?_
  exact i6
 apply a7
 ·intro x w1 k1 hd
  refine j4 rfl ?_
  refine b7 ?_
  exact i6
 apply a7
 ·intro x w1 k1 hd
  refine d7 rfl (hga.to k1) rfl ?_
  refine b7 ?_
  exact i6
 apply a7
 ·intro x w1 k1 hd
  refine j4 rfl ?_
  refine b7 ?_
  exact i6
 apply a7
 ·intro x w1 k1 hd
  refine j4 rfl ?_
  refine b7 ?_
  exact i6
 apply a7
 ·intro x w1 k1 hd
  refine d7 rfl (hgb.to k1) rfl ?_
  refine b7 ?_
  exact i6
 apply a7
 ·intro x w1 k1 hd
  refine bw6 rfl rfl ?_
  refine b7 ?_
  exact i6
 apply a7
 ·intro x w1 k1 hd
  refine j4 rfl ?_
  refine b7 ?_
  exact i6
 apply a7
 ·intro x w1 k1 hd
  refine j4 rfl ?_
  refine b7 ?_
  exact i6
 apply a7
 ·intro x w1 k1 hd
  refine d7 rfl (hga.to k1) rfl ?_
  refine b7 ?_
  exact i6
 apply a7
 ·intro x w1 k1 hd
  refine o9 rfl (hgb.to k1) rfl ?_
  refine b7 ?_
  exact i6
 refine a7 (e:=as1 S 227 .u32 b.den) ?_ ?_
 ·intro x w1 k1 hd
  refine d9 (bd4 (hS.to k1) (hb0.to k1)) rfl ?_
  rintro v2 w2 ⟨k2,h2⟩
  exact b7 (y7 k2 h2)
 refine a7 (e:=as1 S 227 .u32 (a.num.natAbs * b.den)) ?_ ?_
 ·intro x w1 k1 hd
  refine d9 (ap2 (hS.to k1) (hma.to k1) hd.1 (by omega) (by omega)) rfl ?_
  rintro v2 w2 ⟨k2,h2⟩
  exact b7 (y7 k2 h2)
 refine a7 (e:=ba4 S 227 .u32 (a.num * b.den * b.num.sign)) ?_ ?_
 ·intro x w1 k1 hd
  refine d9 (Z6 (a.num * b.den * b.num.sign) hd.1 hab hsg) rfl ?_
  rintro v2 w2 ⟨k2,h2⟩
  exact b7 (y7 k2 h2)
 apply a7
 ·intro x w1 k1 hd
  refine o9 rfl (hga.to k1) rfl ?_
  refine b7 ?_
  exact i6
 refine a7 (e:=as1 S 227 .u32 a.den) ?_ ?_
 ·intro x w1 k1 hd
  refine d9 (bd4 (hS.to k1) (ha0.to k1)) rfl ?_
  rintro v2 w2 ⟨k2,h2⟩
  exact b7 (y7 k2 h2)
 apply a7
 ·intro x w1 k1 hd
  refine j4 rfl ?_
  refine b7 ?_
  exact i6
 apply a7
 ·intro x w1 k1 hd
  refine j4 rfl ?_
  refine b7 ?_
  exact i6
 apply a7
 ·intro x w1 k1 hd
  refine d7 rfl (hgb.to k1) rfl ?_
  refine b7 ?_
  exact i6
 refine a7 (e:=as1 S 227 .u32 (a.den * b.num.natAbs)) ?_ ?_
 ·intro x w1 k1 hd
  refine d9 (ap2 (hS.to k1) hd.2.2.2.1 (hmb.to k1) (by omega) (by omega)) rfl ?_
  rintro v2 w2 ⟨k2,h2⟩
  exact b7 (y7 k2 h2)
 refine a7 (e:=dj6 S (mkRat (a.num * b.den * b.num.sign) (a.den * b.num.natAbs))) ?_ ?_
 ·intro x w1 k1 hd
  refine d9 (a92 (hS.to k1) hd.2.2.2.2.2.2.1 hd.1 hd0 (by unfold zl; rw [hab]; omega) (by omega)) rfl ?_
  rintro v2 w2 ⟨k2,h2⟩
  exact b7 (y7 k2 h2)
 refine F5 (G7 ?_)
 intro x w5 k5 hall
 obtain ⟨m5,b5,hv5,h5,h6⟩:=hall.1
 refine F7 rfl hv5 (hg.to k5) rfl rfl h5.one h6.one ?_
 intro w6 k6 hg6
 repeat refine wW ?_
 exact R9 rfl (n8 hg6 rfl) ⟨Keeps.past (k.trans k5) k6 (by omega),m5,b5,rfl,h5.wrT k6 (hg.to k5) (by decide),h6.wrT k6 (hg.to k5) (by decide)⟩
theorem a25 (h : RatV S w v q) :
  Gives prog 79 [v] w fun v' w'=>v' = .int .i64 q.num.sign ∧ Ext w w':=by
 obtain ⟨m,b,rfl,hm,hb⟩:=h
 refine l6 func79 rfl rfl rfl ?_
 repeat refine wW ?_
 refine s6 (cs:=[.bool (tst (q.num < 0)),m,b]) rfl ?_
 intro w1 g k1 hg hgs
 repeat (first | refine p6 rfl hg rfl rfl ?_ | refine wW ?_ | refine j4 rfl ?_)
 refine d9 (dd7 (z:=q.num) ⟨m,rfl,hm.to k1⟩) rfl ?_
 rintro v2 w2 ⟨rfl,k2⟩
 repeat refine wW ?_
 exact o5 rfl ⟨rfl,k1.trans k2⟩
theorem dj7 (q : Rat) : bot (-q) = bot q:=by unfold bot; rw [Rat.neg_den]
theorem ba5 (h : RatV S w v q) :
  Gives prog 72 [v] w fun v' w'=>Ext w w' ∧ RatV S w' v' (-q):=by
 obtain ⟨m,b,rfl,hm,hb⟩:=h
 refine l6 func72 rfl rfl rfl ?_
 repeat refine wW ?_
 refine s6 (cs:=[.bool (tst (q.num < 0)),m,b]) rfl ?_
 intro w1 ga k1 hga hgsa
 skip
 refine q9 (cs:=[.bool false,.slice none 0 0,.slice none 0 0]) rfl ?_
 intro w2 g k2 hg hgs
 replace hga:=hga.to k2
 have k:=k1.trans k2
 have hs:=k1.size
 replace hm:=hm.to k
 replace hb:=hb.to k
 clear k1 k2
 repeat refine wW ?_
 refine s7 6 ?_
 apply a7
 ·intro x w1 k1 hd
  refine j4 rfl ?_
  refine b7 ?_
  exact i6
 apply a7
 ·intro x w1 k1 hd
  refine p6 rfl (hga.to k1) rfl rfl ?_
  refine b7 ?_
  exact i6
 refine a7 (e:=ba4 S 227 .u32 (-q.num)) ?_ ?_
 ·intro x w1 k1 hd
  refine d9 (dt7 ⟨m,rfl,hm.to k1⟩) rfl ?_
  rintro v2 w2 ⟨k2,h2⟩
  exact b7 (y7 k2 h2)
 apply a7
 ·intro x w1 k1 hd
  refine j4 rfl ?_
  refine b7 ?_
  exact i6
 apply a7
 ·intro x w1 k1 hd
  refine d7 rfl (hga.to k1) rfl ?_
  refine b7 ?_
  exact i6
 refine a7 (e:=dj6 S (-q)) ?_ ?_
 ·intro x w1 k1 hd
  obtain ⟨m1,hx1,h1⟩ : IntV S 227 .u32 w1 (x 2) (-q.num):=hd.2.2.1
  refine b86 hx1 rfl hb.one ?_
  refine b7 (y7 .refl ⟨m1,b,?_,?_,?_⟩)
  ·rw [Rat.neg_num]; rfl
  ·rw [Rat.neg_num]; exact h1
  rw [dj7]; exact hb.to k1
 refine F5 (G7 ?_)
 intro x w5 k5 hall
 obtain ⟨m5,b5,hv5,h5,h6⟩:=hall.1
 refine F7 rfl hv5 (hg.to k5) rfl rfl h5.one h6.one ?_
 intro w6 k6 hg6
 repeat refine wW ?_
 exact R9 rfl (n8 hg6 rfl) ⟨Keeps.past (k.trans k5) k6 (by omega),m5,b5,rfl,h5.wrT k6 (hg.to k5) (by decide),h6.wrT k6 (hg.to k5) (by decide)⟩
theorem co7 (z : Int) : bot (z : Rat) = 0:=by unfold bot; simp
theorem c97 (hS : Up S w) (h0 : -9223372036854775808 ≤ z) (h1 : z ≤ 9223372036854775807) :
  Gives prog 62 [.int .i64 z] w fun v' w'=>Ext w w' ∧ RatV S w' v' (z : Rat):=by
 refine l6 func62 rfl rfl rfl ?_
 repeat refine wW ?_
 refine q9 (cs:=[.bool false,.slice none 0 0,.slice none 0 0]) rfl ?_
 intro w1 g k1 hg hgs
 repeat refine wW ?_
 refine d9 (ds0 (hS.to k1) h0 h1) rfl ?_
 rintro v2 w2 ⟨k2,m2,rfl,h2⟩
 refine bd8 (by conv=>(lhs; whnf)) ?_
 refine F7 rfl (by conv=>(lhs; whnf)) (hg.to k2) rfl rfl h2.one rfl ?_
 intro w3 k3 hg3
 repeat refine wW ?_
 refine R9 rfl (n8 hg3 rfl) ⟨Keeps.past (k1.trans k2) k3 (by omega),m2,_,rfl,h2.wrT k3 (hg.to k2) (by decide),?_⟩
 rw [co7]
 exact .nil
theorem ca7 (a b : Int) (hb : b ≠ 0) : (a * b.sign).natAbs = a.natAbs:=by
 rcases Int.lt_trichotomy b 0 with h | h | h
 ·rw [Int.sign_eq_neg_one_of_neg h]; omega
 ·exact absurd h hb
 rw [Int.sign_eq_one_of_pos h]; omega
section rules
variable {P : Program} {n : Nat} {Q : G8} {ρ : Fr} {w : World} {all rest : List Oper} {d : Tmp} {ty : TypeId} {pos : String} {aft : Array Edge}
theorem du1 {a b e : Value} (h1 : a.oneCell' = true) (h2 : b.oneCell' = true) (h3 : c.oneCell' = true) (h4 : e.oneCell' = true) : ∀ v ∈ [a,b,c,e],v.oneCell' = true:=fun v hv=>by
 simp only [List.mem_cons,List.not_mem_nil,or_false] at hv
 rcases hv with rfl | rfl | rfl | rfl <;> assumption
theorem cx2 {z3 : Value} [ti : TyI P T 4 bb (.agg #[z0,z1,z2,z3]) true] [st : StcT P T [(0,2),(2,2)]] {a b e : Value} (hx : ev ρ x = .agg #[a,b]) (hy : ev ρ y = .agg #[c,e])
  (h : WpR P n all Q rest (upd ρ d (.agg #[a,b,c,e])) w) : WpR P n all Q (⟨some d,.build T #[(0,x),(1,y)],ty,pos,aft,none⟩ :: rest) ρ w:=
 a48 (parts:=[(0,x),(1,y)]) (zs:=[z0,z1,z2,z3]) (cs:=[a,b,c,e]) (vs:=[(0,.agg #[a,b]),(1,.agg #[c,e])]) rfl (by rw [← hx,← hy]; rfl)
  (a15 rfl (by simp) (a15 rfl (by simp) ar3)) h
theorem an3 {z : Value} [ti : TyI P t 4 bb z agg] {a b e : Value}
  (hx : ev ρ x = .pointer (some ⟨g,0,none⟩)) (hy : ev ρ y = .agg #[a,b,c,e]) (hb : Blk w g T cs) (hl : cs.length = 4) (h1 : a.oneCell' = true) (h2 : b.oneCell' = true) (h3 : c.oneCell' = true) (h4 : e.oneCell' = true)
  (h : ∀ w',Wrt g w w' → Blk w' g T [a,b,c,e] → WpR P n all Q rest ρ w') : WpR P n all Q (⟨none,.store t x y,ty,pos,aft,none⟩ :: rest) ρ w:=
 F0 (us:=[a,b,c,e]) hx hy rfl rfl hb hl (du1 h1 h2 h3 h4) h
end rules
def QV (S : Nat → Prop) (w : World) (v : Value) (q : Rat) : Prop:=
 ∃ m b,v = .agg #[.bool (tst (q.num < 0)),m,.bool (tst ((q.den : Int) < 0)),b] ∧ s5 S 3 .i64 w m q.num.natAbs ∧ s5 S 3 .i64 w b q.den
theorem QV.keep (h : QV S w v q) (k : Keeps S w w') : QV S w' v q:=let ⟨m,b,h1,h2,h3⟩:=h; ⟨m,b,h1,h2.keep k,h3.keep k⟩
theorem QV.to (h : QV S w v q) (k : Ext w w') : QV S w' v q:=h.keep (.of k)
theorem QV.mono (h : QV S w v q) (hs : ∀ k,k < w.heap.size → S k → S' k) : QV S' w v q:=let ⟨m,b,h1,h2,h3⟩:=h; ⟨m,b,h1,h2.mono hs,h3.mono hs⟩
def qE (S : Nat → Prop) (q : Rat) : Ent:=Ent.of (fun v w=>QV S w v q) fun v w w' h kk=>h.to kk
theorem d22 (hS : Up S w) (ha : ZV S w va a) (hb : ZV S w vb b) (hla : zl a ≤ 15999999999000) (hlb : zl b ≤ 15999999999000) :
  Gives prog 151 [va,vb] w fun v' w'=>Ext w w' ∧ ZV S w' v' (Int.gcd a b : Int):=by
 unfold zl at hla hlb
 have ha0:=ha
 have hb0:=hb
 obtain ⟨ma,rfl,hma⟩:=ha
 obtain ⟨mb,rfl,hmb⟩:=hb
 refine l6 func151 rfl rfl rfl ?_
 repeat refine wW ?_
 refine s6 (cs:=[.bool (tst (a < 0)),ma]) rfl ?_
 intro w1 ga k1 hga hgsa
 skip
 refine s6 (cs:=[.bool (tst (b < 0)),mb]) rfl ?_
 intro w2 gb k2 hgb hgsb
 replace hga:=hga.to k2
 have k:=k1.trans k2
 clear k1 k2
 skip
 have hsz:=k.size
 refine q9 (cs:=[.bool false,.slice none 0 0]) rfl ?_
 intro w3 g k3 hg hgs
 replace hga:=hga.to k3
 replace hgb:=hgb.to k3
 replace k:=k.trans k3
 clear k3
 replace ha0:=ha0.to k
 replace hb0:=hb0.to k
 replace hma:=hma.to k
 replace hmb:=hmb.to k
 replace hS:=hS.to k
 repeat (first | refine wW ?_ | refine j4 rfl ?_)
 repeat (first | refine d7 rfl hga rfl ?_ | refine d7 rfl hgb rfl ?_ | refine j4 rfl ?_)
 refine d9 (dw9 hS hma hmb (by omega) (by omega)) rfl ?_
 rintro v4 w4 ⟨k4,h4⟩
 skip
 refine d9 (dn9 h4) rfl ?_
 rintro v5 w5 ⟨k5,m5,rfl,h5⟩
 have hg5:=hg.to (k4.trans k5)
 skip
 refine A5 rfl (by conv=>(lhs; whnf)) hg5 rfl h5.one ?_
 intro w6 k6 hg6
 repeat refine wW ?_
 exact R9 rfl (n8 hg6 rfl) ⟨Keeps.past ((k.trans k4).trans k5) k6 (by omega),m5,rfl,h5.wrT k6 hg5 (by decide)⟩
theorem dr8 {c : Int} (hb : b ≠ 0) : (b * c).natAbs / b.natAbs = c.natAbs:=by
 rw [Int.natAbs_mul]
 exact Nat.mul_div_cancel_left _ (by omega)
theorem dg1 {c : Int} (hb : b ≠ 0) : c < 0 ↔ (¬ (b * c < 0 ↔ b < 0)) ∧ 0 < c.natAbs:=by
 rcases Int.lt_trichotomy c 0 with h | h | h
 ·rcases Int.lt_trichotomy b 0 with h1 | h1 | h1
  ·have:=Int.mul_pos_of_neg_of_neg h1 h
   constructor
   ·intro _; exact ⟨fun x=>by have:=x.2 h1; omega,by omega⟩
   intro _; exact h
  ·exact absurd h1 hb
  have:=Int.mul_neg_of_pos_of_neg h1 h
  constructor
  ·intro _; exact ⟨fun x=>by have:=x.1 this; omega,by omega⟩
  intro _; exact h
 ·subst h; simp
 rcases Int.lt_trichotomy b 0 with h1 | h1 | h1
 ·have:=Int.mul_neg_of_neg_of_pos h1 h
  constructor
  ·intro _; omega
  rintro ⟨x,_⟩; exact absurd ⟨fun _=>h1,fun _=>this⟩ x
 ·exact absurd h1 hb
 have:=Int.mul_pos h1 h
 constructor
 ·intro _; omega
 rintro ⟨x,_⟩; exact absurd ⟨fun y=>by omega,fun y=>by omega⟩ x
theorem c70 (c : Int) (hS : Up S w) (ha : ZV S w va a) (hb : ZV S w vb b) (hla : zl a ≤ 15999999999000) (hlb : zl b ≤ 15999999999000) (hb0 : b ≠ 0) (hc : a = b * c) :
  Gives prog 152 [va,vb] w fun v' w'=>Ext w w' ∧ ZV S w' v' c:=by
 subst hc
 unfold zl at hla hlb
 refine l6 func152 rfl rfl rfl ?_
 obtain ⟨ma,rfl,hma⟩:=ha
 obtain ⟨mb,rfl,hmb⟩:=hb
 repeat refine wW ?_
 refine s6 (cs:=[.bool (tst (b * c < 0)),ma]) rfl ?_
 intro w1 ga k1 hga hgsa
 skip
 refine s6 (cs:=[.bool (tst (b < 0)),mb]) rfl ?_
 intro w2 gb k2 hgb hgsb
 skip
 refine q9 (cs:=[.bool false,.slice none 0 0]) rfl ?_
 intro w3 g k3 hg hgs
 replace hga:=hga.to (k2.trans k3)
 replace hgb:=hgb.to k3
 have k:=(k1.trans k2).trans k3
 have hs:=(k1.trans k2).size
 replace hma:=hma.to k
 replace hmb:=hmb.to k
 replace hS:=hS.to k
 clear k1 k2 k3
 repeat (first | refine d7 rfl hga rfl ?_ | refine d7 rfl hgb rfl ?_ | refine wW ?_ | refine j4 rfl ?_)
 refine d9 (di0 hS hma hmb (by omega) (by omega) (by omega)) rfl ?_
 rintro v4 w4 ⟨vq,vr,rfl,k4,hq,hr⟩
 rw [dr8 hb0] at hq
 replace hga:=hga.to k4
 replace hgb:=hgb.to k4
 repeat (first | refine d7 rfl hga rfl ?_ | refine d7 rfl hgb rfl ?_ | refine wW ?_ | refine B4 rfl rfl ?_ | refine bw6 rfl rfl ?_ | refine j4 rfl ?_)
 refine d9 (at3 c hq rfl (dg1 hb0)) rfl ?_
 rintro v5 w5 ⟨k5,m5,rfl,h5⟩
 have hg5:=hg.to (k4.trans k5)
 skip
 refine A5 rfl (by conv=>(lhs; whnf)) hg5 rfl h5.one ?_
 intro w6 k6 hg6
 repeat refine wW ?_
 exact R9 rfl (n8 hg6 rfl) ⟨Keeps.past ((k.trans k4).trans k5) k6 (by omega),m5,rfl,h5.wrT k6 hg5 (by decide)⟩
theorem b46 (a b : Int) (hb : b ≠ 0) : ∃ g c e : Int,g = (Int.gcd a b : Int) ∧ 0 < g ∧ a = g * c ∧ b = g * e ∧ e ≠ 0 ∧
  (b < 0 → (mkRat (a * b.sign) b.natAbs).num = -c ∧ ((mkRat (a * b.sign) b.natAbs).den : Int) = -e) ∧ (¬ b < 0 → (mkRat (a * b.sign) b.natAbs).num = c ∧ ((mkRat (a * b.sign) b.natAbs).den : Int) = e):=by
 obtain ⟨c,hc⟩ : (Int.gcd a b : Int) ∣ a:=Int.gcd_dvd_left ..
 obtain ⟨e,he⟩ : (Int.gcd a b : Int) ∣ b:=Int.gcd_dvd_right ..
 have hg : 0 < Int.gcd a b:=Int.gcd_pos_of_ne_zero_right _ hb
 obtain ⟨_,h2,_,h4⟩:=aj3 (a * b.sign) (d:=b.natAbs) (by omega)
 have hn : (a * b.sign).natAbs = a.natAbs:=ca7 a b hb
 have hgg : Nat.gcd b.natAbs (a * b.sign).natAbs = Int.gcd a b:=by rw [hn,Nat.gcd_comm]; rfl
 rw [hgg] at h2 h4
 generalize Int.gcd a b = g at *
 have he0 : e ≠ 0:=by rintro rfl; simp at he; exact hb he
 refine ⟨g,c,e,rfl,by omega,hc,he,he0,fun hneg=>?_,fun hneg=>?_⟩
 ·rw [h4,h2,Int.sign_eq_neg_one_of_neg hneg]
  constructor
  ·rw [hc,Int.mul_neg,Int.mul_one,← Int.mul_neg]
   exact Int.mul_ediv_cancel_left _ (by omega)
  have : b.natAbs = g * e.natAbs:=by rw [he,Int.natAbs_mul,Int.natAbs_natCast]
  rw [this,Nat.mul_div_cancel_left _ hg]
  have : e < 0:=by
   rcases Int.lt_trichotomy e 0 with h | h | h
   ·exact h
   ·exact absurd h he0
   have:=Int.mul_pos (show (0 : Int) < g by omega) h; omega
  omega
 have hp : 0 < b:=by omega
 rw [h4,h2,Int.sign_eq_one_of_pos hp]
 constructor
 ·rw [hc,Int.mul_one]
  exact Int.mul_ediv_cancel_left _ (by omega)
 have : b.natAbs = g * e.natAbs:=by rw [he,Int.natAbs_mul,Int.natAbs_natCast]
 rw [this,Nat.mul_div_cancel_left _ hg]
 have : 0 < e:=by
  rcases Int.lt_trichotomy e 0 with h | h | h
  ·have:=Int.mul_neg_of_pos_of_neg (show (0 : Int) < g by omega) h; omega
  ·exact absurd h he0
  exact h
 omega
theorem as2 (hS : Up S w) (ha : ZV S w va a) (hb : ZV S w vb b) (hla : zl a ≤ 15999999999000) (hlb : zl b ≤ 15999999999000) (hb0 : b ≠ 0) :
  Gives prog 111 [va,vb] w fun v' w'=>Ext w w' ∧ QV S w' v' (mkRat (a * b.sign) b.natAbs):=by
 obtain ⟨gi,c,e,hgi,hg0,hac,hbe,he0,hneg,hpos⟩:=b46 a b hb0
 have hlg : zl gi ≤ 15999999999000:=by
  unfold zl at *
  rw [hgi]
  refine Nat.le_trans (I6 ?_) hlb
  exact Nat.gcd_le_right _ (by omega)
 generalize mkRat (a * b.sign) b.natAbs = q at *
 obtain ⟨ma,rfl,hma⟩:=ha
 obtain ⟨mb,rfl,hmb⟩:=hb
 refine l6 func111 rfl rfl rfl ?_
 repeat refine wW ?_
 refine s6 (cs:=[.bool (tst (a < 0)),ma]) rfl ?_
 intro w1 ga k1 hga hgsa
 skip
 refine s6 (cs:=[.bool (tst (b < 0)),mb]) rfl ?_
 intro w2 gb k2 hgb hgsb
 skip
 refine q9 (cs:=[.bool false,.slice none 0 0,.bool false,.slice none 0 0]) rfl ?_
 intro w3 g k3 hg hgs
 replace hga:=hga.to (k2.trans k3)
 replace hgb:=hgb.to k3
 have k:=(k1.trans k2).trans k3
 have hs:=(k1.trans k2).size
 replace hma:=hma.to k
 replace hmb:=hmb.to k
 replace hS:=hS.to k
 clear k1 k2 k3
 repeat (first | refine o9 rfl hga rfl ?_ | refine o9 rfl hgb rfl ?_ | refine wW ?_)
 refine d9 (d22 hS ⟨ma,rfl,hma⟩ ⟨mb,rfl,hmb⟩ hla hlb) rfl ?_
 rintro v4 w4 ⟨k4,m4,rfl,h4⟩
 rw [← hgi] at h4 ⊢
 skip
 refine q9 (cs:=[.bool false,.slice none 0 0]) rfl ?_
 intro w5 g5 k5 hg5 hgs5
 have hgl:=hg.lt
 have hgal:=hga.lt
 have hgbl:=hgb.lt
 have hk4:=k4.size
 have k45:=k4.trans k5
 refine A5 rfl (by conv=>(lhs; whnf)) hg5 rfl h4.one ?_
 intro w6 k6 hg56
 replace hga:=(hga.to k45).wr k6 (by omega)
 replace hgb:=(hgb.to k45).wr k6 (by omega)
 replace hg:=(hg.to k45).wr k6 (by omega)
 replace hma:=(hma.to k45).wrT k6 hg5 (by decide)
 replace hmb:=(hmb.to k45).wrT k6 hg5 (by decide)
 replace h4:=(h4.to k5).wrT k6 hg5 (by decide)
 have hks:=k.size
 replace k : Ext w w6:=(k.trans k45).past k6 (by omega)
 replace hS : Up S w6:=fun i hi=>hS i (by have:=k45.size; have:=k6.size; omega)
 replace hg5:=hg56
 clear hg56 k6 k45 k4 k5
 repeat refine wW ?_
 refine s7 8 ?_
 apply a7
 ·intro x w1 k1 hd
  refine o9 rfl (hga.to k1) rfl ?_
  refine b7 ?_
  exact i6
 apply a7
 ·intro x w1 k1 hd
  refine o9 rfl (hg5.to k1) rfl ?_
  refine b7 ?_
  exact i6
 refine a7 (e:=zE S c) ?_ ?_
 ·intro x w1 k1 hd
  refine d9 (c70 c (hS.to k1) ⟨ma,rfl,hma.to k1⟩ ⟨m4,rfl,h4.to k1⟩ hla hlg (by omega) hac) rfl ?_
  rintro v2 w2 ⟨k2,h2⟩
  exact b7 (y7 k2 h2)
 apply a7
 ·intro x w1 k1 hd
  refine o9 rfl (hgb.to k1) rfl ?_
  refine b7 ?_
  exact i6
 apply a7
 ·intro x w1 k1 hd
  refine o9 rfl (hg5.to k1) rfl ?_
  refine b7 ?_
  exact i6
 refine a7 (e:=zE S e) ?_ ?_
 ·intro x w1 k1 hd
  refine d9 (c70 e (hS.to k1) ⟨mb,rfl,hmb.to k1⟩ ⟨m4,rfl,h4.to k1⟩ hlb hlg (by omega) hbe) rfl ?_
  rintro v2 w2 ⟨k2,h2⟩
  exact b7 (y7 k2 h2)
 refine a7 (e:=Ent.new w6.heap.size 28 [.bool false,.slice none 0 0]) ?_ ?_
 ·intro x w1 k1 hd
  refine q9 (cs:=[.bool false,.slice none 0 0]) rfl ?_
  intro w2 g2 k2 hg2 hgs2
  exact b7 (de0 k2 hg2 hgs2 k1.size)
 refine a7 (e:=Ent.new w6.heap.size 28 [.bool false,.slice none 0 0]) ?_ ?_
 ·intro x w1 k1 hd
  refine q9 (cs:=[.bool false,.slice none 0 0]) rfl ?_
  intro w2 g2 k2 hg2 hgs2
  exact b7 (de0 k2 hg2 hgs2 k1.size)
 refine F5 (ds3 ?_)
 intro x w7 k7 hall hdis
 obtain ⟨g7,hx7,hg7,hgb7⟩ : ∃ g,x 7 = .pointer (some ⟨g,0,none⟩) ∧ Blk w7 g 28 [.bool false,.slice none 0 0] ∧ w6.heap.size ≤ g:=hall.1
 obtain ⟨g6,hx6,hg6,hgb6⟩ : ∃ g,x 6 = .pointer (some ⟨g,0,none⟩) ∧ Blk w7 g 28 [.bool false,.slice none 0 0] ∧ w6.heap.size ≤ g:=hall.2.1
 have hne : x 7 ≠ x 6:=hdis.1.1
 obtain ⟨me,hxe,hme⟩ : ZV S w7 (x 5) e:=hall.2.2.1
 obtain ⟨mc,hxc,hmc⟩ : ZV S w7 (x 2) c:=hall.2.2.2.2.2.1
 have hne' : g7 ≠ g6:=by rintro rfl; exact hne (hx7.trans hx6.symm)
 refine a43 7 hx7 (a43 6 hx6 ?_)
 clear hne hdis hall
 have hg':=hg.to k7
 have hgl6:=hg.lt
 replace hS:=hS.to k7
 replace k:=k.trans k7
 clear k7 hga hgb hg5 hma hmb h4
 refine A5 rfl hxc hg6 rfl hmc.one ?_
 intro w8 k8 hg8
 replace hg7:=hg7.wr k8 (by omega)
 replace hmc:=hmc.wrT k8 hg6 (by decide)
 replace hme:=hme.wrT k8 hg6 (by decide)
 replace hg':=hg'.wr k8 (by omega)
 replace k:=k.past k8 (by omega)
 replace hS : Up S w8:=fun i hi=>hS i (by have:=k8.size; omega)
 replace hg6:=hg8
 clear k8 hg8
 refine A5 rfl hxe hg7 rfl hme.one ?_
 intro w9 k9 hg9
 replace hg6:=hg6.wr k9 (by omega)
 replace hmc:=hmc.wrT k9 hg7 (by decide)
 replace hme:=hme.wrT k9 hg7 (by decide)
 replace hg':=hg'.wr k9 (by omega)
 replace k:=k.past k9 (by omega)
 replace hS : Up S w9:=fun i hi=>hS i (by have:=k9.size; omega)
 replace hg7:=hg9
 clear k9 hg9
 have hbe2 : b < 0 ↔ e < 0:=by
  rcases Int.lt_trichotomy e 0 with h | h | h
  ·have:=Int.mul_neg_of_pos_of_neg hg0 h; omega
  ·exact absurd h he0
  have:=Int.mul_pos hg0 h; omega
 repeat (first | refine d7 rfl hg7 rfl ?_ | refine wW ?_ | refine b8 ?_ | refine j4 rfl ?_)
 first | refine n6 ?_ | refine F9 ?_ | refine B5 ?_ | skip
 refine au3 [(19,22)] (fun ρ w'=>Ext w w' ∧ Blk w' g 30 [.bool false,.slice none 0 0,.bool false,.slice none 0 0] ∧ ∃ m b',Blk w' g6 28 [.bool (tst (q.num < 0)),m] ∧ Blk w' g7 28 [.bool (tst ((q.den : Int) < 0)),b'] ∧ s5 S 3 .i64 w' m q.num.natAbs ∧ s5 S 3 .i64 w' b' q.den) ?_ ?_
 ·refine j3 rfl ?_ ?_ <;> intro hcc
  ·obtain ⟨hq1,hq2⟩:=hneg (hbe2.2 hcc)
   rw [hq1,hq2]
   have hqd : q.den = (-e).natAbs:=by omega
   rw [hqd]
   skip
   refine s7 4 ?_
   apply a7
   ·intro x w1 k1 hd
    refine o9 rfl (hg6.to k1) rfl ?_
    refine b7 ?_
    exact i6
   refine a7 (e:=zE S (-c)) ?_ ?_
   ·intro x w1 k1 hd
    refine d9 (cf7 ⟨mc,rfl,hmc.to k1⟩) rfl ?_
    rintro v2 w2 ⟨k2,h2⟩
    exact b7 (y7 k2 h2)
   apply a7
   ·intro x w1 k1 hd
    refine o9 rfl (hg7.to k1) rfl ?_
    refine b7 ?_
    exact i6
   refine a7 (e:=zE S (-e)) ?_ ?_
   ·intro x w1 k1 hd
    refine d9 (cf7 ⟨me,rfl,hme.to k1⟩) rfl ?_
    rintro v2 w2 ⟨k2,h2⟩
    exact b7 (y7 k2 h2)
   refine F5 (G7 ?_)
   intro x2 w10 k10 hall
   obtain ⟨m2,hx2,h2⟩ : ZV S w10 (x2 3) (-e):=hall.1
   obtain ⟨m1,hx1,h1⟩ : ZV S w10 (x2 1) (-c):=hall.2.2.1
   have hg60:=hg6.to k10
   have hg70:=hg7.to k10
   have hksz:=k.size
   refine A5 rfl hx1 hg60 rfl h1.one ?_
   intro w11 k11 hg11
   have hg71:=hg70.wr k11 (by omega)
   refine A5 rfl hx2 hg71 rfl h2.one ?_
   intro w12 k12 hg12
   repeat refine wW ?_
   refine ⟨by (repeat (first | refine i7 rfl ?_ | exact c7 | refine j1 rfl ?_ | exact b9 | refine m9 rfl ?_ | refine l9 rfl ?_)),((k.trans k10).past k11 (by omega)).past k12 (by omega),((hg'.to k10).wr k11 (by omega)).wr k12 (by omega),m1,m2,hg11.wr k12 (by omega),hg12,(h1.wrT k11 hg60 (by decide)).wrT k12 hg71 (by decide),(h2.wrT k11 hg60 (by decide)).wrT k12 hg71 (by decide)⟩
  obtain ⟨hq1,hq2⟩:=hpos (fun h=>hcc (hbe2.1 h))
  rw [hq1,hq2]
  have hqd : q.den = e.natAbs:=by omega
  rw [hqd]
  repeat (first | refine M5 ?_ | refine wp_skip ?_)
  exact ⟨by (repeat (first | refine i7 rfl ?_ | exact c7 | refine j1 rfl ?_ | exact b9 | refine m9 rfl ?_ | refine l9 rfl ?_)),k,hg',mc,me,hg6,hg7,hmc,hme⟩
 rintro u w10 ⟨k10,hg10,m,b',hg60,hg70,hm,hbb⟩
 repeat (first | refine o9 rfl hg60 rfl ?_ | refine o9 rfl hg70 rfl ?_ | refine wW ?_)
 refine cx2 (by conv=>(lhs; whnf)) (by conv=>(lhs; whnf)) ?_
 skip
 refine an3 rfl (by conv=>(lhs; whnf)) hg10 rfl rfl hm.one rfl hbb.one ?_
 intro w11 k11 hg11
 repeat refine wW ?_
 exact R9 rfl (n8 hg11 rfl) ⟨k10.past k11 (by omega),m,b',rfl,hm.wrT k11 hg10 (by decide),hbb.wrT k11 hg10 (by decide)⟩
theorem bb0 (z : Int) (d : Nat) (hd : d ≠ 0) : mkRat (z * (d : Int).sign) (d : Int).natAbs = mkRat z d:=by
 rw [Int.natAbs_natCast,Int.sign_eq_one_of_pos (by omega),Int.mul_one]
theorem zz (S : Nat → Prop) (h : s5 S 3 .i64 w m q.num.natAbs) : ZV S w (.agg #[.bool (tst (q.num < 0)),m]) q.num:=⟨m,rfl,h⟩
theorem zd (S : Nat → Prop) (h : s5 S 3 .i64 w m q.den) : ZV S w (.agg #[.bool (tst ((q.den : Int) < 0)),m]) (q.den : Int):=⟨m,rfl,by rw [Int.natAbs_natCast]; exact h⟩
theorem af7 {a b : Rat} (hS : Up S w) (ha : QV S w va a) (hb : QV S w vb b) (hla : rl a 400000000000) (hlb : rl b 400000000000) :
  Gives prog 78 [va,vb] w fun v' w'=>Ext w w' ∧ QV S w' v' (a + b):=by
 rw [Rat.add_def']
 have h1:=X7 a.num b.den
 have h2:=X7 b.num a.den
 have h3:=X7 (a.den : Int) b.den
 have h4:=bu8 (a.num * b.den) (b.num * a.den)
 obtain ⟨hl1,hl2⟩:=hla
 obtain ⟨hl3,hl4⟩:=hlb
 have hz1 : zl (a.den : Int) = dl a.den:=by unfold zl; rw [Int.natAbs_natCast]
 have hz2 : zl (b.den : Int) = dl b.den:=by unfold zl; rw [Int.natAbs_natCast]
 have hz3 : zl a.num = dl a.num.natAbs:=rfl
 have hz4 : zl b.num = dl b.num.natAbs:=rfl
 have hd0 : a.den * b.den ≠ 0:=Nat.mul_ne_zero a.den_nz b.den_nz
 rw [← bb0 _ _ hd0,Int.natCast_mul]
 have hdz : (a.den : Int) * b.den ≠ 0:=by rw [← Int.natCast_mul]; omega
 have ha0:=ha
 have hb0:=hb
 obtain ⟨ma,ba,rfl,hma,hba⟩:=ha
 obtain ⟨mb,bb,rfl,hmb,hbb⟩:=hb
 refine l6 func78 rfl rfl rfl ?_
 repeat refine wW ?_
 refine s6 (cs:=[.bool (tst (a.num < 0)),ma,.bool (tst ((a.den : Int) < 0)),ba]) rfl ?_
 intro w1 ga k1 hga hgsa
 skip
 refine s6 (cs:=[.bool (tst (b.num < 0)),mb,.bool (tst ((b.den : Int) < 0)),bb]) rfl ?_
 intro w2 gb k2 hgb hgsb
 skip
 refine q9 (cs:=[.bool false,.slice none 0 0,.bool false,.slice none 0 0]) rfl ?_
 intro w3 g k3 hg hgs
 replace hga:=hga.to (k2.trans k3)
 replace hgb:=hgb.to k3
 have k:=(k1.trans k2).trans k3
 have hs:=(k1.trans k2).size
 replace ha0:=ha0.to k
 replace hb0:=hb0.to k
 replace hma:=hma.to k
 replace hmb:=hmb.to k
 replace hba:=hba.to k
 replace hbb:=hbb.to k
 replace hS:=hS.to k
 clear k1 k2 k3
 repeat refine wW ?_
 refine s7 17 ?_
 apply a7
 ·intro x w1 k1 hd
  refine j4 rfl ?_
  refine b7 ?_
  exact i6
 apply a7
 ·intro x w1 k1 hd
  refine p6 rfl (hga.to k1) rfl rfl ?_
  refine b7 ?_
  exact i6
 apply a7
 ·intro x w1 k1 hd
  refine j4 rfl ?_
  refine b7 ?_
  exact i6
 apply a7
 ·intro x w1 k1 hd
  refine p6 rfl (hgb.to k1) rfl rfl ?_
  refine b7 ?_
  exact i6
 refine a7 (e:=zE S (a.num * b.den)) ?_ ?_
 ·intro x w1 k1 hd
  refine d9 (ak7 (hS.to k1) (zz S (hma.to k1)) (zd S (hbb.to k1)) (by omega) (by omega)) rfl ?_
  rintro v2 w2 ⟨k2,h2⟩
  exact b7 (y7 k2 h2)
 apply a7
 ·intro x w1 k1 hd
  refine j4 rfl ?_
  refine b7 ?_
  exact i6
 apply a7
 ·intro x w1 k1 hd
  refine p6 rfl (hgb.to k1) rfl rfl ?_
  refine b7 ?_
  exact i6
 apply a7
 ·intro x w1 k1 hd
  refine j4 rfl ?_
  refine b7 ?_
  exact i6
 apply a7
 ·intro x w1 k1 hd
  refine p6 rfl (hga.to k1) rfl rfl ?_
  refine b7 ?_
  exact i6
 refine a7 (e:=zE S (b.num * a.den)) ?_ ?_
 ·intro x w1 k1 hd
  refine d9 (ak7 (hS.to k1) (zz S (hmb.to k1)) (zd S (hba.to k1)) (by omega) (by omega)) rfl ?_
  rintro v2 w2 ⟨k2,h2⟩
  exact b7 (y7 k2 h2)
 refine a7 (e:=zE S (a.num * b.den + b.num * a.den)) ?_ ?_
 ·intro x w1 k1 hd
  refine d9 (da1 (hS.to k1) hd.2.2.2.2.2.1 hd.1 (by omega) (by omega)) rfl ?_
  rintro v2 w2 ⟨k2,h2⟩
  exact b7 (y7 k2 h2)
 apply a7
 ·intro x w1 k1 hd
  refine j4 rfl ?_
  refine b7 ?_
  exact i6
 apply a7
 ·intro x w1 k1 hd
  refine p6 rfl (hga.to k1) rfl rfl ?_
  refine b7 ?_
  exact i6
 apply a7
 ·intro x w1 k1 hd
  refine j4 rfl ?_
  refine b7 ?_
  exact i6
 apply a7
 ·intro x w1 k1 hd
  refine p6 rfl (hgb.to k1) rfl rfl ?_
  refine b7 ?_
  exact i6
 refine a7 (e:=zE S ((a.den : Int) * b.den)) ?_ ?_
 ·intro x w1 k1 hd
  refine d9 (ak7 (hS.to k1) (zd S (hba.to k1)) (zd S (hbb.to k1)) (by omega) (by omega)) rfl ?_
  rintro v2 w2 ⟨k2,h2⟩
  exact b7 (y7 k2 h2)
 refine a7 (e:=qE S (mkRat ((a.num * b.den + b.num * a.den) * ((a.den : Int) * b.den).sign) ((a.den : Int) * b.den).natAbs)) ?_ ?_
 ·intro x w1 k1 hd
  refine d9 (as2 (a:=a.num * b.den + b.num * a.den) (b:=(a.den : Int) * b.den) (hS.to k1) hd.2.2.2.2.2.1 hd.1 (by omega) (by omega) hdz) rfl ?_
  rintro v2 w2 ⟨k2,h2⟩
  exact b7 (y7 k2 h2)
 refine F5 (G7 ?_)
 intro x w5 k5 hall
 obtain ⟨m5,b5,hv5,h5,h6⟩:=hall.1
 refine an3 rfl hv5 (hg.to k5) rfl rfl h5.one rfl h6.one ?_
 intro w6 k6 hg6
 repeat refine wW ?_
 exact R9 rfl (n8 hg6 rfl) ⟨Keeps.past (k.trans k5) k6 (by omega),m5,b5,rfl,h5.wrT k6 (hg.to k5) (by decide),h6.wrT k6 (hg.to k5) (by decide)⟩
theorem am4 {a b : Rat} (hS : Up S w) (ha : QV S w va a) (hb : QV S w vb b) (hla : rl a 400000000000) (hlb : rl b 400000000000) :
  Gives prog 52 [va,vb] w fun v' w'=>Ext w w' ∧ QV S w' v' (a - b):=by
 rw [Rat.sub_def']
 have h1:=X7 a.num b.den
 have h2:=X7 b.num a.den
 have h3:=X7 (a.den : Int) b.den
 have h4:=bu8 (a.num * b.den) (-(b.num * a.den))
 have h5 : zl (-(b.num * a.den)) = zl (b.num * a.den):=by unfold zl; rw [Int.natAbs_neg]
 rw [← Int.sub_eq_add_neg] at h4
 obtain ⟨hl1,hl2⟩:=hla
 obtain ⟨hl3,hl4⟩:=hlb
 have hz1 : zl (a.den : Int) = dl a.den:=by unfold zl; rw [Int.natAbs_natCast]
 have hz2 : zl (b.den : Int) = dl b.den:=by unfold zl; rw [Int.natAbs_natCast]
 have hz3 : zl a.num = dl a.num.natAbs:=rfl
 have hz4 : zl b.num = dl b.num.natAbs:=rfl
 have hd0 : a.den * b.den ≠ 0:=Nat.mul_ne_zero a.den_nz b.den_nz
 rw [← bb0 _ _ hd0,Int.natCast_mul]
 have hdz : (a.den : Int) * b.den ≠ 0:=by rw [← Int.natCast_mul]; omega
 have ha0:=ha
 have hb0:=hb
 obtain ⟨ma,ba,rfl,hma,hba⟩:=ha
 obtain ⟨mb,bb,rfl,hmb,hbb⟩:=hb
 refine l6 func52 rfl rfl rfl ?_
 repeat refine wW ?_
 refine s6 (cs:=[.bool (tst (a.num < 0)),ma,.bool (tst ((a.den : Int) < 0)),ba]) rfl ?_
 intro w1 ga k1 hga hgsa
 skip
 refine s6 (cs:=[.bool (tst (b.num < 0)),mb,.bool (tst ((b.den : Int) < 0)),bb]) rfl ?_
 intro w2 gb k2 hgb hgsb
 skip
 refine q9 (cs:=[.bool false,.slice none 0 0,.bool false,.slice none 0 0]) rfl ?_
 intro w3 g k3 hg hgs
 replace hga:=hga.to (k2.trans k3)
 replace hgb:=hgb.to k3
 have k:=(k1.trans k2).trans k3
 have hs:=(k1.trans k2).size
 replace ha0:=ha0.to k
 replace hb0:=hb0.to k
 replace hma:=hma.to k
 replace hmb:=hmb.to k
 replace hba:=hba.to k
 replace hbb:=hbb.to k
 replace hS:=hS.to k
 clear k1 k2 k3
 repeat refine wW ?_
 refine s7 17 ?_
 apply a7
 ·intro x w1 k1 hd
  refine j4 rfl ?_
  refine b7 ?_
  exact i6
 apply a7
 ·intro x w1 k1 hd
  refine p6 rfl (hga.to k1) rfl rfl ?_
  refine b7 ?_
  exact i6
 apply a7
 ·intro x w1 k1 hd
  refine j4 rfl ?_
  refine b7 ?_
  exact i6
 apply a7
 ·intro x w1 k1 hd
  refine p6 rfl (hgb.to k1) rfl rfl ?_
  refine b7 ?_
  exact i6
 refine a7 (e:=zE S (a.num * b.den)) ?_ ?_
 ·intro x w1 k1 hd
  refine d9 (ak7 (hS.to k1) (zz S (hma.to k1)) (zd S (hbb.to k1)) (by omega) (by omega)) rfl ?_
  rintro v2 w2 ⟨k2,h2⟩
  exact b7 (y7 k2 h2)
 apply a7
 ·intro x w1 k1 hd
  refine j4 rfl ?_
  refine b7 ?_
  exact i6
 apply a7
 ·intro x w1 k1 hd
  refine p6 rfl (hgb.to k1) rfl rfl ?_
  refine b7 ?_
  exact i6
 apply a7
 ·intro x w1 k1 hd
  refine j4 rfl ?_
  refine b7 ?_
  exact i6
 apply a7
 ·intro x w1 k1 hd
  refine p6 rfl (hga.to k1) rfl rfl ?_
  refine b7 ?_
  exact i6
 refine a7 (e:=zE S (b.num * a.den)) ?_ ?_
 ·intro x w1 k1 hd
  refine d9 (ak7 (hS.to k1) (zz S (hmb.to k1)) (zd S (hba.to k1)) (by omega) (by omega)) rfl ?_
  rintro v2 w2 ⟨k2,h2⟩
  exact b7 (y7 k2 h2)
 refine a7 (e:=zE S (a.num * b.den - b.num * a.den)) ?_ ?_
 ·intro x w1 k1 hd
  refine d9 (db7 (hS.to k1) hd.2.2.2.2.2.1 hd.1 (by omega) (by omega)) rfl ?_
  rintro v2 w2 ⟨k2,h2⟩
  exact b7 (y7 k2 h2)
 apply a7
 ·intro x w1 k1 hd
  refine j4 rfl ?_
  refine b7 ?_
  exact i6
 apply a7
 ·intro x w1 k1 hd
  refine p6 rfl (hga.to k1) rfl rfl ?_
  refine b7 ?_
  exact i6
 apply a7
 ·intro x w1 k1 hd
  refine j4 rfl ?_
  refine b7 ?_
  exact i6
 apply a7
 ·intro x w1 k1 hd
  refine p6 rfl (hgb.to k1) rfl rfl ?_
  refine b7 ?_
  exact i6
 refine a7 (e:=zE S ((a.den : Int) * b.den)) ?_ ?_
 ·intro x w1 k1 hd
  refine d9 (ak7 (hS.to k1) (zd S (hba.to k1)) (zd S (hbb.to k1)) (by omega) (by omega)) rfl ?_
  rintro v2 w2 ⟨k2,h2⟩
  exact b7 (y7 k2 h2)
 refine a7 (e:=qE S (mkRat ((a.num * b.den - b.num * a.den) * ((a.den : Int) * b.den).sign) ((a.den : Int) * b.den).natAbs)) ?_ ?_
 ·intro x w1 k1 hd
  refine d9 (as2 (a:=a.num * b.den - b.num * a.den) (b:=(a.den : Int) * b.den) (hS.to k1) hd.2.2.2.2.2.1 hd.1 (by omega) (by omega) hdz) rfl ?_
  rintro v2 w2 ⟨k2,h2⟩
  exact b7 (y7 k2 h2)
 refine F5 (G7 ?_)
 intro x w5 k5 hall
 obtain ⟨m5,b5,hv5,h5,h6⟩:=hall.1
 refine an3 rfl hv5 (hg.to k5) rfl rfl h5.one rfl h6.one ?_
 intro w6 k6 hg6
 repeat refine wW ?_
 exact R9 rfl (n8 hg6 rfl) ⟨Keeps.past (k.trans k5) k6 (by omega),m5,b5,rfl,h5.wrT k6 (hg.to k5) (by decide),h6.wrT k6 (hg.to k5) (by decide)⟩
theorem s8 {a b : Rat} (hS : Up S w) (ha : QV S w va a) (hb : QV S w vb b) (hla : rl a 400000000000) (hlb : rl b 400000000000) :
  Gives prog 50 [va,vb] w fun v' w'=>Ext w w' ∧ QV S w' v' (a * b):=by
 rw [ba1]
 have h1:=X7 a.num b.num
 have h3:=X7 (a.den : Int) b.den
 obtain ⟨hl1,hl2⟩:=hla
 obtain ⟨hl3,hl4⟩:=hlb
 have hz1 : zl (a.den : Int) = dl a.den:=by unfold zl; rw [Int.natAbs_natCast]
 have hz2 : zl (b.den : Int) = dl b.den:=by unfold zl; rw [Int.natAbs_natCast]
 have hz3 : zl a.num = dl a.num.natAbs:=rfl
 have hz4 : zl b.num = dl b.num.natAbs:=rfl
 have hd0 : a.den * b.den ≠ 0:=Nat.mul_ne_zero a.den_nz b.den_nz
 rw [← bb0 _ _ hd0,Int.natCast_mul]
 have hdz : (a.den : Int) * b.den ≠ 0:=by rw [← Int.natCast_mul]; omega
 have ha0:=ha
 have hb0:=hb
 obtain ⟨ma,ba,rfl,hma,hba⟩:=ha
 obtain ⟨mb,bb,rfl,hmb,hbb⟩:=hb
 refine l6 func50 rfl rfl rfl ?_
 repeat refine wW ?_
 refine s6 (cs:=[.bool (tst (a.num < 0)),ma,.bool (tst ((a.den : Int) < 0)),ba]) rfl ?_
 intro w1 ga k1 hga hgsa
 skip
 refine s6 (cs:=[.bool (tst (b.num < 0)),mb,.bool (tst ((b.den : Int) < 0)),bb]) rfl ?_
 intro w2 gb k2 hgb hgsb
 skip
 refine q9 (cs:=[.bool false,.slice none 0 0,.bool false,.slice none 0 0]) rfl ?_
 intro w3 g k3 hg hgs
 replace hga:=hga.to (k2.trans k3)
 replace hgb:=hgb.to k3
 have k:=(k1.trans k2).trans k3
 have hs:=(k1.trans k2).size
 replace ha0:=ha0.to k
 replace hb0:=hb0.to k
 replace hma:=hma.to k
 replace hmb:=hmb.to k
 replace hba:=hba.to k
 replace hbb:=hbb.to k
 replace hS:=hS.to k
 clear k1 k2 k3
 repeat refine wW ?_
 refine s7 11 ?_
 apply a7
 ·intro x w1 k1 hd
  refine j4 rfl ?_
  refine b7 ?_
  exact i6
 apply a7
 ·intro x w1 k1 hd
  refine p6 rfl (hga.to k1) rfl rfl ?_
  refine b7 ?_
  exact i6
 apply a7
 ·intro x w1 k1 hd
  refine j4 rfl ?_
  refine b7 ?_
  exact i6
 apply a7
 ·intro x w1 k1 hd
  refine p6 rfl (hgb.to k1) rfl rfl ?_
  refine b7 ?_
  exact i6
 refine a7 (e:=zE S (a.num * b.num)) ?_ ?_
 ·intro x w1 k1 hd
  refine d9 (ak7 (hS.to k1) (zz S (hma.to k1)) (zz S (hmb.to k1)) (by omega) (by omega)) rfl ?_
  rintro v2 w2 ⟨k2,h2⟩
  exact b7 (y7 k2 h2)
 apply a7
 ·intro x w1 k1 hd
  refine j4 rfl ?_
  refine b7 ?_
  exact i6
 apply a7
 ·intro x w1 k1 hd
  refine p6 rfl (hga.to k1) rfl rfl ?_
  refine b7 ?_
  exact i6
 apply a7
 ·intro x w1 k1 hd
  refine j4 rfl ?_
  refine b7 ?_
  exact i6
 apply a7
 ·intro x w1 k1 hd
  refine p6 rfl (hgb.to k1) rfl rfl ?_
  refine b7 ?_
  exact i6
 refine a7 (e:=zE S ((a.den : Int) * b.den)) ?_ ?_
 ·intro x w1 k1 hd
  refine d9 (ak7 (hS.to k1) (zd S (hba.to k1)) (zd S (hbb.to k1)) (by omega) (by omega)) rfl ?_
  rintro v2 w2 ⟨k2,h2⟩
  exact b7 (y7 k2 h2)
 refine a7 (e:=qE S (mkRat ((a.num * b.num) * ((a.den : Int) * b.den).sign) ((a.den : Int) * b.den).natAbs)) ?_ ?_
 ·intro x w1 k1 hd
  refine d9 (as2 (a:=a.num * b.num) (b:=(a.den : Int) * b.den) (hS.to k1) hd.2.2.2.2.2.1 hd.1 (by omega) (by omega) hdz) rfl ?_
  rintro v2 w2 ⟨k2,h2⟩
  exact b7 (y7 k2 h2)
 refine F5 (G7 ?_)
 intro x w5 k5 hall
 obtain ⟨m5,b5,hv5,h5,h6⟩:=hall.1
 refine an3 rfl hv5 (hg.to k5) rfl rfl h5.one rfl h6.one ?_
 intro w6 k6 hg6
 repeat refine wW ?_
 exact R9 rfl (n8 hg6 rfl) ⟨Keeps.past (k.trans k5) k6 (by omega),m5,b5,rfl,h5.wrT k6 (hg.to k5) (by decide),h6.wrT k6 (hg.to k5) (by decide)⟩
theorem cv6 (a b : Rat) (hb : b.num ≠ 0) : a / b = mkRat (a.num * b.den * ((a.den : Int) * b.num).sign) ((a.den : Int) * b.num).natAbs:=by
 have : (a.den : Int).sign = 1:=Int.sign_eq_one_of_pos (by have:=a.den_pos; omega)
 rw [a27 a b hb,Int.sign_mul,this,Int.one_mul,Int.natAbs_mul,Int.natAbs_natCast]
theorem bw5 {a b : Rat} (hS : Up S w) (ha : QV S w va a) (hb : QV S w vb b) (hla : rl a 400000000000) (hlb : rl b 400000000000) (hb0' : b.num ≠ 0) :
  Gives prog 132 [va,vb] w fun v' w'=>Ext w w' ∧ QV S w' v' (a / b):=by
 rw [cv6 a b hb0']
 have h1:=X7 a.num b.den
 have h3:=X7 (a.den : Int) b.num
 obtain ⟨hl1,hl2⟩:=hla
 obtain ⟨hl3,hl4⟩:=hlb
 have hz1 : zl (a.den : Int) = dl a.den:=by unfold zl; rw [Int.natAbs_natCast]
 have hz2 : zl (b.den : Int) = dl b.den:=by unfold zl; rw [Int.natAbs_natCast]
 have hz3 : zl a.num = dl a.num.natAbs:=rfl
 have hz4 : zl b.num = dl b.num.natAbs:=rfl
 have hdz : (a.den : Int) * b.num ≠ 0:=Int.mul_ne_zero (by have:=a.den_pos; omega) hb0'
 have ha0:=ha
 have hb0:=hb
 obtain ⟨ma,ba,rfl,hma,hba⟩:=ha
 obtain ⟨mb,bb,rfl,hmb,hbb⟩:=hb
 refine l6 func132 rfl rfl rfl ?_
 repeat refine wW ?_
 refine s6 (cs:=[.bool (tst (a.num < 0)),ma,.bool (tst ((a.den : Int) < 0)),ba]) rfl ?_
 intro w1 ga k1 hga hgsa
 skip
 refine s6 (cs:=[.bool (tst (b.num < 0)),mb,.bool (tst ((b.den : Int) < 0)),bb]) rfl ?_
 intro w2 gb k2 hgb hgsb
 skip
 refine q9 (cs:=[.bool false,.slice none 0 0,.bool false,.slice none 0 0]) rfl ?_
 intro w3 g k3 hg hgs
 replace hga:=hga.to (k2.trans k3)
 replace hgb:=hgb.to k3
 have k:=(k1.trans k2).trans k3
 have hs:=(k1.trans k2).size
 replace ha0:=ha0.to k
 replace hb0:=hb0.to k
 replace hma:=hma.to k
 replace hmb:=hmb.to k
 replace hba:=hba.to k
 replace hbb:=hbb.to k
 replace hS:=hS.to k
 clear k1 k2 k3
 repeat refine wW ?_
 refine s7 11 ?_
 apply a7
 ·intro x w1 k1 hd
  refine j4 rfl ?_
  refine b7 ?_
  exact i6
 apply a7
 ·intro x w1 k1 hd
  refine p6 rfl (hga.to k1) rfl rfl ?_
  refine b7 ?_
  exact i6
 apply a7
 ·intro x w1 k1 hd
  refine j4 rfl ?_
  refine b7 ?_
  exact i6
 apply a7
 ·intro x w1 k1 hd
  refine p6 rfl (hgb.to k1) rfl rfl ?_
  refine b7 ?_
  exact i6
 refine a7 (e:=zE S (a.num * b.den)) ?_ ?_
 ·intro x w1 k1 hd
  refine d9 (ak7 (hS.to k1) (zz S (hma.to k1)) (zd S (hbb.to k1)) (by omega) (by omega)) rfl ?_
  rintro v2 w2 ⟨k2,h2⟩
  exact b7 (y7 k2 h2)
 apply a7
 ·intro x w1 k1 hd
  refine j4 rfl ?_
  refine b7 ?_
  exact i6
 apply a7
 ·intro x w1 k1 hd
  refine p6 rfl (hga.to k1) rfl rfl ?_
  refine b7 ?_
  exact i6
 apply a7
 ·intro x w1 k1 hd
  refine j4 rfl ?_
  refine b7 ?_
  exact i6
 apply a7
 ·intro x w1 k1 hd
  refine p6 rfl (hgb.to k1) rfl rfl ?_
  refine b7 ?_
  exact i6
 refine a7 (e:=zE S ((a.den : Int) * b.num)) ?_ ?_
 ·intro x w1 k1 hd
  refine d9 (ak7 (hS.to k1) (zd S (hba.to k1)) (zz S (hmb.to k1)) (by omega) (by omega)) rfl ?_
  rintro v2 w2 ⟨k2,h2⟩
  exact b7 (y7 k2 h2)
 refine a7 (e:=qE S (mkRat ((a.num * b.den) * ((a.den : Int) * b.num).sign) ((a.den : Int) * b.num).natAbs)) ?_ ?_
 ·intro x w1 k1 hd
  refine d9 (as2 (a:=a.num * b.den) (b:=(a.den : Int) * b.num) (hS.to k1) hd.2.2.2.2.2.1 hd.1 (by omega) (by omega) hdz) rfl ?_
  rintro v2 w2 ⟨k2,h2⟩
  exact b7 (y7 k2 h2)
 refine F5 (G7 ?_)
 intro x w5 k5 hall
 obtain ⟨m5,b5,hv5,h5,h6⟩:=hall.1
 refine an3 rfl hv5 (hg.to k5) rfl rfl h5.one rfl h6.one ?_
 intro w6 k6 hg6
 repeat refine wW ?_
 exact R9 rfl (n8 hg6 rfl) ⟨Keeps.past (k.trans k5) k6 (by omega),m5,b5,rfl,h5.wrT k6 (hg.to k5) (by decide),h6.wrT k6 (hg.to k5) (by decide)⟩
theorem ao2 {Q : G8} {all rest : List Oper} {d : Tmp} {t2 : TypeId} {a b : List UInt8} (hx : ev ρ x = F3 a) (hy : ev ρ y = F3 b)
  (h : WpR P n all Q rest (upd ρ d (.bool (tst (a = b)))) w) : WpR P n all Q (⟨some d,.binOp .eql t x y t2,ty,pos,aft,none⟩ :: rest) ρ w:=by
 refine F1 rfl rfl ?_ h
 have e : ((⟨a.toArray⟩ : ByteArray).toList == (⟨b.toArray⟩ : ByteArray).toList) = tst (a = b):=by
  rw [ByteArray.toList_eq,ByteArray.toList_eq,← U1]
  show (a.toArray.toList == b.toArray.toList) = _
  by_cases h : a = b <;> simp [h]
 simp only [execOp,hx,hy,eqGuard,binOp,Op.stringOp,e]
 rfl
theorem a32 {d : Nat} (hx : Ext w w') : obQ w (some d) (Ent.eq v) .normal (upd F d v) w':=⟨rfl,hx,d,rfl,A8 _ _ _,fun h=>by cases h⟩
theorem d68 {d : Nat} {Y : Value} (h : v = Y) (hx : Ext w w') : obQ w (some d) (Ent.eq Y) .normal (upd F d v) w':=h ▸ a32 hx
theorem ap0 (h : QV S w v q) :
  Gives prog 75 [v] w fun v' w'=>v' = .int .i64 q.num.sign ∧ Ext w w':=by
 obtain ⟨m,b,rfl,hm,hb⟩:=h
 refine l6 func75 rfl rfl rfl ?_
 repeat refine wW ?_
 refine s6 (cs:=[.bool (tst (q.num < 0)),m,.bool (tst ((q.den : Int) < 0)),b]) rfl ?_
 intro w1 g k1 hg hgs
 repeat (first | refine p6 rfl hg rfl rfl ?_ | refine wW ?_ | refine j4 rfl ?_)
 refine d9 (cs6 (z:=q.num) ⟨m,rfl,hm.to k1⟩) rfl ?_
 rintro v2 w2 ⟨rfl,k2⟩
 repeat refine wW ?_
 exact o5 rfl ⟨rfl,k1.trans k2⟩
theorem cr4 (hS : Up S w) (ha0 : -9223372036854775808 ≤ a) (ha1 : a ≤ 9223372036854775807) (hb0 : -9223372036854775808 ≤ b) (hb1 : b ≤ 9223372036854775807) (hb : b ≠ 0) (hla : zl a ≤ 3) (hlb : zl b ≤ 3) :
  Gives prog 45 [.int .i64 a,.int .i64 b] w fun v' w'=>Ext w w' ∧ QV S w' v' (mkRat (a * b.sign) b.natAbs):=by
 refine l6 func45 rfl rfl rfl ?_
 repeat refine wW ?_
 refine q9 (cs:=[.bool false,.slice none 0 0,.bool false,.slice none 0 0]) rfl ?_
 intro w1 g k1 hg hgs
 replace hS:=hS.to k1
 repeat refine wW ?_
 refine d9 (c36 (z:=a) hS ha0 ha1) rfl ?_
 rintro v2 w2 ⟨k2,h2⟩
 repeat (first | refine q8 ?_)
 refine d9 (c36 (z:=b) (hS.to k2) hb0 hb1) rfl ?_
 rintro v3 w3 ⟨k3,h3⟩
 skip
 refine d9 (as2 (a:=a) (b:=b) ((hS.to k2).to k3) (h2.to k3) h3 (by omega) (by omega) hb) rfl ?_
 rintro v4 w4 ⟨k4,m4,b4,rfl,h4,h5⟩
 skip
 refine an3 rfl (by conv=>(lhs; whnf)) (((hg.to k2).to k3).to k4) rfl rfl h4.one rfl h5.one ?_
 intro w5 k5 hg5
 repeat refine wW ?_
 exact R9 rfl (n8 hg5 rfl) ⟨(((k1.trans k2).trans k3).trans k4).past k5 (by omega),m4,b4,rfl,h4.wrT k5 (((hg.to k2).to k3).to k4) (by decide),h5.wrT k5 (((hg.to k2).to k3).to k4) (by decide)⟩
def GivesD (P : Program) (f : FuncId) (args : List Value) (u : FrameMode) (w : World) (Φ : FrameMode → World → Prop) : Prop:=
 CallsD P f args.toArray u w fun e u' w'=>(∃ v,e = .returned v) ∧ Φ u' w'
def ff4 (P : Program) (fn : Func) (Ψ : Value → World → Prop) (g : FuncId) (caps : List Value) : G8:=fun e ρ w=>match e with
 | .normal | .ret=>GivesD P g caps .returning w fun u' w'=>u' = .returning ∧ ∃ vs,S8 P ρ w' fn.results.toList vs ∧ Ψ (be5 vs) w'
 | .panic ch=>GivesD P g caps (.panicking ch) w fun u' w'=>settle u' = .returning ∧ ∃ vs,S8 P ρ w' fn.results.toList vs ∧ Ψ (be5 vs) w'
 | _=>False
def WpD (P : Program) (n : Nat) (c : Code) (Q : Exit → Act → World → Prop) (D : List Deferred) (ρ : Fr) (w : World) : Prop:=
 O5 n c = true → ∀ a,Mt n D a ρ → c.wp P Q a w
def d94 : G8:=fun _ _ _=>False
section
variable {P : Program} {n : Nat} {Q : Exit → Act → World → Prop} {D : List Deferred} {ρ : Fr} {w : World}
theorem bf0 {a b : Code} (h : Wp P n a (L6 (fun ρ w=>WpD P n b Q D ρ w) d94) ρ w) : WpD P n (.seq a b) Q D ρ w:=by
 intro hc act hm
 simp only [O5,Bool.and_eq_true] at hc
 unfold Wp at h
 refine Go.wp_seq (Go.wp_mono (h hc.1 _ act hm) ?_)
 rintro e a' w' ⟨ρ',hm',hq⟩
 cases e with
 | normal=>exact hq hc.2 a' hm'
 | _=>exact hq.elim
theorem bf2 {c : Code} {Q' : G8} (h : Wp P n c Q' ρ w) (k : ∀ e a ρ w,Mt n D a ρ → Q' e ρ w → Q e a w) : WpD P n c Q D ρ w:=by
 intro hc act hm
 unfold Wp at h
 refine Go.wp_mono (h hc _ act hm) ?_
 rintro e a' w' ⟨ρ',hm',hq⟩
 exact k _ _ _ _ hm' hq
theorem ac6 {b : Code} {d : Tmp} {g : FuncId} {cap : List Operand} {ts : Array TypeId}
  (h : WpD P n b Q (⟨.fn (.func g) (cap.map (ev ρ)).toArray,#[]⟩ :: D) (upd ρ d (.func (.func g) #[] (cap.map (ev ρ)).toArray)) w) :
  WpD P n (.seq (.region j #[⟨some d,.makeFunc (.func g) #[] cap.toArray,ty,pos,aft,none⟩,⟨none,.defer ⟨.value (.tmp d),#[],ts⟩,ty2,pos2,aft2,none⟩] false) b) Q D ρ w:=by
 intro hc act hm
 simp only [O5,Bool.and_eq_true] at hc
 have hd : Nat.blt d n = true:=by
  have:=hc.1
  simp [aa5] at this
  simpa using this
 refine Go.wp_seq (wp_region_lit (l:=[_,_]) ?_)
 refine wpList_plain rfl fun K hK=>?_
 unfold Oper.wp
 rw [hm.eval]
 have hr1 : (execOp (ev ρ) ⟨some d,.makeFunc (.func g) #[] cap.toArray,ty,pos,aft,none⟩).run P w = .ok (.value (.func (.func g) #[] (cap.map (ev ρ)).toArray)) w:=by simp [execOp,Instr.makeFunc]
 rw [hr1]
 have hm2:=hm.put hd (.func (.func g) #[] (cap.map (ev ρ)).toArray)
 refine hK _ _ ?_
 refine wpList_plain rfl fun K2 hK2=>?_
 unfold Oper.wp
 rw [hm2.eval]
 have hr2 : (execOp (ev (upd ρ d (.func (.func g) #[] (cap.map (ev ρ)).toArray))) ⟨none,.defer ⟨.value (.tmp d),#[],ts⟩,ty2,pos2,aft2,none⟩).run P w = .ok (.defer ⟨.fn (.func g) (cap.map (ev ρ)).toArray,#[]⟩) w:=by
  simp [execOp,resolve,Deferred.ofValue,ev,A8]
 rw [hr2]
 refine hK2 _ _ (wpList_nil ?_)
 exact h hc.2 _ ⟨hm2.size,by show _ :: _ = _ :: _; rw [hm2.defers],hm2.get⟩
end
theorem Y6 {fn : Func} {c : Code}
  (hf : P.funcs[f]? = some fn) (hb : fn.body = some c) (hok : O5 fn.ntmps c = true) (hn0 : Nat.ble args.length fn.ntmps = true)
  (h : WpD P fn.ntmps c (bodyPostD P fn fun e w'=>∃ v,e = .returned v ∧ Ψ v w') [] (fun i=>args.getD i undef) w) : Gives P f args w Ψ:=
 calls_of_wp_defers hf hb (h hok _ (a68 fn hn0))
theorem a34 {fn : Func} {g : FuncId} {caps : List Value} [ci : CallI P g] {e : Exit} {a : Act}
  (hm : Mt fn.ntmps [⟨.fn (.func g) caps.toArray,#[]⟩] a ρ) (h : ff4 P fn Ψ g caps e ρ w) : bodyPostD P fn (fun e w'=>∃ v,e = .returned v ∧ Ψ v w') e a w:=by
 have hi : (invoke (.fn (.func g) caps.toArray) #[]).run P w = .ok (.enter g caps.toArray) w:=by simp [invoke,ci.run]
 have hret : ∀ w',(∃ vs,S8 P ρ w' fn.results.toList vs ∧ Ψ (be5 vs) w') → Leaves P fn a.tmps (fun e w'=>∃ v,e = .returned v ∧ Ψ v w') [] .returning w':=by
  rintro w' ⟨vs,hr,hv⟩
  exact ⟨_,H7 hm hr,_,rfl,hv⟩
 have hn : (h : GivesD P g caps .returning w fun u' w'=>u' = .returning ∧ ∃ vs,S8 P ρ w' fn.results.toList vs ∧ Ψ (be5 vs) w') → Leaves P fn a.tmps (fun e w'=>∃ v,e = .returned v ∧ Ψ v w') a.defers .returning w:=by
  intro h
  rw [hm.defers]
  refine leaves_cons (by simp) hi (CallsD.mono h ?_)
  rintro e u' w' ⟨⟨v,rfl⟩,rfl,hv⟩
  exact hret w' hv
 cases e with
 | normal=>exact hn h
 | ret=>exact hn h
 | panic ch=>
  show Leaves P fn a.tmps _ a.defers (.panicking ch) w
  rw [hm.defers]
  refine leaves_cons (by simp) hi (CallsD.mono h ?_)
  rintro e u' w' ⟨⟨v,rfl⟩,hs,hv⟩
  show Leaves P fn a.tmps _ [] (settle u') w'
  rw [hs]
  exact hret w' hv
 | _=>exact h.elim
def fd4 (P : Program) (fn : Func) (K : World → Prop) : G8:=fun e ρ w=>match e with
 | .normal | .ret=>∃ vs,S8 P ρ w fn.results.toList vs ∧ K w
 | _=>False
theorem c15 {ops : Array Oper} {a : Act} {cs : List Frame} (h0 : ops[i]? = some o) (hg : o.guard = none)
  (hr : (execOp a.eval o).run P w = .ok .recover w')
  (h : match recoverD cs with | some (v,cs')=>wpOpsS P ops Q rest (a.put o.dst v) cs' w' | none=>wpOpsS P ops Q rest (a.put o.dst .nilIface) cs w') : wpOpsS P ops Q (i :: rest) a cs w:=by
 unfold wpOpsS
 simp only [h0,Region.wanted,hg,hr,if_true]
 exact h
theorem ca4 {ops : Array Oper} {a : Act} {cs : List Frame} (h0 : ops[i]? = some o) (hg : o.guard = none)
  (hr : (execOp a.eval o).run P w = .ok (.value v) w') (h : wpOpsS P ops Q rest (a.put o.dst v) cs w') : wpOpsS P ops Q (i :: rest) a cs w:=by
 unfold wpOpsS
 simp only [h0,Region.wanted,hg,hr,if_true,Oper.upon]
 exact h
theorem J0 {fn : Func} {d1 d2 : Tmp} {c1 : Code} {u u2 : FrameMode} {Φ : FrameMode → World → Prop}
  (hf : P.funcs[f]? = some fn)
  (hb : fn.body = some (.seq (.region j #[⟨some d1,.call ⟨.builtin .recover,#[],#[]⟩,ty,pos,aft,none⟩,⟨some d2,.assign (.tmp d1),ty2,pos2,aft2,none⟩] false) c1))
  (hn0 : Nat.ble args.length fn.ntmps = true) (hd1 : Nat.blt d1 fn.ntmps = true) (hd2 : Nat.blt d2 fn.ntmps = true) (hok : O5 fn.ntmps c1 = true)
  (hu : (u = .returning ∧ u2 = .returning ∧ v = .nilIface) ∨ ∃ x,u = .panicking [{ v:=x,recovered:=false }] ∧ u2 = .panicking [{ v:=x,recovered:=true }] ∧ v = x)
  (h : Wp P fn.ntmps c1 (fd4 P fn (Φ u2)) (upd (upd (fun i=>args.getD i undef) d1 v) d2 v) w) : GivesD P f args u w Φ:=by
 refine callsD_of_wpS hf hb fun c₀ cs hm=>?_
 have m0:=a68 fn hn0
 have m1:=m0.put hd1 v
 have m2:=m1.put hd2 v
 refine wpS_seq (wpS_region ?_)
 have hrange : List.range (#[(⟨some d1,.call ⟨.builtin .recover,#[],#[]⟩,ty,pos,aft,none⟩ : Oper),⟨some d2,.assign (.tmp d1),ty2,pos2,aft2,none⟩]).size = [0,1]:=rfl
 rw [hrange]
 have hrest : ∀ cs',cs' = { c₀ with mode:=u2 } :: cs → Code.wpS P c1 (bodyPostS P fn c₀ cs fun e u' w'=>(∃ v,e = .returned v) ∧ Φ u' w')
   (({ tmps:=args.toArray ++ Array.replicate (fn.ntmps - args.toArray.size) undef,defers:=[] } : Act).put (some d1) v |>.put (some d2) v) cs' w:=by
  rintro cs' rfl
  refine wpS_of_wp ?_
  unfold Wp at h
  refine Go.wp_mono (h hok _ _ m2) ?_
  rintro e a w' ⟨ρ,hm',hq⟩
  cases e with
  | normal=>obtain ⟨vs,hr,hv⟩:=hq; exact ⟨hm'.defers,u2,rfl,_,H7 hm' hr,⟨_,rfl⟩,hv⟩
  | ret=>obtain ⟨vs,hr,hv⟩:=hq; exact ⟨hm'.defers,u2,rfl,_,H7 hm' hr,⟨_,rfl⟩,hv⟩
  | _=>exact hq.elim
 have hr0 : ∀ ρ : Operand → Value,(execOp ρ ⟨some d1,.call ⟨.builtin .recover,#[],#[]⟩,ty,pos,aft,none⟩).run P w = .ok .recover w:=fun ρ=>by
  simp [execOp,resolve,invoke,builtin]
 have hr1 : (execOp (({ tmps:=args.toArray ++ Array.replicate (fn.ntmps - args.toArray.size) undef,defers:=[] } : Act).put (some d1) v).eval ⟨some d2,.assign (.tmp d1),ty2,pos2,aft2,none⟩).run P w = .ok (.value v) w:=by
  rw [m1.eval]
  simp [execOp,ev,A8]
 have hrec : (match recoverD (c₀ :: cs) with | some (v',cs')=>v' = v ∧ cs' = { c₀ with mode:=u2 } :: cs | none=>v = .nilIface ∧ c₀ :: cs = { c₀ with mode:=u2 } :: cs):=by
  rcases hu with ⟨rfl,rfl,rfl⟩ | ⟨x,rfl,rfl,rfl⟩
  ·simp only [recoverD,hm]
   refine ⟨trivial,?_⟩
   congr 1
   rw [← hm]
  simp only [recoverD,hm]
  first | exact ⟨trivial,trivial⟩ | exact ⟨trivial,rfl⟩
 refine c15 (o:=⟨some d1,.call ⟨.builtin .recover,#[],#[]⟩,ty,pos,aft,none⟩) rfl rfl (hr0 _) ?_
 cases hr : recoverD (c₀ :: cs) with
 | none=>
  rw [hr] at hrec
  obtain ⟨hv,hcs⟩:=hrec
  subst hv
  exact ca4 (o:=⟨some d2,.assign (.tmp d1),ty2,pos2,aft2,none⟩) rfl rfl hr1 (hrest _ hcs)
 | some p=>
  obtain ⟨v',cs'⟩:=p
  rw [hr] at hrec
  obtain ⟨hv,hcs⟩:=hrec
  subst hv
  exact ca4 (o:=⟨some d2,.assign (.tmp d1),ty2,pos2,aft2,none⟩) rfl rfl hr1 (hrest _ hcs)
end Go.Proofs.YtmkhgjccoolfjaaGreatDoor
end

/- Part 2. -/
import Derived.Test.YtmkhgjccoolfjaaGreatDoorPoles1
import Derived.Lib.SliceRun
import Derived.Lib.Builder
import Derived.Lib.AppendStr
import Derived.Laws.Externs
import Derived.KernelRfl
import Derived.Lib.ItoaNum
import Derived.Shelf.Strings.Builder1
import Derived.Shelf.Strings.Builder2
import Derived.Shelf.Strings.Trim
import Derived.Shelf.Small.Utf8
import Derived.Shelf.Small.Strs
import Derived.Shelf.Small.Wraps
import Derived.Shelf.Strings.BuilderF
import Derived.Shelf.Strings.BuilderK
import Derived.Shelf.Strings.Builder2Cap
import Derived.Shelf.Strconv.Atoi
import Derived.Shelf.Strconv.Itoa0
import Derived.Shelf.Strconv.Itoa1
import Derived.Shelf.LaysM
import Derived.Shelf.Strconv.Itoa2
import Derived.Shelf.Strconv.Itoa3
import Derived.Shelf.Strconv.AtoiErrFast
import Derived.Shelf.Strconv.ParseIntEmpty
import Derived.Shelf.Strconv.AtoiFail
import Derived.Shelf.Strconv.Clone
import Derived.Shelf.Strconv.SyntaxError
import Derived.Shelf.LaysC
import Derived.Shelf.Strconv.ToError
import Derived.Shelf.Strconv.AtoiErr
import Derived.Shelf.Strconv.ErrVar
import Derived.Shelf.Strconv.Lower
import Derived.Shelf.Strconv.ParseUint10
import Derived.Shelf.Strconv.ParseUint10Empty
import Derived.Shelf.Strconv.ParseUint10Any
import Derived.Shelf.Strconv.ParseInt10
import Derived.Shelf.Strconv.AtoiLong
import Derived.Shelf.Strconv.AtoiInnerAll
import Derived.Shelf.Strconv.RangeError
import Derived.Shelf.Strconv.ToErrorRange
import Derived.Shelf.Strconv.AtoiAll
import Derived.Shelf.Strconv.ErrVarAll
import Derived.Shelf.Strconv.ParseUintEmpty
import Derived.Shelf.Strconv.ParseUint10b64
import Derived.Shelf.Strconv.ParseUint10b32
import Derived.Shelf.Strconv.ParseUint10b16
import Derived.Shelf.Strconv.ParseUint10b8
import Derived.Shelf.Strconv.ParseUint10At
import Derived.Shelf.Strconv.ParseInt10At64
import Derived.Shelf.Strconv.ParseInt10At32
import Derived.Shelf.Strconv.ParseInt10At16
import Derived.Shelf.Strconv.ParseInt10At8
import Derived.Shelf.Strconv.ParseInt10All
import Derived.Shelf.Strings.Search1
import Derived.Shelf.Strings.Search2
import Derived.Shelf.Strings.Cut
import Derived.Shelf.Strings.Shaped
import Derived.Shelf.Strings.Prefix
import Derived.Shelf.Unicode.Decode
import Derived.Shelf.Strings.Runes
import Derived.Shelf.Strings.AsciiSet
import Derived.Shelf.Bits.Mul64
import Derived.Shelf.Strings.Repeat
import Derived.Shelf.Unicode.DecodeSlow
import Derived.Shelf.Unicode.DecodeAny
import Derived.Shelf.Unicode.DecodeLast
import Derived.Shelf.Strings.BuilderCap
import Derived.Test.YtmkhgjccoolfjaaGreatDoorProg
set_option linter.unusedSimpArgs false
set_option linter.unusedVariables false
set_option maxRecDepth 100000
set_option maxHeartbeats 8000000
section
namespace Go.Proofs.YtmkhgjccoolfjaaGreatDoor
open Go Go.RowKit Tryz
theorem ct6 {P : Program} {o : Oper} {a : Act} {w : World} {K K' : Act → World → Prop} {Q Q' : Exit → Act → World → Prop} (h : ∀ a w,K a w → K' a w) (hq : ∀ e a w,Q e a w → Q' e a w)
  (hh : o.wp P a w K Q) : o.wp P a w K' Q':=by
 have hl : LetsOut Q → LetsOut Q':=fun ⟨a,w,x⟩=>⟨a,w,hq _ _ _ x⟩
 unfold Oper.wp at *
 generalize (execOp a.eval o).run P w = r at *
 unfold Oper.upon at *
 split at hh
 ·exact h _ _ hh
 ·exact h _ _ hh
 ·exact h _ _ hh
 ·refine Calls.mono hh ?_
  intro e w' he
  cases e with
  | returned v=>exact h _ _ he
  | panicked c=>exact hq _ _ _ he
  | outgrown=>exact hl he
 ·exact Rows.mono hh fun v w' he=>h _ _ he
 ·exact hq _ _ _ hh
 exact hh.elim
theorem b59 {P : Program} {ops : Array Oper} {Q Q' : Exit → Act → World → Prop} (hq : ∀ e a w,Q e a w → Q' e a w) : ∀ (l : List Oper) (a : Act) (w : World),wpList P ops Q l a w → wpList P ops Q' l a w:=by
 intro l
 induction l with
 | nil=>intro a w h; exact hq _ _ _ h
 | cons o l ih=>
  intro a w h
  simp only [wpList] at h ⊢
  split at h
  ·rename_i hw
   rw [if_pos hw]
   rcases h with h | ⟨h,a',w',h2⟩
   ·exact .inl (ct6 ih hq h)
   exact .inr ⟨h,a',w',hq _ _ _ h2⟩
  rename_i hw
  rw [if_neg hw]
  exact ih _ _ h
theorem cl4 {P : Program} {n : Nat} {Q : G3} {ρ : Fr} {w : World} {all rest : List Oper} {K : Fr → World → Prop} (W : List (Nat × Nat)) (R : Fr → World → Prop) (h1 : WpR P n all (L9 (fun ρ' w'=>aa3 W ρ ρ' ∧ R ρ' w') Q) rest ρ w)
  (h2 : ∀ u w',R (over W u ρ) w' → K (over W u ρ) w') : WpR P n all (L9 K Q) rest ρ w:=by
 unfold WpR at *
 intro hok D a hm
 refine b59 ?_ _ _ _ (h1 hok D a hm)
 rintro e a w ⟨ρ',hm',hq⟩
 refine ⟨ρ',hm',?_⟩
 cases e with
 | normal=>
  obtain ⟨hag,hR⟩:=hq
  have ho:=ak4 hag
  show K ρ' w
  rw [ho] at hR ⊢
  exact h2 ρ' w hR
 | _=>exact hq
section rules
variable {P : Program} {n : Nat} {Q : G3} {ρ : Fr} {w : World} {all rest : List Oper} {d : Tmp} {ty : TypeId} {pos : String} {aft : Array Edge}
theorem az8 {T : TypeId} {s b : Nat} {z : Value} {agg : Bool} [ti : TyI P T s b z agg] {pl : List (Nat × Nat)} [st : StcT P T pl] {cs : List Value} (hz : z.cells = cs.toArray)
  (h : WpR P n all Q rest (upd ρ d (.agg cs.toArray)) w) : WpR P n all Q (⟨some d,.build T #[],ty,pos,aft,none⟩ :: rest) ρ w:=
 a15 (parts:=[]) hz rfl aq2 h
theorem dl7 {T : TypeId} {pl : List (Nat × Nat)} [st : StcT P T pl] {x : Operand} {v : Value} (hx : ev ρ x = v) (h : WpR P n all Q rest (upd ρ d (.iface T v)) w) :
  WpR P n all Q (⟨some d,.makeInterface T x,ty,pos,aft,none⟩ :: rest) ρ w:=by
 obtain ⟨fs,h1,_⟩:=st.ex
 refine F6 rfl rfl ?_ h
 subst hx
 simp [execOp,Instr.makeInterface,run_underlying h1]
theorem aq0 {T xt : TypeId} {pl : List (Nat × Nat)} [st : StcT P T pl] {x : Operand} {v : Value} (hx : ev ρ x = .iface T v) (h : WpR P n all Q rest (upd ρ d (.tuple #[v,.bool true])) w) :
  WpR P n all Q (⟨some d,.typeAssert x xt T true,ty,pos,aft,none⟩ :: rest) ρ w:=by
 obtain ⟨fs,h1,_⟩:=st.ex
 refine F6 rfl rfl ?_ h
 simp [execOp,Instr.typeAssert,hx,run_underlying h1]
theorem ab9 {t t2 : TypeId} [it : IfcT P t] {x : Operand} {T : TypeId} {v : Value} (hx : ev ρ x = .iface T v) (h : WpR P n all Q rest (upd ρ d (.bool true)) w) :
  WpR P n all Q (⟨some d,.binOp .neq t x (.const .nilIface) t2,ty,pos,aft,none⟩ :: rest) ρ w:=by
 obtain ⟨ms,h1⟩:=it.und
 refine F6 rfl rfl ?_ h
 have h2 : (Op.equal t (.iface T v) .nilIface).run P w = .ok false w:=by
  unfold Op.equal Op.maxDepth Op.equalIn
  simp [run_underlying h1]
 have hn : ev ρ (.const .nilIface) = .nilIface:=rfl
 simp [execOp,hx,hn,eqGuard,binOp,h2]
theorem R0 {t t2 : TypeId} [it : IfcT P t] {x : Operand} (hx : ev ρ x = .nilIface) (h : WpR P n all Q rest (upd ρ d (.bool false)) w) :
  WpR P n all Q (⟨some d,.binOp .neq t x (.const .nilIface) t2,ty,pos,aft,none⟩ :: rest) ρ w:=by
 obtain ⟨ms,h1⟩:=it.und
 refine F6 rfl rfl ?_ h
 have h2 : (Op.equal t .nilIface .nilIface).run P w = .ok true w:=by
  unfold Op.equal Op.maxDepth Op.equalIn
  simp [run_underlying h1]
 have hn : ev ρ (.const .nilIface) = .nilIface:=rfl
 simp [execOp,hx,hn,eqGuard,binOp,h2]
abbrev G5 (l : List UInt8) : Value:=.string ⟨l.toArray⟩
theorem bq5 {t t2 : TypeId} {x y : Operand} {a b : List UInt8} (hx : ev ρ x = G5 a) (hy : ev ρ y = G5 b) (hl : a.length + b.length ≤ 9223372036854775807)
  (h : WpR P n all Q rest (upd ρ d (G5 (a ++ b))) w) : WpR P n all Q (⟨some d,.binOp .add t x y t2,ty,pos,aft,none⟩ :: rest) ρ w:=by
 refine F6 rfl rfl ?_ h
 have h1 : ¬ (((⟨a.toArray⟩ : ByteArray).size + (⟨b.toArray⟩ : ByteArray).size : Nat) : Int) > IntKind.i64.max:=by
  show ¬ ((a.toArray.size + b.toArray.size : Nat) : Int) > IntKind.i64.max
  simp [IntKind.max,IntKind.signed,IntKind.bits]
  omega
 have h2 : (⟨a.toArray⟩ : ByteArray) ++ ⟨b.toArray⟩ = ⟨(a ++ b).toArray⟩:=by
  apply ByteArray.ext
  simp
 simp only [execOp,hx,hy,eqGuard,binOp,Op.stringOp]
 simp only [if_neg h1,h2]
 simp
end rules
theorem cn4 {S : Nat → Prop} {w : World} {m : Nat} (hS : Up S w) (hm : m ≤ 18446744073709551615) :
  Gives prog 160 [.int .u64 m] w fun v' w'=>Ext w w' ∧ y6 S 227 .u32 w' v' m:=by
 have hl3 : dl m ≤ 3:=M7 (by omega)
 refine l7 func160 rfl rfl rfl ?_
 repeat refine wW ?_
 try refine o9 ?_
 refine H3 ((0,0) :: [(0,0),(3,13)]) (fun k ρ w'=>∃ l v,ρ 0 = .int .u64 k ∧ k ≤ m ∧ ρ 3 = v ∧ l ++ dg k = dg m ∧ Ext w w' ∧ Own w.heap.size 227 1 w' v l.length (l.map fun d : Nat=>.int .u32 d)) m
  ⟨[],_,rfl,Nat.le_refl _,rfl,rfl,.refl,ai2⟩ ?_
 rintro k u w1 ⟨l,v,h0,hk,h3,hd,k1,ho⟩
 refine j9 0 h0 (j9 3 h3 ?_)
 clear h0 h3
 repeat (first | refine wW ?_ | refine d7 ?_ | refine Z3 rfl rfl ?_)
 try refine i7 ?_
 refine j4 rfl ?_ ?_ <;> intro hc
 ·have hkl:=congrArg List.length hd
  rw [List.length_append] at hkl
  have hdk:=aj7 (show k ≠ 0 by omega)
  have hdl : (dg m).length = dl m:=rfl
  repeat (first | refine Y9 ?_ | refine wW ?_ | refine K7 ?_ | refine wp_skip ?_ | refine Q5 rfl (ah5 (by omega) (by omega)) ?_ | refine as2 rfl rfl (by omega) (by omega) ?_)
  refine ab1 (by conv=>(lhs; whnf)) rfl ?_
  intro w2 g k2 hb hg
  refine S7 (by conv=>(lhs; whnf)) (ab2 ho k2) rfl hb (by omega) rfl (by simp [Value.oneCell']) (by unfold maxLen; omega) (by omega) (Nat.le_trans k1.size k2.size) ?_
  intro v3 w3 ho3 k3
  repeat (first | refine wW ?_ | refine cj6 rfl rfl (by omega) (by omega) (by omega) ?_)
  refine ⟨by (repeat (first | refine j2 rfl ?_ | exact i6 | refine j3 rfl ?_ | exact f5)),k / 1000000000,by omega,l ++ [k % 1000000000],v3,congrArg (Value.int .u64) (by omega),by omega,rfl,?_,?_,?_⟩
  ·rw [← hd,hdk,List.append_assoc]; rfl
  ·exact Keeps.later (k1.trans k2) k3 fun i hi _ e=>by have:=(ho.lt i e.symm).1; omega
  simpa using ho3
 repeat (first | refine wW ?_ | refine wp_exit ?_)
 refine q5 rfl ⟨k1,?_⟩
 obtain rfl : k = 0:=by omega
 rw [ai0,List.append_nil] at hd
 subst hd
 exact Row.of_own ho hS
abbrev zl (z : Int) : Nat:=dl z.natAbs
theorem c64 (a b : Int) : zl (a + b) ≤ max (zl a) (zl b) + 1:=by
 refine Nat.le_trans (J4 (b:=a.natAbs + b.natAbs) (by omega)) (du6 _ _)
theorem d40 (a : Int) : zl (-a) = zl a:=by unfold zl; rw [Int.natAbs_neg]
theorem ay9 (a b : Int) : zl (a * b) ≤ zl a + zl b:=by unfold zl; rw [Int.natAbs_mul]; exact aj4 _ _
theorem dg3 {S : Nat → Prop} {w : World} {va vb : Value} {a b : Int} (hS : Up S w) (ha : IntV S 227 .u32 w va a) (hb : IntV S 227 .u32 w vb b) (hla : zl a ≤ 1099511627000) (hlb : zl b ≤ 1099511627000) :
  Gives prog 185 [va,vb] w fun v' w'=>Ext w w' ∧ IntV S 227 .u32 w' v' (a - b):=by
 rw [show a - b = a + -b from Int.sub_eq_add_neg ..]
 obtain ⟨ma,rfl,ha⟩:=ha
 obtain ⟨mb,rfl,hb⟩:=hb
 refine l7 func185 rfl rfl rfl ?_
 repeat refine wW ?_
 refine z8 (cs:=[.bool (tst (a < 0)),ma]) rfl ?_
 intro w1 ga k1 hga hgsa
 skip
 refine z8 (cs:=[.bool (tst (b < 0)),mb]) rfl ?_
 intro w2 gb k2 hgb hgsb
 skip
 refine r5 (cs:=[.bool false,.slice none 0 0]) rfl ?_
 intro w3 g k3 hg hgs
 replace hga:=hga.to (k2.trans k3)
 replace hgb:=hgb.to k3
 have k:=(k1.trans k2).trans k3
 have hs:=(k1.trans k2).size
 have hs3:=hgb.lt
 replace ha:=ha.to k
 replace hb:=hb.to k
 replace hS:=hS.to k
 clear k1 k2 k3
 repeat refine wW ?_
 refine A6 4 ?_
 apply b7
 ·intro x w1 k1 hd
  refine o5 rfl (hga.to k1) rfl ?_
  refine d6 ?_
  exact j7
 apply b7
 ·intro x w1 k1 hd
  refine o5 rfl (hgb.to k1) rfl ?_
  refine d6 ?_
  exact j7
 refine b7 (e:=am8 S 227 .u32 (-b)) ?_ ?_
 ·intro x w1 k1 hd
  refine j1 (c22 ⟨mb,rfl,hb.to k1⟩) rfl ?_
  rintro v2 w2 ⟨k2,h2⟩
  exact d6 (D7 k2 h2)
 refine b7 (e:=am8 S 227 .u32 (a + -b)) ?_ ?_
 ·intro x w1 k1 hd
  refine j1 (ck9 (hS.to k1) ⟨ma,rfl,ha.to k1⟩ hd.1 hla (by rw [Int.natAbs_neg]; exact hlb)) rfl ?_
  rintro v2 w2 ⟨k2,h2⟩
  exact d6 (D7 k2 h2)
 refine J1 (J5 ?_)
 intro x w5 k5 hall
 obtain ⟨m5,hv5,h5⟩:=hall.1
 refine D1 rfl hv5 (hg.to k5) rfl h5.one ?_
 intro w6 k6 hg6
 repeat refine wW ?_
 refine Y0 rfl (o7 hg6 rfl) ⟨Keeps.past (k.trans k5) k6 (by omega),m5,rfl,h5.wrT k6 (hg.to k5) (by decide)⟩
theorem b54 (a b : Int) : a * b < 0 ↔ (¬ (a < 0 ↔ b < 0)) ∧ 0 < a.natAbs * b.natAbs:=by
 rcases Int.lt_trichotomy a 0 with h1 | h1 | h1 <;> rcases Int.lt_trichotomy b 0 with h2 | h2 | h2
 ·have:=Int.mul_pos_of_neg_of_neg h1 h2
  constructor
  ·intro h; omega
  rintro ⟨h,_⟩; exact absurd ⟨fun _=>h2,fun _=>h1⟩ h
 ·subst h2; simp
 ·have:=Int.mul_neg_of_neg_of_pos h1 h2
  have h3 : 0 < a.natAbs * b.natAbs:=Nat.mul_pos (by omega) (by omega)
  exact ⟨fun _=>⟨fun h=>by have:=h.1 h1; omega,h3⟩,fun _=>this⟩
 ·subst h1; simp
 ·subst h1; simp
 ·subst h1; simp
 ·have:=Int.mul_neg_of_pos_of_neg h1 h2
  have h3 : 0 < a.natAbs * b.natAbs:=Nat.mul_pos (by omega) (by omega)
  exact ⟨fun _=>⟨fun h=>by have:=h.2 h2; omega,h3⟩,fun _=>this⟩
 ·subst h2; simp
 have:=Int.mul_pos h1 h2
 constructor
 ·intro h; omega
 rintro ⟨h,_⟩; exact absurd ⟨fun x=>by omega,fun x=>by omega⟩ h
theorem as8 {S : Nat → Prop} {w : World} {va vb : Value} {a b : Int} (hS : Up S w) (ha : IntV S 227 .u32 w va a) (hb : IntV S 227 .u32 w vb b) (hla : zl a ≤ 1099511627000) (hlb : zl b ≤ 1099511627000) :
  Gives prog 144 [va,vb] w fun v' w'=>Ext w w' ∧ IntV S 227 .u32 w' v' (a * b):=by
 obtain ⟨ma,rfl,ha⟩:=ha
 obtain ⟨mb,rfl,hb⟩:=hb
 refine l7 func144 rfl rfl rfl ?_
 repeat refine wW ?_
 refine z8 (cs:=[.bool (tst (a < 0)),ma]) rfl ?_
 intro w1 ga k1 hga hgsa
 skip
 refine z8 (cs:=[.bool (tst (b < 0)),mb]) rfl ?_
 intro w2 gb k2 hgb hgsb
 skip
 refine r5 (cs:=[.bool false,.slice none 0 0]) rfl ?_
 intro w3 g k3 hg hgs
 replace hga:=hga.to (k2.trans k3)
 replace hgb:=hgb.to k3
 have k:=(k1.trans k2).trans k3
 have hs:=(k1.trans k2).size
 replace ha:=ha.to k
 replace hb:=hb.to k
 replace hS:=hS.to k
 clear k1 k2 k3
 repeat refine wW ?_
 refine A6 11 ?_
 apply b7
 ·intro x w1 k1 hd
  refine l6 rfl ?_
  refine d6 ?_
  exact j7
 apply b7
 ·intro x w1 k1 hd
  refine i1 rfl (hga.to k1) rfl ?_
  refine d6 ?_
  exact j7
 apply b7
 ·intro x w1 k1 hd
  refine l6 rfl ?_
  refine d6 ?_
  exact j7
 apply b7
 ·intro x w1 k1 hd
  refine i1 rfl (hgb.to k1) rfl ?_
  refine d6 ?_
  exact j7
 apply b7
 ·intro x w1 k1 hd
  refine ce0 rfl rfl ?_
  refine d6 ?_
  exact j7
 apply b7
 ·intro x w1 k1 hd
  refine l6 rfl ?_
  refine d6 ?_
  exact j7
 apply b7
 ·intro x w1 k1 hd
  refine i1 rfl (hga.to k1) rfl ?_
  refine d6 ?_
  exact j7
 apply b7
 ·intro x w1 k1 hd
  refine l6 rfl ?_
  refine d6 ?_
  exact j7
 apply b7
 ·intro x w1 k1 hd
  refine i1 rfl (hgb.to k1) rfl ?_
  refine d6 ?_
  exact j7
 refine b7 (e:=ar8 S 227 .u32 (a.natAbs * b.natAbs)) ?_ ?_
 ·intro x w1 k1 hd
  refine j1 (ao9 (hS.to k1) (ha.to k1) (hb.to k1) (by unfold zl at hla; omega) (by unfold zl at hlb; omega)) rfl ?_
  rintro v2 w2 ⟨k2,h2⟩
  exact d6 (D7 k2 h2)
 refine b7 (e:=am8 S 227 .u32 (a * b)) ?_ ?_
 ·intro x w1 k1 hd
  refine j1 (Z7 (a * b) hd.1 (Int.natAbs_mul ..) (b54 a b)) rfl ?_
  rintro v2 w2 ⟨k2,h2⟩
  exact d6 (D7 k2 h2)
 refine J1 (J5 ?_)
 intro x w5 k5 hall
 obtain ⟨m5,hv5,h5⟩:=hall.1
 refine D1 rfl hv5 (hg.to k5) rfl h5.one ?_
 intro w6 k6 hg6
 repeat refine wW ?_
 refine Y0 rfl (o7 hg6 rfl) ⟨Keeps.past (k.trans k5) k6 (by omega),m5,rfl,h5.wrT k6 (hg.to k5) (by decide)⟩
theorem d41 {S : Nat → Prop} {w : World} {va vb : Value} {a b : Int} (hS : Up S w) (ha : IntV S 227 .u32 w va a) (hb : IntV S 227 .u32 w vb b) (hla : zl a ≤ 1099511627000) (hlb : zl b ≤ 1099511627000) :
  Gives prog 146 [va,vb] w fun v' w'=>v' = .int .i64 (a - b).sign ∧ Ext w w':=by
 obtain ⟨ma,rfl,ha⟩:=ha
 obtain ⟨mb,rfl,hb⟩:=hb
 refine l7 func146 rfl rfl rfl ?_
 repeat refine wW ?_
 refine z8 (cs:=[.bool (tst (a < 0)),ma]) rfl ?_
 intro w1 ga k1 hga hgsa
 skip
 refine z8 (cs:=[.bool (tst (b < 0)),mb]) rfl ?_
 intro w2 gb k2 hgb hgsb
 replace hga:=hga.to k2
 have k:=k1.trans k2
 repeat (first | refine o5 rfl hga rfl ?_ | refine o5 rfl hgb rfl ?_ | refine wW ?_)
 refine j1 (dg3 (hS.to k) ⟨ma,rfl,ha.to k⟩ ⟨mb,rfl,hb.to k⟩ hla hlb) rfl ?_
 rintro v3 w3 ⟨k3,h3⟩
 skip
 refine j1 (cf5 h3) rfl ?_
 rintro v4 w4 ⟨rfl,k4⟩
 repeat refine wW ?_
 exact q5 rfl ⟨rfl,(k.trans k3).trans k4⟩
theorem dn7 {S : Nat → Prop} {w : World} {z : Int} (hS : Up S w) (h0 : -9223372036854775808 ≤ z) (h1 : z ≤ 9223372036854775807) :
  Gives prog 119 [.int .i64 z] w fun v' w'=>Ext w w' ∧ IntV S 227 .u32 w' v' z:=by
 refine l7 func119 rfl rfl rfl ?_
 repeat refine wW ?_
 refine r5 (cs:=[.bool false,.slice none 0 0]) rfl ?_
 intro w1 g k1 hg hgs
 repeat (first | refine wW ?_ | refine d7 ?_ | refine O6 rfl rfl ?_)
 try refine i7 ?_
 refine j4 rfl ?_ ?_ <;> intro hc
 ·repeat refine wW ?_
  refine Q5 rfl (show IntKind.u64.wrap z = z + 18446744073709551616 by simp [IntKind.wrap,IntKind.signed,IntKind.bits]; omega) ?_
  refine dy7 rfl (show IntKind.u64.wrap (-(z + 18446744073709551616)) = ((z.natAbs : Nat) : Int) by simp [IntKind.wrap,IntKind.signed,IntKind.bits]; omega) ?_
  refine j1 (cn4 (m:=z.natAbs) (hS.to k1) (by omega)) rfl ?_
  rintro v2 w2 ⟨k2,h2⟩
  refine al5 (by conv=>(lhs; whnf)) (by conv=>(lhs; whnf)) rfl h2.one ?_
  refine D1 rfl (by conv=>(lhs; whnf)) (hg.to k2) rfl h2.one ?_
  intro w3 k3 hg3
  repeat (first | refine wW ?_ | refine r8 ?_)
  refine Y0 rfl (o7 hg3 rfl) ⟨Keeps.past (k1.trans k2) k3 hgs,v2,?_,h2.wrT k3 (hg.to k2) (by decide)⟩
  rw [l9 hc]
 obtain ⟨n,rfl⟩:=Int.eq_ofNat_of_zero_le (show 0 ≤ z by omega)
 repeat (first | refine wW ?_ | refine wp_skip ?_ | refine Q5 rfl (as9 (by omega) (by omega)) ?_)
 refine j1 (cn4 (m:=n) (hS.to k1) (by omega)) rfl ?_
 rintro v2 w2 ⟨k2,h2⟩
 refine al5 (by conv=>(lhs; whnf)) (by conv=>(lhs; whnf)) rfl h2.one ?_
 refine D1 rfl (by conv=>(lhs; whnf)) (hg.to k2) rfl h2.one ?_
 intro w3 k3 hg3
 repeat refine wW ?_
 refine Y0 rfl (o7 hg3 rfl) ⟨Keeps.past (k1.trans k2) k3 hgs,v2,?_,h2.wrT k3 (hg.to k2) (by decide)⟩
 rw [j8 hc]
structure EntR (R : World → World → Prop) where
 X : Option Value
 p : Value → World → Prop
 keep : ∀ v w w',p v w → R w w' → p v w'
 hX : ∀ v w Y,p v w → X = some Y → v = Y
 hY : ∀ Y w,X = some Y → p Y w
def EntR.eq {R : World → World → Prop} (Y : Value) : EntR R:=⟨some Y,fun v _=>v = Y,fun _ _ _ h _=>h,fun v w Z h hZ=>by simp at hZ; rw [← hZ]; exact h,fun Z w hZ=>by simp at hZ; exact hZ.symm⟩
def EntR.of {R : World → World → Prop} (p : Value → World → Prop) (h : ∀ v w w',p v w → R w w' → p v w') : EntR R:=⟨none,p,h,fun v w Y _ h=>by simp at h,fun Y w h=>by simp at h⟩
abbrev az2 (R : World → World → Prop):=List (Nat × Option Tmp × EntR R)
def bd8 {R : World → World → Prop} (ρ : Fr) (x : Nat → Value) : az2 R → Fr
 | []=>ρ
 | (i,d,e) :: r=>ap4 (bd8 ρ x r) d (e.X.getD (x i))
def ba0 {R : World → World → Prop} (x : Nat → Value) (w : World) (es : List Edge) : az2 R → Prop
 | []=>True
 | (i,_,e) :: r=>(bif F5 es i then e.p (e.X.getD (x i)) w else True) ∧ ba0 x w es r
def b49 {R : World → World → Prop} (x : Nat → Value) (w : World) : az2 R → Prop
 | []=>True
 | (i,_,e) :: r=>e.p (e.X.getD (x i)) w ∧ b49 x w r
def vv (ρ : Fr) : Option Tmp → Value | some t=>ρ t | none=>undef
def b28 {R : World → World → Prop} (w : World) (d : Option Tmp) (e : EntR R) : G3:=fun ex ρ' w'=>ex = .normal ∧ R w w' ∧ e.p (vv ρ' d) w'
def ct1 {R : World → World → Prop} (P : Program) (n : Nat) (all : List Oper) (ρ : Fr) (w : World) (K : az2 R → Prop) : az2 R → Nat → List Oper → Prop
 | acc,_,[]=>K acc
 | acc,i,o :: r=>∃ e : EntR R,(∀ x w',R w w' → ba0 x w' o.after.toList acc → WpR P n all (b28 w' o.dst e) [o] (bd8 ρ x acc) w') ∧ ct1 P n all ρ w K ((i,o.dst,e) :: acc) (i + 1) r
def a29 : List (Nat × Option Tmp) → Nat → List Oper → Bool
 | _,_,[]=>true
 | done,i,o :: r=>
  (match o.dst with | some d=>done.all (fun p=>p.2 != some d) | none=>true) &&
  (match o.op with | .select ..=>false | _=>true) &&
  o.after.toList.all (fun e=>!Region.binds .any e || Nat.blt e.on i) &&
  done.all (fun p=>F5 o.after.toList p.1 || match p.2 with | some d=>!(M6 o).contains d && (match o.guard with | some (g,_)=>g != p.1 | none=>true) | none=>true) &&
  (match o.guard with | some (g,_)=>Nat.blt g i | none=>true) &&
  (r.all fun o'=>match o.dst with | some d=>!(M6 o).contains d | none=>true) &&
  a29 ((i,o.dst) :: done) (i + 1) r
def cl2 (l : List Oper) (t : Nat) : Bool:=
 a29 [] 0 (l.take t) && bb0 (l.take t) && Nat.blt t l.length && Region.sinkB .any l.toArray t && Region.chainB .any l.toArray t && Region.seqB .any l.toArray (l.length - t) t (F0 t l.length)
section
variable {R : World → World → Prop} {P : Program} {n : Nat} {all : List Oper} {ρ : Fr} {w : World} {K : az2 R → Prop}
abbrev d74 (R : World → World → Prop):=Nat × Option Tmp × EntR R
def ObR (P : Program) (n : Nat) (all : List Oper) (ρ : Fr) (w : World) (o : Oper) (acc : az2 R) (e : EntR R) : Prop:=
 ∀ x w',R w w' → ba0 x w' o.after.toList acc → WpR P n all (b28 w' o.dst e) [o] (bd8 ρ x acc) w'
theorem cw7 : ∀ (r : List Oper) (acc : az2 R) (i : Nat),ct1 P n all ρ w K acc i r →
  ∃ L : List (d74 R),L.length = r.length ∧ K (L.reverse ++ acc) ∧ ∀ k (hk : k < r.length),∃ e,L[k]? = some (i + k,r[k].dst,e) ∧ ObR P n all ρ w r[k] ((L.take k).reverse ++ acc) e:=by
 intro r
 induction r with
 | nil=>intro acc i h; exact ⟨[],rfl,h,fun k hk=>absurd hk (by simp)⟩
 | cons o r ih=>
  rintro acc i ⟨e,ho,hr⟩
  obtain ⟨L,hl,hK,hL⟩:=ih _ _ hr
  refine ⟨(i,o.dst,e) :: L,by simp [hl],by simpa using hK,fun k hk=>?_⟩
  cases k with
  | zero=>exact ⟨e,rfl,ho⟩
  | succ k=>
   obtain ⟨e',h1,h2⟩:=hL k (by simpa using hk)
   refine ⟨e',?_,?_⟩
   ·simp only [List.getElem?_cons_succ,h1,List.getElem_cons_succ]
    rw [show i + 1 + k = i + (k + 1) by omega]
   simpa using h2
structure HOkR (done : List (Nat × Option Tmp)) (i : Nat) (o : Oper) : Prop where
 dst : ∀ d,o.dst = some d → ∀ p ∈ done,p.2 ≠ some d
 sel : ∀ cs b,o.op ≠ .select cs b
 low : ∀ e ∈ o.after,Region.binds .any e = true → e.on < i
 deps : ∀ p ∈ done,∀ d,p.2 = some d → F5 o.after.toList p.1 = true ∨ (d ∉ M6 o ∧ ∀ g b,o.guard = some (g,b) → g ≠ p.1)
 guard : ∀ g b,o.guard = some (g,b) → g < i
theorem a43 : ∀ (r : List Oper) (done : List (Nat × Option Tmp)) (i : Nat),a29 done i r = true → ∀ k (hk : k < r.length),
  HOkR (((List.range k).map fun j=>(i + j,(r[j]?.bind (·.dst)))).reverse ++ done) (i + k) r[k]:=by
 intro r
 induction r with
 | nil=>intro done i h k hk; exact absurd hk (by simp)
 | cons o r ih=>
  intro done i h k hk
  simp only [a29,Bool.and_eq_true] at h
  obtain ⟨⟨⟨⟨⟨⟨h1,h2⟩,h3⟩,h4⟩,h5⟩,h6⟩,h7⟩:=h
  cases k with
  | zero=>
   simp only [List.range_zero,List.map_nil,List.reverse_nil,List.nil_append,Nat.add_zero,List.getElem_cons_zero]
   refine ⟨?_,?_,?_,?_,?_⟩
   ·intro d hd p hp
    rw [hd] at h1
    have:=List.all_eq_true.1 h1 p hp
    simpa using this
   ·intro cs b e
    rw [e] at h2
    cases h2
   ·intro e he hb
    have:=List.all_eq_true.1 h3 e (Array.mem_toList_iff.2 he)
    simp only [hb,Bool.not_true,Bool.false_or] at this
    exact Nat.le_of_ble_eq_true this
   ·intro p hp d hd
    have:=List.all_eq_true.1 h4 p hp
    simp only [Bool.or_eq_true,hd,Bool.and_eq_true] at this
    rcases this with h | ⟨ha,hb⟩
    ·exact .inl h
    refine .inr ⟨by simpa using ha,fun g b hg=>?_⟩
    rw [hg] at hb
    simpa using hb
   intro g b hg
   rw [hg] at h5
   exact Nat.le_of_ble_eq_true h5
  | succ k=>
   have:=ih _ _ h7 k (by simpa using hk)
   have e1 : ((List.range (k + 1)).map fun j=>(i + j,((o :: r)[j]?.bind (·.dst)))).reverse ++ done = ((List.range k).map fun j=>(i + 1 + j,(r[j]?.bind (·.dst)))).reverse ++ ((i,o.dst) :: done):=by
    rw [List.range_succ_eq_map]
    simp only [List.map_cons,List.map_map,List.reverse_cons,List.append_assoc,List.cons_append,List.nil_append,List.getElem?_cons_zero,Option.bind_some,Nat.add_zero]
    congr 2
    refine List.map_congr_left fun j _=>?_
    simp only [Function.comp,List.getElem?_cons_succ]
    rw [show i + (j + 1) = i + 1 + j by omega]
   rw [e1,show i + (k + 1) = i + 1 + k by omega]
   simpa using this
theorem bk5 {x : Nat → Value} {s : Nat} : ∀ {acc : az2 R},(∀ p ∈ acc,p.2.1 ≠ some s) → bd8 ρ x acc s = ρ s:=by
 intro acc
 induction acc with
 | nil=>intro _; rfl
 | cons a r ih=>
  intro h
  obtain ⟨i,d,e⟩:=a
  have h1:=h _ (List.mem_cons_self ..)
  have h2:=ih fun p hp=>h p (List.mem_cons_of_mem _ hp)
  cases d with
  | none=>exact h2
  | some d=>
   show upd _ d _ s = _
   rw [O8,h2]
   cases hb : Nat.beq s d with
   | false=>rfl
   | true=>exact absurd (congrArg some (Nat.eq_of_beq_eq_true hb).symm) h1
theorem cq5 {x : Nat → Value} {s i : Nat} {e : EntR R} : ∀ {acc : az2 R},(i,some s,e) ∈ acc → (∀ p ∈ acc,p.2.1 = some s → p = (i,some s,e)) → bd8 ρ x acc s = e.X.getD (x i):=by
 intro acc
 induction acc with
 | nil=>intro h; cases h
 | cons a r ih=>
  intro h hu
  obtain ⟨j,d,e'⟩:=a
  by_cases hd : d = some s
  ·have:=hu _ (List.mem_cons_self ..) hd
   simp only [Prod.mk.injEq] at this
   obtain ⟨rfl,rfl,rfl⟩:=this
   exact D9 _ _ _
  have hm : (i,some s,e) ∈ r:=by
   rcases List.mem_cons.1 h with h | h
   ·simp only [Prod.mk.injEq] at h; exact absurd h.2.1.symm hd
   exact h
  have h2:=ih hm fun p hp=>hu p (List.mem_cons_of_mem _ hp)
  cases d with
  | none=>exact h2
  | some d=>
   show upd _ d _ s = _
   rw [O8,h2]
   cases hb : Nat.beq s d with
   | false=>rfl
   | true=>exact absurd (congrArg some (Nat.eq_of_beq_eq_true hb).symm) hd
theorem cw4 {x : Nat → Value} {w' : World} {es : List Edge} : ∀ {acc : az2 R},(∀ p ∈ acc,F5 es p.1 = true → p.2.2.p (p.2.2.X.getD (x p.1)) w') → ba0 x w' es acc:=by
 intro acc
 induction acc with
 | nil=>intro _; trivial
 | cons a r ih=>
  intro h
  obtain ⟨i,d,e⟩:=a
  refine ⟨?_,ih fun p hp=>h p (List.mem_cons_of_mem _ hp)⟩
  cases hb : F5 es i with
  | false=>trivial
  | true=>exact h _ (List.mem_cons_self ..) hb
theorem df2 {x : Nat → Value} {w' : World} : ∀ {acc : az2 R},(∀ p ∈ acc,p.2.2.p (p.2.2.X.getD (x p.1)) w') → b49 x w' acc:=by
 intro acc
 induction acc with
 | nil=>intro _; trivial
 | cons a r ih=>
  intro h
  obtain ⟨i,d,e⟩:=a
  exact ⟨h _ (List.mem_cons_self ..),ih fun p hp=>h p (List.mem_cons_of_mem _ hp)⟩
theorem dq9 {R : World → World → Prop} {P : Program} {n : Nat} {D : List Deferred} {all : List Oper} {o : Oper} {e : EntR R} {F ρ' : Fr} {a : Act} {w' : World} {K : Act → World → Prop} {Q : Exit → Act → World → Prop} {i : Nat}
  (hi : all[i]? = some o) (hok : aa4 n o = true) (hsel : ∀ cs b,o.op ≠ .select cs b) (hF : ∀ k,n ≤ k → F k = undef) (hm : Mt n D a ρ')
  (heq : ∀ s ∈ M6 o,F s = ρ' s) (hg : ∀ g b,o.guard = some (g,b) → ∀ s,H6 all g = some s → F s = ρ' s)
  (h : WpR P n all (b28 w' o.dst e) [o] F w') (hK : ∀ v w2,R w' w2 → e.p (vv (ap4 ρ' o.dst v) o.dst) w2 → K (a.put o.dst v) w2) : wpOp P all.toArray Q i K a w':=by
 have hm2:=b82 (D:=D) hF
 unfold WpR at h
 have h2:=h (by simp [hok]) _ _ hm2
 have hev : execOp a.eval o = execOp (O7 n D F).eval o:=by
  refine execOp_congr o hsel fun x hx=>?_
  cases x with
  | tmp s=>
   show a.tmps.getD s undef = (O7 n D F).tmps.getD s undef
   rw [hm.get,hm2.get]
   refine (heq s ?_).symm
   exact List.mem_filterMap.2 ⟨.tmp s,Array.mem_toList_iff.2 hx,rfl⟩
  | _=>rfl
 have hw : Region.wanted o (yielded all.toArray a.tmps) = Region.wanted o (yielded all.toArray (O7 n D F).tmps):=by
  unfold Region.wanted
  cases hgd : o.guard with
  | none=>rfl
  | some gb=>
   obtain ⟨g,b⟩:=gb
   have hy : yielded all.toArray a.tmps g = yielded all.toArray (O7 n D F).tmps g:=by
    unfold yielded
    cases hs : H6 all g with
    | none=>
     have : ((all.toArray)[g]?).bind (·.dst) = none:=by simpa [H6] using hs
     rw [this]; rfl
    | some s=>
     have : ((all.toArray)[g]?).bind (·.dst) = some s:=by simpa [H6] using hs
     rw [this]
     have h3 : a.tmps.getD s undef = (O7 n D F).tmps.getD s undef:=by rw [hm.get,hm2.get]; exact (hg g b hgd s hs).symm
     have s1:=hm.size
     have s2:=hm2.size
     by_cases hlt : s < n
     ·have l1 : s < a.tmps.size:=by omega
      have l2 : s < (O7 n D F).tmps.size:=by omega
      simp only [Array.getD,l1,l2,dite_true] at h3
      have h4 : a.tmps[s] = (O7 n D F).tmps[s]:=h3
      simp only [Option.bind_some,Array.getElem?_eq_getElem l1,Array.getElem?_eq_getElem l2,h4]
     have l1 : a.tmps.size ≤ s:=by omega
     have l2 : (O7 n D F).tmps.size ≤ s:=by omega
     simp only [Option.bind_some,Array.getElem?_eq_none l1,Array.getElem?_eq_none l2]
   simp only [hy]
 have hpost : ∀ v w2,bj6 n D (b28 w' o.dst e) .normal ((O7 n D F).put o.dst v) w2 → R w' w2 ∧ e.p (vv (ap4 ρ' o.dst v) o.dst) w2:=by
  rintro v w2 ⟨ρ2,hm3,_,hx,hp⟩
  refine ⟨hx,?_⟩
  cases hdst : o.dst with
  | none=>rw [hdst] at hp; exact hp
  | some d=>
   have hdn : Nat.blt d n = true:=by unfold aa4 at hok; rw [hdst] at hok; exact hok
   have h3:=(hm2.put hdn v).get d
   rw [D9] at h3
   have h4:=hm3.get d
   rw [hdst,h3] at h4
   rw [hdst] at hp
   show e.p (upd ρ' d v d) w2
   rw [D9,h4]
   exact hp
 have hio : (all.toArray)[i]? = some o:=by simpa using hi
 have hnl : ¬ LetsOut (bj6 n D (b28 w' o.dst e)):=by
  rintro ⟨a0,w0,ρ0,_,h0,_⟩
  cases h0
 unfold wpOp
 simp only [hio,hw]
 unfold wpList at h2
 cases hwd : Region.wanted o (yielded all.toArray (O7 n D F).tmps) with
 | true=>
  simp only [hwd,if_true] at h2 ⊢
  rcases h2 with h2 | ⟨_,h2⟩
  ·left
   unfold Oper.wp at h2 ⊢
   rw [hev]
   refine bo3 (fun v w2 hk=>?_) (fun dd v w2 hk=>?_) (fun c a0 w0 hc=>?_) hnl h2
   ·obtain ⟨h5,h6⟩:=hpost v w2 hk
    exact hK v w2 h5 h6
   ·obtain ⟨ρ2,hm3,_⟩:=hk
    have:=hm3.defers
    have h9 : (O7 n D F).defers = D:=rfl
    cases hdd : o.dst <;> simp [hdd,Act.put,h9] at this
   obtain ⟨ρ0,_,h0,_⟩:=hc
   cases h0
  exact (hnl h2).elim
 | false=>
  simp only [hwd,Bool.false_eq_true,if_false] at h2 ⊢
  obtain ⟨h5,h6⟩:=hpost undef w' h2
  exact hK undef w' h5 h6
theorem am3 {R : World → World → Prop} {P : Program} {n : Nat} {Q : G3} {ρ : Fr} {w : World} {id : Nat} {l : List Oper} (t : Nat) (hRt : ∀ {a b c : World},R a b → R b c → R a c) (hRd : ∀ w : World,R w { w with drawn:=w.drawn + 1 }) (hmo : P.follows .mixedOrders = true) (hchk : cl2 l t = true)
  (h : ct1 P n l ρ w (fun (acc : az2 R)=>∀ x w',R w w' → b49 x w' acc → WpR P n l Q (l.drop t) (bd8 ρ x acc) w') [] 0 (l.take t)) : Wp P n (.region id l.toArray true) Q ρ w:=by
 simp only [cl2,Bool.and_eq_true] at hchk
 obtain ⟨⟨⟨⟨⟨c1,c2⟩,c3⟩,c4⟩,c5⟩,c6⟩:=hchk
 have htl : t < l.length:=Nat.le_of_ble_eq_true c3
 have htk : (l.take t).length = t:=by rw [List.length_take]; omega
 obtain ⟨L,hL,hK,hO⟩:=cw7 _ _ _ h
 rw [htk] at hL
 simp only [List.append_nil] at hK hO
 have hget : ∀ k (hk : k < t),(l.take t)[k]'(by omega) = l[k]:=fun k hk=>by simp
 have hHd0:=a43 _ _ _ c1
 have hHd : ∀ k (hk : k < t),HOkR (((List.range k).map fun j=>(0 + j,((l.take t)[j]?.bind (·.dst)))).reverse ++ []) (0 + k) ((l.take t)[k]'(by omega)):=fun k hk=>hHd0 k (by omega)
 have hLt:=as3 _ c2
 unfold Wp
 intro hc D act hmt
 simp only [N8,List.all_eq_true] at hc
 refine wp_region_any hmo ?_
 have hw1 : R w { w with drawn:=w.drawn + 1 }:=hRd w
 have hsz : l.toArray.size = t + (l.length - t):=by simp; omega
 have hund : ∀ i,n ≤ i → ρ i = undef:=fun i hi=>by rw [← hmt.get i]; simp [Array.getD,hmt.size]; omega
 have hds : ∀ k (hk : k < t),∃ e : EntR R,L[k]? = some (k,l[k].dst,e) ∧ aa4 n l[k] = true ∧ ObR P n l ρ w l[k] ((L.take k).reverse) e:=by
  intro k hk
  obtain ⟨e,h1,h2⟩:=hO k (by omega)
  rw [Nat.zero_add] at h1
  rw [hget k hk] at h1 h2
  exact ⟨e,by simpa using h1,hc l[k] (by simp),h2⟩
 have hapart : ∀ j k (hj : j < t) (hk : k < t) d,j < k → l[j].dst = some d → l[k].dst ≠ some d:=by
  intro j k hj hk d hjk hd hd2
  refine (hHd k hk).dst d (by rw [hget k hk]; exact hd2) (0 + j,((l.take t)[j]?.bind (·.dst))) ?_ ?_
  ·refine List.mem_append_left _ (List.mem_reverse.2 (List.mem_map.2 ⟨j,List.mem_range.2 hjk,rfl⟩))
  rw [List.getElem?_eq_getElem (by omega)]
  simp only [Option.bind_some,hget j hj,hd]
 have huniq : ∀ j k (hj : j < t) (hk : k < t) d,l[j].dst = some d → l[k].dst = some d → j = k:=by
  intro j k hj hk d h1 h2
  rcases Nat.lt_trichotomy j k with h | h | h
  ·exact absurd h2 (hapart j k hj hk d h h1)
  ·exact h
  exact absurd h1 (hapart k j hk hj d h h2)
 have hmem : ∀ m,m ≤ t → ∀ p ∈ (L.take m).reverse,∃ k,∃ hk : k < t,k < m ∧ p.1 = k ∧ p.2.1 = l[k].dst ∧ L[k]? = some p:=by
  intro m hm p hp
  rw [List.mem_reverse] at hp
  obtain ⟨k,hk,hpk⟩:=List.mem_iff_getElem.1 hp
  simp only [List.length_take] at hk
  have hkt : k < t:=by omega
  have h1 : L[k]? = some p:=by
   rw [List.getElem_take] at hpk
   rw [← hpk]
   exact List.getElem?_eq_getElem (by omega)
  obtain ⟨e,h2,_⟩:=hds k hkt
  have h4:=h1.symm.trans h2
  simp only [Option.some.injEq] at h4
  exact ⟨k,hkt,by omega,by rw [h4],by rw [h4],h1⟩
 have hin : ∀ m,m ≤ t → ∀ k (hk : k < t),k < m → ∀ q,L[k]? = some q → q ∈ (L.take m).reverse:=by
  intro m hm k hk hkm q hq
  rw [List.mem_reverse]
  refine List.mem_of_getElem? (i:=k) ?_
  rw [List.getElem?_take,if_pos hkm]
  exact hq
 let Inv : Array Bool → Act → World → Prop:=fun listed a w'=>∃ ρ',Mt n D a ρ' ∧ R w w' ∧ (∀ s,(∀ k (hk : k < t),l[k].dst ≠ some s) → ρ' s = ρ s) ∧
  (∀ k,k < t → listed.getD k false = true → ∀ d e,L[k]? = some (k,d,e) → e.p (vv ρ' d) w')
 have fin : ∀ listed a w',HeadInv .any l.toArray t listed → unl listed t = 0 → Inv listed a w' → wpAny P .any l.toArray (bj6 n D Q) (l.length - t) listed a w':=by
  rintro listed a w' inv h0 ⟨ρ',hm',hx,hout,hp⟩
  have hz:=a25 h0
  have hcan : listed = F0 t l.length:=by
   refine Array.ext (by rw [inv.size]; simp [F0]) fun i h1 h2=>?_
   have hsz2:=inv.size
   have hil : i < l.length:=by simpa [hsz2] using h1
   by_cases hit : i < t
   ·have h3:=hz i hit
    simp only [Array.getD,h1,dite_true] at h3
    have h4 : listed[i] = true:=h3
    simp [F0,h4,hit]
   ·have h3:=inv.tail i (by omega) (by simpa using hil)
    simp only [Array.getD,h1,dite_true] at h3
    have h4 : listed[i] = false:=h3
    simp [F0,h4]
    omega
  have hall : ∀ k,k < t → ∀ d e,L[k]? = some (k,d,e) → e.p (vv ρ' d) w':=fun k hk=>hp k hk (hz k hk)
  have hF : bd8 ρ (fun k=>match L[k]? with | some (_,d,_)=>vv ρ' d | none=>undef) L.reverse = ρ':=by
   funext s
   by_cases hs : ∃ k,∃ hk : k < t,l[k].dst = some s
   ·obtain ⟨k,hk,hd⟩:=hs
    obtain ⟨e,h1,_⟩:=hds k hk
    rw [hd] at h1
    have hfull : L.take t = L:=List.take_of_length_le (by omega)
    have hi1:=hin t (Nat.le_refl _) k hk hk _ h1
    rw [hfull] at hi1
    rw [cq5 hi1 ?_]
    ·simp only [h1]
     have:=hall k hk (some s) e h1
     cases hX : e.X with
     | none=>rfl
     | some Y=>simp only [Option.getD_some]; exact (e.hX _ _ _ this hX).symm
    intro p hp' hps
    rw [← hfull] at hp'
    obtain ⟨j,hj,_,h3,h4,h5⟩:=hmem t (Nat.le_refl _) p hp'
    rw [hps] at h4
    have:=huniq j k hj hk s h4.symm hd
    subst this
    have:=h5.symm.trans h1
    simpa using this
   have hs' : ∀ k (hk : k < t),l[k].dst ≠ some s:=fun k hk hd=>hs ⟨k,hk,hd⟩
   rw [bk5,hout s hs']
   intro p hp' hps
   have hfull : L.take t = L:=List.take_of_length_le (by omega)
   rw [← hfull] at hp'
   obtain ⟨j,hj,_,h3,h4,h5⟩:=hmem t (Nat.le_refl _) p hp'
   exact hs' j hj (by rw [← h4,hps])
  have hrun:=hK (fun k=>match L[k]? with | some (_,d,_)=>vv ρ' d | none=>undef) w' hx (df2 fun p hp'=>by
   have hfull : L.take t = L:=List.take_of_length_le (by omega)
   rw [← hfull] at hp'
   obtain ⟨j,hj,_,h3,h4,h5⟩:=hmem t (Nat.le_refl _) p hp'
   obtain ⟨e,h1,_⟩:=hds j hj
   have h6:=h5.symm.trans h1
   simp only [Option.some.injEq] at h6
   subst h6
   simp only [h1]
   have h7:=hall j hj _ e h1
   cases hX : e.X with
   | none=>exact h7
   | some Y=>exact e.hY _ _ hX)
  rw [hF] at hrun
  unfold WpR at hrun
  have hlen : (l.drop t).length = l.length - t:=by simp
  rw [← hlen]
  refine wpAny_of_seq (l.drop t) t listed a w' (fun j=>by simp) ?_ (hrun ?_ _ a hm')
  ·rw [hcan,hlen]; exact c6
  rw [List.all_eq_true]
  intro o ho
  exact hc o (by simpa using List.mem_of_mem_drop ho)
 have key : ∀ f listed a w',HeadInv .any l.toArray t listed → unl listed t = f → Inv listed a w' → wpAny P .any l.toArray (bj6 n D Q) (f + (l.length - t)) listed a w':=by
  intro f
  induction f with
  | zero=>intro listed a w' inv h0 hI; rw [Nat.zero_add]; exact fin listed a w' inv h0 hI
  | succ f ih=>
   intro listed a w' inv hf hI
   rw [show f + 1 + (l.length - t) = (f + (l.length - t)) + 1 by omega]
   obtain ⟨i0,hi0,hl0,hlow⟩:=a77 (show unl listed t ≠ 0 by omega)
   have hsz2:=inv.size
   have hsz3 : listed.size = l.length:=by simpa using hsz2
   have hr0 : i0 ∈ Region.ready .any l.toArray listed:=by
    rw [mem_ready]
    refine ⟨getD_in (by omega) hl0,l[i0],by simp,fun e he hb=>hlow _ ?_⟩
    have:=(hHd i0 hi0).low e (by rw [hget i0 hi0]; exact he) hb
    omega
   refine ⟨fun he=>absurd (he ▸ hr0) (by simp),fun i hi=>?_⟩
   have hit : i < t:=by
    rcases Nat.lt_or_ge i t with h | h
    ·exact h
    exact absurd hi (tail_waits c4 c5 (by simpa using htl) inv _ i0 rfl hi0 (mem_ready.1 hr0).1 i h)
   obtain ⟨hun,oi,hoi,hdep⟩:=mem_ready.1 hi
   have hoi' : l[i] = oi:=by simpa [hit,show i < l.length by omega] using hoi
   obtain ⟨ρ',hm',hx,hout,hp⟩:=hI
   obtain ⟨e,h1,h3,h4⟩:=hds i hit
   have hH:=hHd i hit
   rw [hget i hit] at hH
   let x : Nat → Value:=fun k=>match L[k]? with | some (_,d,_)=>vv ρ' d | none=>undef
   have hdl : ∀ k,F5 l[i].after.toList k = true → listed.getD k false = true:=by
    intro k hk
    obtain ⟨ed,h5,h6,h7⟩:=an0 hk
    rw [← h7]
    exact hdep ed (by rw [← hoi']; exact Array.mem_toList_iff.1 h5) h6
   have hdep2 : ba0 x w' l[i].after.toList ((L.take i).reverse):=cw4 fun p hp' he=>by
    obtain ⟨j,hj,hji,h5,h6,h7⟩:=hmem i (by omega) p hp'
    obtain ⟨e',h8,_⟩:=hds j hj
    have h10:=h7.symm.trans h8
    simp only [Option.some.injEq] at h10
    subst h10
    have h11:=hp j hj (hdl j he) _ e' h8
    cases hX : e'.X with
    | none=>simp only [x,h8,Option.getD_none]; exact h11
    | some Y=>exact e'.hY _ _ hX
   have hF : ∀ s,(∀ k (hk : k < t),l[k].dst = some s → k < i ∧ listed.getD k false = true) → bd8 ρ x ((L.take i).reverse) s = ρ' s:=by
    intro s hs
    by_cases hsx : ∃ k,∃ hk : k < t,l[k].dst = some s
    ·obtain ⟨k,hk,hd⟩:=hsx
     obtain ⟨hki,hkl⟩:=hs k hk hd
     obtain ⟨e',h8,_⟩:=hds k hk
     rw [hd] at h8
     rw [cq5 (hin i (by omega) k hk hki _ h8) ?_]
     ·have h11:=hp k hk hkl (some s) e' h8
      cases hX : e'.X with
      | none=>simp only [x,h8,Option.getD_none,vv]
      | some Y=>simp only [Option.getD_some]; exact (e'.hX _ _ _ h11 hX).symm
     intro p hp' hps
     obtain ⟨j,hj,_,h5,h6,h7⟩:=hmem i (by omega) p hp'
     rw [hps] at h6
     have:=huniq j k hj hk s h6.symm hd
     subst this
     simpa using h7.symm.trans h8
    have hs' : ∀ k (hk : k < t),l[k].dst ≠ some s:=fun k hk hd=>hsx ⟨k,hk,hd⟩
    rw [bk5,hout s hs']
    intro p hp' hps
    obtain ⟨j,hj,_,h5,h6,h7⟩:=hmem i (by omega) p hp'
    exact hs' j hj (by rw [← h6,hps])
   have hoil : l[i]? = some l[i]:=List.getElem?_eq_getElem (by omega)
   have hslot : ∀ k (hk : k < t) s,l[k].dst = some s → s ∈ M6 l[i] → k < i ∧ listed.getD k false = true:=by
    intro k hk s hks hso
    have hki : k < i:=by
     rcases Nat.lt_or_ge k i with h | h
     ·exact h
     have:=hLt i k (by omega) (by omega) h s (by rw [hget k hk]; exact hks)
     rw [hget i hit] at this
     exact absurd hso this
    have h5:=hH.deps (0 + k,((l.take t)[k]?.bind (·.dst))) (List.mem_append_left _ (List.mem_reverse.2 (List.mem_map.2 ⟨k,List.mem_range.2 hki,rfl⟩))) s (by
     rw [List.getElem?_eq_getElem (by omega)]
     simp only [Option.bind_some,hget k hk,hks])
    rcases h5 with h5 | h5
    ·exact ⟨hki,hdl k (by simpa using h5)⟩
    exact absurd hso h5.1
   refine dq9 (o:=l[i]) (e:=e) (ρ':=ρ') (F:=bd8 ρ x ((L.take i).reverse)) hoil h3 hH.sel ?_ hm' ?_ ?_ (h4 x w' hx hdep2) ?_
   ·intro k hk
    rw [bk5,hund k hk]
    intro p hp' hps
    obtain ⟨j,hj,_,h5,h6,h7⟩:=hmem i (by omega) p hp'
    obtain ⟨e',h8,h10,_⟩:=hds j hj
    rw [hps] at h6
    unfold aa4 at h10
    rw [← h6] at h10
    have:=Nat.le_of_ble_eq_true h10
    omega
   ·intro s hs
    exact hF s fun k hk hks=>hslot k hk s hks hs
   ·intro g b hgd s hs
    refine hF s fun k hk hks=>?_
    have hgi:=hH.guard g b hgd
    have hgt : g < t:=by omega
    have hgs : l[g].dst = some s:=by
     unfold H6 at hs
     rw [List.getElem?_eq_getElem (by omega)] at hs
     simpa using hs
    obtain rfl:=huniq k g hk hgt s hks hgs
    have h5:=hH.deps (0 + k,((l.take t)[k]?.bind (·.dst))) (List.mem_append_left _ (List.mem_reverse.2 (List.mem_map.2 ⟨k,List.mem_range.2 (by omega),rfl⟩))) s (by
     rw [List.getElem?_eq_getElem (by omega)]
     simp only [Option.bind_some,hget k hk,hks])
    rcases h5 with h5 | h5
    ·exact ⟨by omega,hdl k (by simpa using h5)⟩
    exact absurd (by omega) (h5.2 k b hgd)
   intro v w2 hx2 hev
   refine ih _ _ _ (inv.set hi hit) ?_ ⟨ap4 ρ' l[i].dst v,?_,hRt hx hx2,?_,?_⟩
   ·rw [bs8 (by omega) (getD_both hun),if_pos hit]; omega
   ·exact hm'.putO h3 v
   ·intro s hs
    cases hdi : l[i].dst with
    | none=>exact hout s hs
    | some d=>
     show upd ρ' d v s = _
     rw [O8,hout s hs]
     cases hb : Nat.beq s d with
     | false=>rfl
     | true=>exact absurd (by rw [Nat.eq_of_beq_eq_true hb]; exact hdi) (hs i hit)
   intro k hk hkl d' e' h8
   obtain ⟨e2,h9,_⟩:=hds k hk
   have h11:=h8.symm.trans h9
   simp only [Option.some.injEq,Prod.mk.injEq,true_and] at h11
   obtain ⟨rfl,rfl⟩:=h11
   by_cases hki : i = k
   ·subst hki
    have h12:=h8.symm.trans h1
    simp only [Option.some.injEq,Prod.mk.injEq,true_and] at h12
    subst h12
    exact hev
   rw [getD_set_ne false hki] at hkl
   have hq:=e'.keep _ _ _ (hp k hk hkl _ e' h8) hx2
   cases hdk : l[k].dst with
   | none=>rw [hdk] at hq; exact hq
   | some d'=>
    rw [hdk] at hq
    cases hdi : l[i].dst with
    | none=>exact hq
    | some d=>
     have hne : Nat.beq d' d = false:=by
      cases hb : Nat.beq d' d with
      | false=>rfl
      | true=>
       have:=Nat.eq_of_beq_eq_true hb
       subst this
       exact absurd (huniq k i hk hit d' hdk hdi) (fun e=>hki e.symm)
     show e'.p (upd ρ' d v d') w2
     rw [O8 hne]
     exact hq
 have hs:=key t (Array.replicate l.toArray.size false) act { w with drawn:=w.drawn + 1 }
  ⟨by simp,fun j oj _ hl=>(by rw [getD_replicate_false] at hl; cases hl),fun k _ hk=>getD_in (by simpa using hk) (getD_replicate_false _ _)⟩
  (bs9 _ _ (by simp; omega)) ⟨ρ,hmt,hw1,fun _ _=>rfl,fun k _ hk=>(by rw [getD_replicate_false] at hk; cases hk)⟩
 rwa [← hsz] at hs
section
variable {R : World → World → Prop} {P : Program} {n : Nat} {all r : List Oper} {ρ : Fr} {w : World} {K : az2 R → Prop} {acc : az2 R} {i : Nat} {o : Oper}
theorem F1 {e : EntR R} (h1 : ∀ x w',R w w' → ba0 x w' o.after.toList acc → WpR P n all (b28 w' o.dst e) [o] (bd8 ρ x acc) w')
  (h2 : ct1 P n all ρ w K ((i,o.dst,e) :: acc) (i + 1) r) : ct1 P n all ρ w K acc i (o :: r):=⟨e,h1,h2⟩
theorem a19 (h : K acc) : ct1 P n all ρ w K acc i []:=h
theorem Q4 {F : Fr} {d : Nat} {v : Value} (hr : R w w) : b28 w (some d) (EntR.eq (R:=R) v) .normal (upd F d v) w:=⟨rfl,hr,D9 _ _ _⟩
theorem U7 {F : Fr} {w' : World} {p : Value → World → Prop} {h : ∀ v w w',p v w → R w w' → p v w'} (hx : R w w') (hp : p undef w') :
  b28 w none (EntR.of p h) .normal F w':=⟨rfl,hx,hp⟩
theorem a64 {l : List Oper} {Q : G3} (h : ∀ x w',R w w' → b49 x w' acc → WpR P n l Q r (bd8 ρ x acc) w') : ∀ x w',R w w' → b49 x w' acc → WpR P n l Q r (bd8 ρ x acc) w':=h
end
end
def OneW (g : Nat) (T : TypeId) (old new : List Value) (w w' : World) : Prop:=
 Wrt g w w' ∧ ((Blk w g T old ∨ Blk w g T new) → (Blk w' g T old ∨ Blk w' g T new)) ∧ (Blk w g T new → Blk w' g T new)
theorem OneW.refl {g : Nat} {T : TypeId} {old new : List Value} {w : World} : OneW g T old new w w:=⟨.refl,id,id⟩
theorem OneW.trans {g : Nat} {T : TypeId} {old new : List Value} {a b c : World} (h : OneW g T old new a b) (k : OneW g T old new b c) : OneW g T old new a c:=
 ⟨h.1.trans k.1,fun x=>k.2.1 (h.2.1 x),fun x=>k.2.2 (h.2.2 x)⟩
theorem OneW.of {g : Nat} {T : TypeId} {old new : List Value} {w w' : World} (h : Ext w w') : OneW g T old new w w':=
 ⟨.of h,fun x=>x.imp (fun b=>b.to h) fun b=>b.to h,fun b=>b.to h⟩
theorem OneW.drew {g : Nat} {T : TypeId} {old new : List Value} (w : World) : OneW g T old new w { w with drawn:=w.drawn + 1 }:=.of (a57 w)
theorem OneW.wrote {g : Nat} {T : TypeId} {old new : List Value} {w w' : World} (h : Wrt g w w') (hn : Blk w' g T new) : OneW g T old new w w':=⟨h,fun _=>.inr hn,fun _=>hn⟩
theorem br7 {S : Nat → Prop} {w : World} {vm : Value} {n : Nat} (hm : y6 S 227 .u32 w vm n) :
  Gives prog 165 [.bool false,vm] w fun v' w'=>Ext w w' ∧ IntV S 227 .u32 w' v' (n : Int):=by
 have h:=Z7 (p:=False) (n : Int) hm (Int.natAbs_natCast n) ⟨fun h=>by omega,fun h=>h.1.elim⟩
 rwa [j8 fun h=>h] at h
section rules
variable {P : Program} {n : Nat} {Q : G3} {ρ : Fr} {w : World} {all rest : List Oper} {d : Tmp} {ty : TypeId} {pos : String} {aft : Array Edge}
theorem b97 {t T : TypeId} [st : SlT P t T] {s b : Nat} {z : Value} {agg : Bool} [ti : TyI P T s b z agg] {x hi : Operand} {S : Nat → Prop} {w0 : World} {v : Value} {m : Nat} {cs : List Value} {k : Nat} {i : Int}
  (hv : ev ρ x = v) (hr : Row S T s w0 v m cs) (hh : ev ρ hi = .int .i64 i) (hik : i = (k : Int)) (hk : k ≤ m) (hm : 0 < m)
  (h : ∀ v',Row S T s w0 v' k (cs.take (k * s)) → WpR P n all Q rest (upd ρ d v') w) : WpR P n all Q (⟨some d,.slice t x none (some hi) none,ty,pos,aft,none⟩ :: rest) ρ w:=by
 subst hik
 have hmul : k * s ≤ m * s:=Nat.mul_le_mul_right _ hk
 rcases hr.2 with ⟨h1,h2⟩ | ⟨b',off,cap,arr,fr,h1,h2,h3,hs,hg,h5,h6⟩
 ·omega
 refine F6 (v:=.slice (some ⟨b',off,none⟩) k cap) rfl rfl ?_ (h _ ⟨by rw [List.length_take,hr.1]; omega,.inr ⟨b',off,cap,arr,fr,rfl,by omega,h3,hs,hg,h5,?_⟩⟩)
 ·have hk2 : k ≤ cap:=by omega
  simp [execOp,hv,h1,hh,Instr.sliceAt,Instr.slice,run_underlying st.und,Instr.sliceBounds,Instr.sliceBound,asIntOf,hk2,ti.runSize w,Addr.add,show ¬ cap = 0 by omega]
 rw [← h6,List.take_take]
 congr 1
 omega
end rules
theorem m9 {W : List (Nat × Nat)} {ρ ρ' : Fr} {d : Nat} {v : Value} (hd : inW W d = true) (h : aa3 W ρ ρ') : aa3 W (upd ρ d v) ρ':=by
 intro i hi
 rw [h i hi,O8]
 cases hb : Nat.beq i d with
 | false=>rfl
 | true=>rw [Nat.eq_of_beq_eq_true hb,hd] at hi; cases hi
theorem H4 {l : List Nat} {i : Nat} (h : l.length ≤ i) : l.take i = l:=List.take_of_length_le h
theorem ad2 {l : List Nat} {i : Nat} (h : l.length ≤ i) : l.getD i 0 = 0:=by simp [List.getD_eq_getElem?_getD,List.getElem?_eq_none h]
theorem R9 (l : List Nat) (i : Nat) : y5 (l.take (i + 1)) = y5 (l.take i) + 1000000000 ^ i * l.getD i 0:=by
 by_cases h : i < l.length
 ·exact ag7 h
 rw [H4 (by omega),H4 (by omega),ad2 (by omega)]; simp
theorem al4 (l : List Nat) (d : Nat) : y5 (l ++ [d]) = y5 l + 1000000000 ^ l.length * d:=by
 rw [Y3]
 simp [y5]
theorem br8 {v c x p i : Nat} (h : v + 1000000000 ^ i * c = p) : v + 1000000000 ^ i * ((c + x) % 1000000000) + 1000000000 ^ (i + 1) * ((c + x) / 1000000000) = p + 1000000000 ^ i * x:=by
 have h2 : (c + x) % 1000000000 + 1000000000 * ((c + x) / 1000000000) = c + x:=by omega
 have h3 : 1000000000 ^ i * ((c + x) % 1000000000) + 1000000000 ^ i * (1000000000 * ((c + x) / 1000000000)) = 1000000000 ^ i * c + 1000000000 ^ i * x:=by
  rw [← Nat.mul_add,h2,Nat.mul_add]
 rw [Nat.pow_succ,Nat.mul_assoc]
 omega
theorem a63 {S : Nat → Prop} {w : World} {v : Value} {l : List Nat} (h : Sl S 3 .i64 w v l) (hd : Digs l) :
  Gives prog 189 [v] w fun v' w'=>w' = w ∧ y6 S 3 .i64 w v' (y5 l):=by
 have hlen:=h.len_le
 unfold maxLen at hlen
 refine l7 func189 rfl rfl rfl ?_
 repeat refine wW ?_
 try refine o9 ?_
 refine H3 ((0,0) :: [(0,0),(3,19)]) (fun j ρ w'=>w' = w ∧ ∃ v',ρ 0 = v' ∧ j ≤ l.length ∧ Sl S 3 .i64 w v' (l.take j) ∧ (∀ i,j ≤ i → i < l.length → l.getD i 0 = 0)) l.length ?_ ?_
 ·exact ⟨rfl,v,rfl,Nat.le_refl _,by rw [H4 (Nat.le_refl _)]; exact h,fun i h1 h2=>by omega⟩
 rintro j u w' ⟨rfl,v',h0,hj,hv,hz⟩
 refine j9 0 h0 ?_
 clear h0 h
 have hlt : (l.take j).length = j:=by rw [List.length_take]; omega
 repeat (first | refine wW ?_ | refine d7 ?_ | refine B5 (by conv=>(lhs; whnf)) (by assumption) ?_ | refine Z3 rfl rfl ?_)
 refine G4 rfl rfl ?_ ?_ <;> intro hc
 ·obtain ⟨m,rfl⟩ : ∃ m,j = m + 1:=⟨j - 1,by omega⟩
  have e0 : (l.take (m + 1)).getD m 0 = l.getD m 0:=by simp [List.getD_eq_getElem?_getD,List.getElem?_take]
  repeat (first | refine B0 (i:=m) (by conv=>(lhs; whnf)) rfl (by omega) hv (by omega) ?_ | refine s6 rfl hv (by omega) ?_ | refine wW ?_ | refine B5 (by conv=>(lhs; whnf)) (by assumption) ?_ | refine r4 rfl rfl ?_ | refine s9 rfl ?_ | refine ac6 rfl rfl ?_ | refine A3 rfl rfl ?_)
  try refine i7 ?_
  refine j4 rfl ?_ ?_ <;> intro hc2
  ·repeat (first | refine wW ?_ | refine K7 ?_ | refine wp_skip ?_ | refine B5 (by conv=>(lhs; whnf)) (by assumption) ?_ | refine A3 rfl rfl ?_)
   refine b97 (k:=m) (by conv=>(lhs; whnf)) hv rfl (by omega) (by omega) (by omega) ?_
   intro v2 hv2
   repeat (first | refine wW ?_ | refine ae6 ?_)
   refine ⟨by (repeat (first | refine j2 rfl ?_ | exact i6 | refine j3 rfl ?_ | exact f5)),m,by omega,rfl,v2,rfl,by omega,?_,fun i h1 h2=>?_⟩
   ·rw [Nat.mul_one,← List.map_take,List.take_take,Nat.min_eq_left (by omega)] at hv2
    have e : (l.take m).length = m:=by rw [List.length_take]; omega
    show Row _ _ _ _ _ _ _
    rw [e]
    exact hv2
   by_cases e : i = m
   ·subst e; rw [← e0]; omega
   exact hz i (by omega) h2
  repeat (first | refine wW ?_ | refine wp_exit ?_)
  refine q5 rfl ⟨rfl,?_⟩
  rw [ay5 hd hj hz (.inr (by rw [Nat.add_sub_cancel,← e0]; omega))] at hv
  exact hv
 repeat (first | refine wW ?_ | refine wp_exit ?_ | refine y7 rfl rfl rfl ?_ | refine q8 rfl ?_ | refine wp_cond_false rfl ?_)
 refine q5 rfl ⟨rfl,?_⟩
 rw [ay5 hd hj hz (.inl (by omega))] at hv
 exact hv
theorem c53 {S : Nat → Prop} {w : World} {va vb : Value} {a b : Nat} (ha : y6 S 3 .i64 w va a) (hb : y6 S 3 .i64 w vb b) :
  Gives prog 177 [va,vb] w fun v' w'=>Ext w w' ∧ ∃ c : Int,v' = .int .i64 c ∧ dt2 c a b:=by
 have la:=ha.len_le
 have lb:=hb.len_le
 unfold maxLen at la lb
 refine l7 func177 rfl rfl rfl ?_
 repeat (first | refine wW ?_ | refine d7 ?_ | refine B5 (by conv=>(lhs; whnf)) (by assumption) ?_ | refine by7 rfl rfl ?_)
 have hA:=af9 a
 have hB:=af9 b
 try refine i7 ?_
 refine j4 rfl ?_ ?_ <;> intro hc
 ·repeat (first | refine wW ?_ | refine d7 ?_ | refine B5 (by conv=>(lhs; whnf)) (by assumption) ?_ | refine O6 rfl rfl ?_)
  try refine i7 ?_
  refine j4 rfl ?_ ?_ <;> intro hc2
  ·repeat (first | refine wW ?_ | refine r8 ?_)
   refine q5 rfl ⟨.refl,_,rfl,?_⟩
   have:=ah9 hA hB (by omega)
   rw [A0,A0] at this
   exact ⟨by omega,by omega⟩
  repeat (first | refine wW ?_ | refine r8 ?_ | refine wp_skip ?_)
  refine q5 rfl ⟨.refl,_,rfl,?_⟩
  have:=ah9 hB hA (by omega)
  rw [A0,A0] at this
  exact ⟨by omega,by omega⟩
 ·have hlen : (dg a).length = (dg b).length:=by omega
  clear hc
  repeat (first | refine wW ?_ | refine d7 ?_ | refine wp_skip ?_ | refine B5 (by conv=>(lhs; whnf)) (by assumption) ?_ | refine A3 rfl rfl ?_)
  try refine o9 ?_
  refine H3 [(4,5),(19,40)] (fun k ρ w'=>Ext w w' ∧ ρ 5 = .int .i64 (k - 1) ∧ k ≤ (dg a).length ∧ (dg a).drop k = (dg b).drop k) (dg a).length ⟨.refl,rfl,Nat.le_refl _,by rw [List.drop_of_length_le (Nat.le_refl _),List.drop_of_length_le (by omega)]⟩ ?_
  rintro k u w1 ⟨k1,h5,hk,hd⟩
  refine j9 5 h5 ?_
  clear h5
  replace ha:=ha.to k1
  replace hb:=hb.to k1
  repeat (first | refine wW ?_ | refine d7 ?_ | refine aj0 rfl rfl ?_)
  try refine i7 ?_
  refine j4 rfl ?_ ?_ <;> intro hc
  ·obtain ⟨m,rfl⟩ : ∃ m,k = m + 1:=⟨k - 1,by omega⟩
   repeat (first | refine D3 ?_ | refine d7 ?_ | refine B4 ?_ | refine r6 ?_ | refine wp_skip ?_)
   refine A6 8 ?_
   apply b7
   ·intro x w1 k1 hd
    refine r7 ?_
    refine d6 ?_
    exact j7
   apply b7
   ·intro x w1 k1 hd
    refine r7 ?_
    refine d6 ?_
    exact j7
   apply b7
   ·intro x w1 k1 hd
    refine B0 (i:=m) (by conv=>(lhs; whnf)) rfl (by omega) (ha.to k1) (by omega) ?_
    refine d6 ?_
    exact j7
   apply b7
   ·intro x w1 k1 hd
    refine s6 rfl (ha.to k1) (by omega) ?_
    refine d6 ?_
    exact j7
   apply b7
   ·intro x w1 k1 hd
    refine r7 ?_
    refine d6 ?_
    exact j7
   apply b7
   ·intro x w1 k1 hd
    refine r7 ?_
    refine d6 ?_
    exact j7
   apply b7
   ·intro x w1 k1 hd
    refine B0 (i:=m) (by conv=>(lhs; whnf)) rfl (by omega) (hb.to k1) (by omega) ?_
    refine d6 ?_
    exact j7
   apply b7
   ·intro x w1 k1 hd
    refine s6 rfl (hb.to k1) (by omega) ?_
    refine d6 ?_
    exact j7
   refine J1 (J5 ?_)
   intro x w2 k2 _
   have hda:=N1 a m
   have hdb:=N1 b m
   repeat (first | refine wW ?_ | refine O6 rfl rfl ?_)
   try refine i7 ?_
   refine j4 rfl ?_ ?_ <;> intro hc2
   ·repeat (first | refine wW ?_ | refine r8 ?_ | refine N6 ?_)
    refine q5 rfl ⟨k1.trans k2,_,rfl,?_⟩
    have:=am6 hA.1 (by omega) (by omega) hd (show (dg a).getD m 0 < (dg b).getD m 0 by omega)
    rw [A0,A0] at this
    exact ⟨by omega,by omega⟩
   ·repeat (first | refine D3 ?_ | refine wp_skip ?_)
    replace ha:=ha.to k2
    replace hb:=hb.to k2
    refine A6 8 ?_
    apply b7
    ·intro x w1 k1 hd
     refine r7 ?_
     refine d6 ?_
     exact j7
    apply b7
    ·intro x w1 k1 hd
     refine r7 ?_
     refine d6 ?_
     exact j7
    apply b7
    ·intro x w1 k1 hd
     refine B0 (i:=m) (by conv=>(lhs; whnf)) rfl (by omega) (ha.to k1) (by omega) ?_
     refine d6 ?_
     exact j7
    apply b7
    ·intro x w1 k1 hd
     refine s6 rfl (ha.to k1) (by omega) ?_
     refine d6 ?_
     exact j7
    apply b7
    ·intro x w1 k1 hd
     refine r7 ?_
     refine d6 ?_
     exact j7
    apply b7
    ·intro x w1 k1 hd
     refine r7 ?_
     refine d6 ?_
     exact j7
    apply b7
    ·intro x w1 k1 hd
     refine B0 (i:=m) (by conv=>(lhs; whnf)) rfl (by omega) (hb.to k1) (by omega) ?_
     refine d6 ?_
     exact j7
    apply b7
    ·intro x w1 k1 hd
     refine s6 rfl (hb.to k1) (by omega) ?_
     refine d6 ?_
     exact j7
    refine J1 (J5 ?_)
    intro x w3 k3 _
    repeat (first | refine wW ?_ | refine Z3 rfl rfl ?_)
    try refine i7 ?_
    refine j4 rfl ?_ ?_ <;> intro hc3
    ·repeat (first | refine wW ?_ | refine r8 ?_ | refine N6 ?_)
     refine q5 rfl ⟨k1.trans (k2.trans k3),_,rfl,?_⟩
     have:=am6 hB.1 (by omega) (by omega) hd.symm (show (dg b).getD m 0 < (dg a).getD m 0 by omega)
     rw [A0,A0] at this
     exact ⟨by omega,by omega⟩
    repeat (first | refine wW ?_ | refine wp_skip ?_ | refine A3 rfl rfl ?_)
    refine ⟨by (repeat (first | refine j2 rfl ?_ | exact i6 | refine j3 rfl ?_ | exact f5)),m,by omega,k1.trans (k2.trans k3),congrArg (Value.int .i64) (by omega),by omega,a00 (by omega) (by omega) hd (by omega)⟩
  repeat (first | refine wW ?_ | refine wp_exit ?_)
  refine q5 rfl ⟨k1,_,rfl,?_⟩
  obtain rfl : k = 0:=by omega
  simp only [List.drop_zero] at hd
  have h:=congrArg y5 hd
  rw [A0,A0] at h
  exact ⟨by omega,by omega⟩
theorem cd8 {S : Nat → Prop} {w : World} {va vb : Value} {a b : Nat} (hS : Up S w) (ha : y6 S 3 .i64 w va a) (hb : y6 S 3 .i64 w vb b) (hla : dl a ≤ 17000000000000) (hba : b ≤ a) :
  Gives prog 178 [va,vb] w fun v' w'=>Ext w w' ∧ y6 S 3 .i64 w' v' (a - b):=by
 have hla' : (dg a).length ≤ 17000000000000:=hla
 have hlb' : (dg b).length ≤ (dg a).length:=J4 hba
 refine l7 func178 rfl rfl rfl ?_
 repeat (first | refine wW ?_ | refine d7 ?_)
 try refine o9 ?_
 refine H3 [(5,38)] (fun k ρ w'=>∃ (l : List Nat) (v : Value) (br : Nat),ρ 5 = v ∧ ρ 6 = .int .i64 br ∧ ρ 7 = .int .i64 (l.length : Int) ∧ br ≤ 1 ∧ l.length + k = (dg a).length ∧ Digs l ∧ y5 l + y5 ((dg b).take l.length) = y5 ((dg a).take l.length) + 1000000000 ^ l.length * br ∧ Ext w w' ∧ Own w.heap.size 3 1 w' v l.length (l.map fun d : Nat=>.int .i64 d)) (dg a).length ?_ ?_
 ·exact ⟨[],_,0,rfl,rfl,rfl,by omega,by simp,V0,by simp [y5],.refl,ai2⟩
 rintro k u w1 ⟨l,v,br,h5,h6,h7,hbr,hk,hdl,ad6,k1,ho⟩
 refine j9 5 h5 (j9 6 h6 (j9 7 h7 ?_))
 clear h5 h6 h7
 have ha1:=ha.to k1
 have hb1:=hb.to k1
 have hsz:=k1.size
 have hda:=N1 a l.length
 have hdb:=N1 b l.length
 have hta:=R9 (dg a) l.length
 have htb:=R9 (dg b) l.length
 repeat (first | refine wW ?_ | refine d7 ?_ | refine B5 (by conv=>(lhs; whnf)) (by assumption) ?_ | refine O6 rfl rfl ?_)
 try refine i7 ?_
 refine j4 rfl ?_ ?_ <;> intro hlt
 ·repeat (first | refine B0 (i:=l.length) (by conv=>(lhs; whnf)) rfl rfl ha1 (by omega) ?_ | refine s6 rfl ha1 (by omega) ?_ | refine wW ?_ | refine d7 ?_ | refine B4 ?_ | refine r6 ?_ | refine wp_skip ?_ | refine B5 (by conv=>(lhs; whnf)) (by assumption) ?_ | refine O6 rfl rfl ?_ | refine A3 rfl rfl ?_)
  first | refine i7 ?_ | refine I8 ?_ | refine F7 ?_ | skip
  refine S6 [(8,8),(25,30)] (fun ρ w'=>w' = w1 ∧ ρ 8 = .int .i64 (((dg a).getD l.length 0 : Nat) - (br : Int) - ((dg b).getD l.length 0 : Nat))) rfl ?_ ?_ ?_
  ·intro hlb
   repeat (first | refine B0 (i:=l.length) (by conv=>(lhs; whnf)) rfl rfl hb1 (by omega) ?_ | refine s6 rfl hb1 (by omega) ?_ | refine wW ?_ | refine A3 rfl rfl ?_)
   exact ⟨by (repeat (first | refine j2 rfl ?_ | exact i6 | refine j3 rfl ?_ | exact f5)),rfl,rfl⟩
  ·intro hlb
   repeat (first | refine N7 ?_ | refine wp_skip ?_)
   refine ⟨by (repeat (first | refine j2 rfl ?_ | exact i6 | refine j3 rfl ?_ | exact f5)),rfl,congrArg (Value.int .i64) ?_⟩
   rw [ad2 (l:=dg b) (by omega)]
   omega
  rintro u2 w2 ⟨rfl,h8⟩
  refine j9 8 h8 ?_
  clear h8
  repeat (first | refine wW ?_ | refine d7 ?_ | refine O6 rfl rfl ?_)
  obtain ⟨x,hx⟩ : ∃ x,x = (dg a).getD l.length 0:=⟨_,rfl⟩
  obtain ⟨y,hy⟩ : ∃ y,y = (dg b).getD l.length 0:=⟨_,rfl⟩
  rw [← hx] at hda hta ⊢
  rw [← hy] at hdb htb ⊢
  first | refine i7 ?_ | refine I8 ?_ | refine F7 ?_ | skip
  refine S6 [(6,6),(8,8),(33,34)] (fun ρ w'=>w' = w2 ∧ ∃ d br' : Nat,ρ 8 = .int .i64 (d : Int) ∧ ρ 6 = .int .i64 (br' : Int) ∧ br' ≤ 1 ∧ d < 1000000000 ∧ d + y + br = x + 1000000000 * br') rfl ?_ ?_ ?_
  ·intro hneg
   repeat (first | refine wW ?_ | refine E6 rfl rfl ?_)
   refine ⟨by (repeat (first | refine j2 rfl ?_ | exact i6 | refine j3 rfl ?_ | exact f5)),rfl,x + 1000000000 - br - y,1,congrArg (Value.int .i64) (by omega),rfl,by omega,by omega,by omega⟩
  ·intro hneg
   repeat (first | refine N7 ?_ | refine wp_skip ?_)
   refine ⟨by (repeat (first | refine j2 rfl ?_ | exact i6 | refine j3 rfl ?_ | exact f5 | refine p6 rfl ?_ | refine m9 rfl ?_)),rfl,x - br - y,0,congrArg (Value.int .i64) (by omega),rfl,by omega,by omega,by omega⟩
  rintro u3 w3 ⟨rfl,d,br',h8,h6,hbr',hd9,hdd⟩
  refine j9 8 h8 (j9 6 h6 ?_)
  clear h8 h6
  repeat refine wW ?_
  refine ab1 (by conv=>(lhs; whnf)) rfl ?_
  intro w4 g k4 hg hgs
  refine S7 (by conv=>(lhs; whnf)) (ab2 ho k4) rfl hg (by omega) rfl (by simp [Value.oneCell']) (by unfold maxLen; omega) (by omega) (by have:=k4.size; omega) ?_
  intro v5 w5 ho5 k5
  repeat (first | refine wW ?_ | refine E6 rfl rfl ?_)
  refine ⟨by (repeat (first | refine j2 rfl ?_ | exact i6 | refine j3 rfl ?_ | exact f5)),k - 1,by omega,l ++ [d],v5,br',rfl,rfl,congrArg (Value.int .i64) (by rw [List.length_append]; rfl),hbr',by rw [List.length_append]; simp; omega,hdl.append (Digs.cons hd9 V0),?_,?_,by simpa using ho5⟩
  ·rw [List.length_append,List.length_singleton,al4,hta,htb,Nat.pow_succ]
   have e1 : 1000000000 ^ l.length * d + 1000000000 ^ l.length * y + 1000000000 ^ l.length * br = 1000000000 ^ l.length * x + 1000000000 ^ l.length * 1000000000 * br':=by
    rw [← Nat.mul_add,← Nat.mul_add,hdd,Nat.mul_add,Nat.mul_assoc]
   omega
  exact Keeps.later (k1.trans k4) k5 fun i hi _ e=>by have:=(ho.lt i e.symm).1; omega
 repeat (first | refine wW ?_ | refine wp_exit ?_)
 refine j1 (a63 (S:=S) (v:=v) (l:=l) (Row.of_own ho hS) hdl) rfl ?_
 rintro v4 w4 ⟨rfl,h4⟩
 repeat refine wW ?_
 refine q5 rfl ⟨k1,?_⟩
 have e : y5 l = a - b:=by
  have h1:=av5 hdl
  rw [H4 (by omega),H4 (by omega),A0,A0] at ad6
  have hbr0 : br = 0:=by
   rcases Nat.eq_zero_or_pos br with h | h
   ·exact h
   ·obtain rfl : br = 1:=by omega
    omega
  subst hbr0
  omega
 rw [e] at h4
 exact h4
theorem ba7 {S : Nat → Prop} {w : World} {va : Value} {a c : Nat} (hS : Up S w) (ha : y6 S 3 .i64 w va a) (hla : dl a ≤ 16000000000000) (hc : c ≤ 1000000000) :
  Gives prog 208 [va,.int .i64 (c : Int)] w fun v' w'=>Ext w w' ∧ y6 S 3 .i64 w' v' (a * c):=by
 have hla' : (dg a).length ≤ 16000000000000:=hla
 refine l7 func208 rfl rfl rfl ?_
 repeat (first | refine wW ?_ | refine d7 ?_)
 try refine o9 ?_
 refine H3 [(5,36)] (fun k ρ w'=>∃ (l : List Nat) (v : Value) (cy : Nat),ρ 5 = v ∧ ρ 6 = .int .i64 cy ∧ ρ 7 = .int .i64 (l.length : Int) ∧ cy ≤ 1000000000 ∧ k = (dg a).length + 3 - l.length ∧ l.length ≤ (dg a).length + 2 ∧ (l.length ≤ (dg a).length ∨ (l.length ≤ (dg a).length + 1 ∧ cy ≤ 1) ∨ cy = 0) ∧ Digs l ∧ y5 l + 1000000000 ^ l.length * cy = y5 ((dg a).take l.length) * c ∧ Ext w w' ∧ Own w.heap.size 3 1 w' v l.length (l.map fun d : Nat=>.int .i64 d)) ((dg a).length + 3) ?_ ?_
 ·exact ⟨[],_,0,rfl,rfl,rfl,by omega,by simp,by simp,.inl (by simp),V0,by simp [y5],.refl,ai2⟩
 rintro k u w1 ⟨l,v,cy,h5,h6,h7,hcy,hk,hll,hcl,hdl,ad6,k1,ho⟩
 refine j9 5 h5 (j9 6 h6 (j9 7 h7 ?_))
 clear h5 h6 h7
 have ha1:=ha.to k1
 have hsz:=k1.size
 have hda:=N1 a l.length
 have hta:=R9 (dg a) l.length
 repeat (first | refine wW ?_ | refine d7 ?_ | refine B5 (by conv=>(lhs; whnf)) (by assumption) ?_ | refine O6 rfl rfl ?_)
 refine cl4 [(11,15)] (fun ρ w'=>ρ 15 = .bool (tst (l.length < (dg a).length ∨ 0 < cy)) ∧ w' = w1) ?_ ?_
 ·refine G4 rfl rfl ?_ ?_ <;> intro hlt
  ·repeat (first | refine wW ?_ | refine y7 rfl rfl rfl ?_ | refine s9 rfl ?_)
   exact ⟨by (repeat (first | refine j2 rfl ?_ | exact i6 | refine j3 rfl ?_ | exact f5 | refine p6 rfl ?_ | refine m9 rfl ?_)),by rw [l9 (Or.inl (by omega))]; rfl,rfl⟩
  repeat (first | refine wW ?_ | refine r4 rfl rfl ?_ | refine q8 rfl ?_ | refine Z3 rfl rfl ?_)
  refine ⟨by (repeat (first | refine j2 rfl ?_ | exact i6 | refine j3 rfl ?_ | exact f5 | refine p6 rfl ?_ | refine m9 rfl ?_)),congrArg Value.bool (S2 ?_),rfl⟩
  omega
 rintro u1 w2 ⟨h15,rfl⟩
 refine j9 15 h15 ?_
 clear h15
 skip
 try refine i7 ?_
 refine j4 rfl ?_ ?_ <;> intro hlt
 ·repeat (first | refine wW ?_ | refine d7 ?_ | refine B4 ?_ | refine r6 ?_ | refine wp_skip ?_ | refine B5 (by conv=>(lhs; whnf)) (by assumption) ?_ | refine O6 rfl rfl ?_)
  first | refine i7 ?_ | refine I8 ?_ | refine F7 ?_ | skip
  refine S6 [(6,6),(22,29)] (fun ρ w'=>w' = w2 ∧ ρ 6 = .int .i64 ((cy + (dg a).getD l.length 0 * c : Nat) : Int)) rfl ?_ ?_ ?_
  ·intro hla2
   have hmul : (dg a).getD l.length 0 * c ≤ 999999999 * 1000000000:=Nat.mul_le_mul (by omega) hc
   have hmi : (((dg a).getD l.length 0 : Nat) : Int) * (c : Int) = (((dg a).getD l.length 0 * c : Nat) : Int):=(Int.natCast_mul ..).symm
   repeat (first | refine B0 (i:=l.length) (by conv=>(lhs; whnf)) rfl rfl ha1 (by omega) ?_ | refine s6 rfl ha1 (by omega) ?_ | refine bf8 rfl rfl (by rw [hmi]; omega) (by rw [hmi]; omega) ?_ | refine db7 rfl rfl (by rw [hmi]; omega) (by rw [hmi]; omega) ?_ | refine wW ?_)
   exact ⟨by (repeat (first | refine j2 rfl ?_ | exact i6 | refine j3 rfl ?_ | exact f5)),rfl,congrArg (Value.int .i64) (by rw [hmi,Int.natCast_add])⟩
  ·intro hla2
   repeat (first | refine N7 ?_ | refine wp_skip ?_)
   refine ⟨by (repeat (first | refine j2 rfl ?_ | exact i6 | refine j3 rfl ?_ | exact f5 | refine p6 rfl ?_ | refine m9 rfl ?_)),rfl,congrArg (Value.int .i64) ?_⟩
   rw [ad2 (l:=dg a) (by omega)]
   omega
  rintro u2 w3 ⟨rfl,h6⟩
  refine j9 6 h6 ?_
  clear h6
  obtain ⟨x,hx⟩ : ∃ x,x = (dg a).getD l.length 0:=⟨_,rfl⟩
  rw [← hx] at hda hta ⊢
  have hmul : x * c ≤ 999999999 * 1000000000:=Nat.mul_le_mul (by omega) hc
  have hcn:=br8 (x:=x * c) ad6
  obtain ⟨s,hs⟩ : ∃ s,s = cy + x * c:=⟨_,rfl⟩
  rw [← hs] at hcn ⊢
  have hs0 : (dg a).length ≤ l.length → x = 0:=fun h=>by rw [hx]; exact ad2 h
  have hs1 : x = 0 → s = cy:=fun h=>by rw [hs,h]; omega
  repeat (first | refine wW ?_ | refine as2 rfl rfl (by omega) (by omega) ?_)
  refine ab1 (by conv=>(lhs; whnf)) rfl ?_
  intro w4 g k4 hg hgs
  refine S7 (by conv=>(lhs; whnf)) (ab2 ho k4) rfl hg (by omega) rfl (by simp [Value.oneCell']) (by unfold maxLen; omega) (by omega) (by have:=k4.size; omega) ?_
  intro v5 w5 ho5 k5
  have hlen : (l ++ [s % 1000000000]).length = l.length + 1:=by rw [List.length_append]; rfl
  repeat (first | refine wW ?_ | refine E6 rfl rfl ?_ | refine as0 rfl rfl (by omega) (by omega) (by omega) ?_)
  refine ⟨by (repeat (first | refine j2 rfl ?_ | exact i6 | refine j3 rfl ?_ | exact f5 | refine p6 rfl ?_ | refine m9 rfl ?_)),(dg a).length + 3 - (l.length + 1),by omega,l ++ [s % 1000000000],v5,s / 1000000000,rfl,congrArg (Value.int .i64) (by omega),congrArg (Value.int .i64) (by rw [hlen]; omega),by omega,by rw [hlen],?_,?_,hdl.append (Digs.cons (by omega) V0),?_,?_,by simpa using ho5⟩
  ·rw [hlen]
   rcases Nat.lt_or_ge l.length (dg a).length with h | h
   ·omega
   have e1:=hs1 (hs0 h); omega
  ·rw [hlen]
   rcases Nat.lt_or_ge l.length (dg a).length with h | h
   ·exact .inl (by omega)
   have e1:=hs1 (hs0 h); omega
  ·rw [hlen,al4,hcn,hta,Nat.add_mul,Nat.mul_assoc]
  exact Keeps.later (k1.trans k4) k5 fun i hi _ e=>by have:=(ho.lt i e.symm).1; omega
 repeat (first | refine wW ?_ | refine wp_exit ?_)
 refine j1 (a63 (S:=S) (v:=v) (l:=l) (Row.of_own ho hS) hdl) rfl ?_
 rintro v4 w4 ⟨rfl,h4⟩
 repeat refine wW ?_
 refine q5 rfl ⟨k1,?_⟩
 have e : y5 l = a * c:=by
  have hcy0 : cy = 0:=by omega
  subst hcy0
  rw [H4 (by omega),A0] at ad6
  omega
 rw [e] at h4
 exact h4
theorem c04 {S : Nat → Prop} {w : World} {va : Value} {a c : Nat} (hS : Up S w) (ha : y6 S 3 .i64 w va a) (hla : dl a ≤ 16000000000000) (hc : c ≤ 1000000000) (hc0 : 0 < c) :
    Gives prog 209 [va, .int .i64 (c : Int)] w fun v' w' => ∃ vq, v' = .tuple #[vq, .int .i64 ((a % c : Nat) : Int)] ∧ Ext w w' ∧ y6 S 3 .i64 w' vq (a / c) := by
  have hla' : (dg a).length ≤ 16000000000000 := hla
  refine l7 func209 rfl rfl rfl ?_
  repeat (first | refine wW ?_ | refine B5 (by conv => (lhs; whnf)) (by assumption) ?_)
  refine bf6 (l := (dg a).length) (c := (dg a).length) rfl rfl rfl rfl (Nat.le_refl _) (by omega) (by unfold maxLen; omega) ?_
  intro w2 q k2 hg hgs
  have hg : Blk w2 q 3 ((List.replicate (dg a).length 0).map fun d : Nat => .int .i64 d) := by
    simpa [toList_madeCells_one, Value.cells, List.map_replicate] using hg
  have ha2 := (ha.mono (S' := fun k => S k ∧ k ≠ q) fun i hi hs => ⟨hs, by omega⟩).to k2
  repeat (first | refine wW ?_ | refine d7 ?_ | refine B5 (by conv => (lhs; whnf)) (by assumption) ?_ | refine A3 rfl rfl ?_)
  try refine o9 ?_
  refine H3 [(7, 8), (15, 34)] (fun k ρ w' => ∃ (o : List Nat) (r : Nat), ρ 8 = .int .i64 ((k : Int) - 1) ∧ ρ 7 = .int .i64 (r : Int) ∧ r < c ∧ k ≤ o.length ∧ o.length = (dg a).length ∧ Digs o ∧
        y5 ((dg a).drop k) = y5 (o.drop k) * c + r ∧ Blk w' q 3 (o.map fun d : Nat => .int .i64 d) ∧ Keeps (fun k => k ≠ q) w2 w') (dg a).length ?_ ?_
  · exact ⟨List.replicate (dg a).length 0, 0, rfl, rfl, hc0, by simp, by simp, fun x hx => by rw [List.eq_of_mem_replicate hx]; omega, by simp [y5], hg, .refl⟩
  rintro k u w3 ⟨o, r, h8, h7, hr, hko, hol, hod, hv, hg3, k3⟩
  refine j9 8 h8 (j9 7 h7 ?_)
  clear h8 h7 hg
  have ha3 : y6 (fun k => S k ∧ k ≠ q) 3 .i64 w3 va a := ha2.keep (k3.mono fun i hi => hi.2)
  repeat (first | refine wW ?_ | refine d7 ?_ | refine aj0 rfl rfl ?_)
  try refine i7 ?_
  refine j4 rfl ?_ ?_ <;> intro hk
  · obtain ⟨m, rfl⟩ : ∃ m, k = m + 1 := ⟨k - 1, by omega⟩
    have hda := N1 a m
    repeat (first | refine L8 (i := m) rfl rfl (by omega) (by omega) ?_ | refine bf8 rfl rfl (by omega) (by omega) ?_ | refine B0 (i := m) (by conv => (lhs; whnf)) rfl (by omega) ha3 (by omega) ?_ | refine s6 rfl ha3 (by omega) ?_ | refine wW ?_ | refine B4 ?_ | refine r6 ?_ | refine wp_skip ?_ | refine E6 rfl rfl ?_ | refine as0 rfl rfl (by omega) (by omega) (by omega) ?_)
    have hdr := S8 (show m < (dg a).length by omega)
    rw [hv] at hdr
    obtain ⟨d, hd⟩ : ∃ d, d = (dg a).getD m 0 := ⟨_, rfl⟩
    rw [← hd] at hda hdr ⊢
    have hdo := S8 (show m < o.length by omega)
    obtain ⟨s, hs⟩ : ∃ s, s = r * 1000000000 + d := ⟨_, rfl⟩
    have hsi : (r : Int) * 1000000000 + (d : Int) = (s : Int) := by omega
    rw [hsi]
    have hsb : s < c * 1000000000 := by
      have : r * 1000000000 + 1000000000 ≤ c * 1000000000 := by omega
      omega
    have hq9 : s / c < 1000000000 := Nat.div_lt_of_lt_mul hsb
    have hqm := Nat.div_add_mod s c
    have hrm := Nat.mod_lt s hc0
    have hdi : (s : Int) / (c : Int) = ((s / c : Nat) : Int) := rfl
    have hmi : (s : Int) % (c : Int) = ((s % c : Nat) : Int) := rfl
    have hsle : s ≤ 1000000000000000000 := by
      have : c * 1000000000 ≤ 1000000000 * 1000000000 := Nat.mul_le_mul_right _ hc
      omega
    refine Z4 (c := s / c) rfl rfl hdi hg3 (by omega) ?_
    intro w4 k4 hg4
    repeat (first | refine wW ?_ | refine A3 rfl rfl ?_ | refine as2 rfl rfl (by omega) (by omega) ?_)
    refine ⟨by (repeat (first | refine j2 rfl ?_ | exact i6 | refine j3 rfl ?_ | exact f5 | refine p6 rfl ?_ | refine m9 rfl ?_)), m, by omega, o.set m (s / c), s % c, congrArg (Value.int .i64) (by omega), rfl, hrm, by rw [List.length_set]; omega, by rw [List.length_set]; omega, hod.set hq9 _, ?_, hg4, k3.trans k4⟩
    have hds := S8 (l := o.set m (s / c)) (m := m) (by rw [List.length_set]; omega)
    rw [ab7 (by omega), ar0] at hds
    rw [hdr, hds, Nat.mul_add, Nat.add_mul, Nat.mul_assoc]
    have e : s / c * c + s % c = d + 1000000000 * r := by rw [Nat.mul_comm (s / c), hqm, hs]; omega
    omega
  · obtain rfl : k = 0 := by omega
    rw [List.drop_zero, List.drop_zero, A0] at hv
    repeat (first | refine wW ?_ | refine wp_exit ?_)
    refine j1 (a63 (S := S) (v := .slice (some ⟨q, 0, none⟩) (dg a).length (dg a).length) (l := o) ?_ hod) rfl ?_
    · have h4 := Row.of_blk (S := S) (s := 1) (n := o.length) (cap := o.length) hg3 (hS q (by omega)) (Nat.le_refl _) (by unfold maxLen; omega) (by simp)
      rw [Nat.mul_one, List.take_of_length_le (by simp)] at h4
      rw [← hol]
      exact h4
    · rintro v4 w4 ⟨rfl, h4⟩
      have hdiv : a / c = y5 o := by
        rw [hv, Nat.add_comm, Nat.add_mul_div_right _ _ hc0, Nat.div_eq_of_lt hr, Nat.zero_add]
      have hmod : a % c = r := by
        rw [hv, Nat.mul_comm, Nat.mul_add_mod, Nat.mod_eq_of_lt hr]
      repeat refine wW ?_
      refine as7 rfl (by conv => (lhs; whnf)) (by conv => (lhs; whnf)) ⟨v4, by rw [hmod], ?_, ?_⟩
      · exact Keeps.later k2 k3 fun i hi _ => by omega
      · rw [hdiv]; exact h4
theorem b68 {l : List Nat} (hd : Digs l) (h : l ≠ [] → 1000000000 ^ (l.length - 1) ≤ y5 l) : a17 l:=by
 refine ⟨hd,fun hne h0=>?_⟩
 have h1:=h hne
 have e:=List.dropLast_concat_getLast hne
 rw [h0] at e
 have h2 : y5 l = y5 l.dropLast:=by
  conv=>lhs; rw [← e]
  rw [al4]
  simp
 have h3 : Digs l.dropLast:=fun x hx=>hd x (List.dropLast_subset _ hx)
 have h4:=av5 h3
 rw [List.length_dropLast] at h4
 omega
theorem cc2 {a : Nat} (h : 0 < dl a) : 1000000000 ^ (dl a - 1) ≤ a:=by
 have h1:=W8 (af9 a) (by intro e; unfold dl at h; rw [e] at h; simp at h)
 rw [A0] at h1
 exact h1
theorem dy1 {S : Nat → Prop} {w : World} {va vb : Value} {a b : Nat} (hS : Up S w) (ha : y6 S 3 .i64 w va a) (hb : y6 S 3 .i64 w vb b) (hla : dl a ≤ 16000000000000) (hlb : dl b ≤ 16000000000000) :
  Gives prog 176 [va,vb] w fun v' w'=>Ext w w' ∧ y6 S 3 .i64 w' v' (a + b):=by
 have hla' : (dg a).length ≤ 16000000000000:=hla
 have hlb' : (dg b).length ≤ 16000000000000:=hlb
 obtain ⟨M,hM⟩ : ∃ M,M = max (dg a).length (dg b).length:=⟨_,rfl⟩
 refine l7 func176 rfl rfl rfl ?_
 repeat (first | refine wW ?_ | refine d7 ?_)
 try refine o9 ?_
 refine H3 [(5,50)] (fun k ρ w'=>∃ (l : List Nat) (v : Value) (cy : Nat),ρ 5 = v ∧ ρ 6 = .int .i64 cy ∧ ρ 7 = .int .i64 (l.length : Int) ∧ cy ≤ 1 ∧ k = M + 2 - l.length ∧ (l.length ≤ M ∨ (l.length = M + 1 ∧ cy = 0 ∧ 1000000000 ^ M ≤ a + b)) ∧ Digs l ∧ y5 l + 1000000000 ^ l.length * cy = y5 ((dg a).take l.length) + y5 ((dg b).take l.length) ∧ Ext w w' ∧ Own w.heap.size 3 1 w' v l.length (l.map fun d : Nat=>.int .i64 d)) (M + 2) ?_ ?_
 ·exact ⟨[],_,0,rfl,rfl,rfl,by omega,by simp,.inl (by simp),V0,by simp [y5],.refl,ai2⟩
 rintro k u w1 ⟨l,v,cy,h5,h6,h7,hcy,hk,hll,hdl,ad6,k1,ho⟩
 refine j9 5 h5 (j9 6 h6 (j9 7 h7 ?_))
 clear h5 h6 h7
 have ha1:=ha.to k1
 have hb1:=hb.to k1
 have hsz:=k1.size
 have hda:=N1 a l.length
 have hdb:=N1 b l.length
 have hta:=R9 (dg a) l.length
 have htb:=R9 (dg b) l.length
 repeat (first | refine wW ?_ | refine d7 ?_ | refine B5 (by conv=>(lhs; whnf)) (by assumption) ?_ | refine O6 rfl rfl ?_)
 refine cl4 [(12,21)] (fun ρ w'=>ρ 21 = .bool (tst ((l.length < (dg a).length ∨ l.length < (dg b).length) ∨ 0 < cy)) ∧ w' = w1) ?_ ?_
 ·refine G4 rfl rfl ?_ ?_ <;> intro hlt
  ·repeat (first | refine wW ?_ | refine y7 rfl rfl rfl ?_ | refine s9 rfl ?_)
   exact ⟨by (repeat (first | refine j2 rfl ?_ | exact i6 | refine j3 rfl ?_ | exact f5 | refine p6 rfl ?_ | refine m9 rfl ?_)),by rw [l9 (Or.inl (Or.inl (by omega)))]; rfl,rfl⟩
  ·repeat (first | refine r7 ?_ | refine B5 (by conv=>(lhs; whnf)) (by assumption) ?_ | refine r4 rfl rfl ?_ | refine q8 rfl ?_ | refine O6 rfl rfl ?_)
   refine G4 rfl rfl ?_ ?_ <;> intro hlt2
   ·repeat (first | refine wW ?_ | refine y7 rfl rfl rfl ?_ | refine s9 rfl ?_)
    exact ⟨by (repeat (first | refine j2 rfl ?_ | exact i6 | refine j3 rfl ?_ | exact f5 | refine p6 rfl ?_ | refine m9 rfl ?_)),by rw [l9 (Or.inl (Or.inr (by omega)))]; rfl,rfl⟩
   ·repeat (first | refine wW ?_ | refine r4 rfl rfl ?_ | refine q8 rfl ?_ | refine Z3 rfl rfl ?_)
    refine ⟨by (repeat (first | refine j2 rfl ?_ | exact i6 | refine j3 rfl ?_ | exact f5 | refine p6 rfl ?_ | refine m9 rfl ?_)),congrArg Value.bool (S2 ?_),rfl⟩
    omega
 rintro u2 w3 ⟨h21,rfl⟩
 refine j9 21 h21 ?_
 clear h21
 skip
 try refine i7 ?_
 refine j4 rfl ?_ ?_ <;> intro hlt
 ·repeat (first | refine wW ?_ | refine d7 ?_ | refine B4 ?_ | refine r6 ?_ | refine wp_skip ?_ | refine B5 (by conv=>(lhs; whnf)) (by assumption) ?_ | refine O6 rfl rfl ?_)
  first | refine i7 ?_ | refine I8 ?_ | refine F7 ?_ | skip
  refine S6 [(6,6),(28,33)] (fun ρ w'=>w' = w3 ∧ ρ 6 = .int .i64 ((cy + (dg a).getD l.length 0 : Nat) : Int)) rfl ?_ ?_ ?_
  ·intro hl2
   repeat (first | refine B0 (i:=l.length) (by conv=>(lhs; whnf)) rfl rfl ha1 (by omega) ?_ | refine s6 rfl ha1 (by omega) ?_ | refine wW ?_ | refine E6 rfl rfl ?_)
   exact ⟨by (repeat (first | refine j2 rfl ?_ | exact i6 | refine j3 rfl ?_ | exact f5)),rfl,rfl⟩
  ·intro hl2
   repeat (first | refine N7 ?_ | refine wp_skip ?_)
   refine ⟨by (repeat (first | refine j2 rfl ?_ | exact i6 | refine j3 rfl ?_ | exact f5 | refine p6 rfl ?_ | refine m9 rfl ?_)),rfl,congrArg (Value.int .i64) ?_⟩
   rw [ad2 (l:=dg a) (by omega)]
   omega
  rintro u3 w4 ⟨rfl,h6⟩
  refine j9 6 h6 ?_
  clear h6
  obtain ⟨x,hx⟩ : ∃ x,x = (dg a).getD l.length 0:=⟨_,rfl⟩
  rw [← hx] at hda hta ⊢
  repeat (first | refine wW ?_ | refine d7 ?_ | refine B5 (by conv=>(lhs; whnf)) (by assumption) ?_ | refine O6 rfl rfl ?_)
  first | refine i7 ?_ | refine I8 ?_ | refine F7 ?_ | skip
  refine S6 [(6,6),(38,43)] (fun ρ w'=>w' = w4 ∧ ρ 6 = .int .i64 ((cy + x + (dg b).getD l.length 0 : Nat) : Int)) rfl ?_ ?_ ?_
  ·intro hl2
   repeat (first | refine B0 (i:=l.length) (by conv=>(lhs; whnf)) rfl rfl hb1 (by omega) ?_ | refine s6 rfl hb1 (by omega) ?_ | refine wW ?_ | refine E6 rfl rfl ?_)
   exact ⟨by (repeat (first | refine j2 rfl ?_ | exact i6 | refine j3 rfl ?_ | exact f5)),rfl,rfl⟩
  ·intro hl2
   repeat (first | refine N7 ?_ | refine wp_skip ?_)
   refine ⟨by (repeat (first | refine j2 rfl ?_ | exact i6 | refine j3 rfl ?_ | exact f5 | refine p6 rfl ?_ | refine m9 rfl ?_)),rfl,congrArg (Value.int .i64) ?_⟩
   rw [ad2 (l:=dg b) (by omega)]
   omega
  rintro u4 w5 ⟨rfl,h6⟩
  refine j9 6 h6 ?_
  clear h6
  obtain ⟨y,hy⟩ : ∃ y,y = (dg b).getD l.length 0:=⟨_,rfl⟩
  rw [← hy] at hdb htb ⊢
  have hcn:=br8 (x:=x + y) ad6
  obtain ⟨s,hs⟩ : ∃ s,s = cy + x + y:=⟨_,rfl⟩
  rw [← Nat.add_assoc,← hs] at hcn
  rw [← hs]
  have hs0 : M ≤ l.length → s = cy:=fun h=>by rw [hs,hx,hy,ad2 (by omega),ad2 (by omega)]; omega
  repeat (first | refine wW ?_ | refine as2 rfl rfl (by omega) (by omega) ?_)
  refine ab1 (by conv=>(lhs; whnf)) rfl ?_
  intro w6 g k6 hg hgs
  refine S7 (by conv=>(lhs; whnf)) (ab2 ho k6) rfl hg (by omega) rfl (by simp [Value.oneCell']) (by unfold maxLen; omega) (by omega) (by have:=k6.size; omega) ?_
  intro v7 w7 ho7 k7
  have hlen : (l ++ [s % 1000000000]).length = l.length + 1:=by rw [List.length_append]; rfl
  repeat (first | refine wW ?_ | refine E6 rfl rfl ?_ | refine as0 rfl rfl (by omega) (by omega) (by omega) ?_)
  refine ⟨by (repeat (first | refine j2 rfl ?_ | exact i6 | refine j3 rfl ?_ | exact f5 | refine p6 rfl ?_ | refine m9 rfl ?_)),M + 2 - (l.length + 1),by omega,l ++ [s % 1000000000],v7,s / 1000000000,rfl,congrArg (Value.int .i64) (by omega),congrArg (Value.int .i64) (by rw [hlen]; omega),by omega,by rw [hlen],?_,hdl.append (Digs.cons (by omega) V0),?_,?_,by simpa using ho7⟩
  ·rw [hlen]
   rcases Nat.lt_or_ge l.length M with h | h
   ·exact .inl (by omega)
   ·have e1:=hs0 h
    have e2 : l.length = M:=by omega
    have e3 : cy = 1:=by omega
    refine .inr ⟨by omega,by omega,?_⟩
    rw [e2,e3,H4 (by omega),H4 (by omega),A0,A0] at ad6
    omega
  ·rw [hlen,al4,hcn,hta,htb,Nat.mul_add]
   omega
  exact Keeps.later (k1.trans k6) k7 fun i hi _ e=>by have:=(ho.lt i e.symm).1; omega
 repeat (first | refine wW ?_ | refine wp_exit ?_)
 have e : y5 l = a + b:=by
  have hcy0 : cy = 0:=by omega
  subst hcy0
  rw [H4 (by omega),H4 (by omega),A0,A0] at ad6
  omega
 have hcan : a17 l:=b68 hdl fun hne=>by
  have hl0 : 0 < l.length:=List.length_pos_iff.2 hne
  rw [e]
  rcases hll with h | ⟨h,_,h2⟩
  ·rcases Nat.lt_or_ge (dg a).length (dg b).length with h3 | h3
   ·have e4 : l.length = dl b:=by unfold dl; omega
    have:=cc2 (a:=b) (by omega)
    rw [e4]
    omega
   ·have e4 : l.length = dl a:=by unfold dl; omega
    have:=cc2 (a:=a) (by omega)
    rw [e4]
    omega
  rw [h,Nat.add_sub_cancel]; exact h2
 refine q5 rfl ⟨k1,?_⟩
 have h8:=Row.of_own ho hS
 show Sl _ _ _ _ _ _
 rw [← e,bd1 hcan]
 exact h8
section rules
variable {P : Program} {n : Nat} {Q : G3} {ρ : Fr} {w : World} {all rest : List Oper} {d : Tmp} {ty : TypeId} {pos : String} {aft : Array Edge}
theorem ab0 {x : Operand} {a : Addr} (hx : ev ρ x = .pointer (some a)) (h : WpR P n all Q rest (upd ρ d (.pointer (some a))) w) :
  WpR P n all Q (⟨some d,.nilCheck x,ty,pos,aft,none⟩ :: rest) ρ w:=
 F6 rfl rfl (by simp [execOp,hx]) h
theorem bv4 {src dst : TypeId} {x : Operand} {u v : Value} (hx : ev ρ x = u) (hr : (convert src dst u).run P w = .ok v w) (h : WpR P n all Q rest (upd ρ d v) w) :
  WpR P n all Q (⟨some d,.convert src dst x,ty,pos,aft,none⟩ :: rest) ρ w:=
 F6 rfl rfl (by subst hx; simp [execOp,hr]) h
theorem az5 {t e t2 : TypeId} (hp : P.underlying t = some (.pointer e)) {x : Operand} {a : Option Addr} (hx : ev ρ x = .pointer a) (h : WpR P n all Q rest (upd ρ d (.bool a.isNone)) w) :
  WpR P n all Q (⟨some d,.binOp .eql t x (.const (.pointer none)) t2,ty,pos,aft,none⟩ :: rest) ρ w:=by
 refine F6 rfl rfl ?_ h
 have hn : ev ρ (.const (.pointer none)) = .pointer none:=rfl
 have h2 : (Op.equal t (.pointer a) (.pointer none)).run P w = .ok a.isNone w:=by
  unfold Op.equal Op.maxDepth Op.equalIn
  cases a <;> simp [run_underlying hp]
 simp [execOp,hx,hn,eqGuard,binOp,h2]
theorem cd4 {t e t2 : TypeId} {j : TypeInfo} (hp : P.underlying t = some (.pointer e)) (hj : P.info? e = some j) {x y : Operand} {a : Addr} (hx : ev ρ x = .pointer (some a)) (hy : ev ρ y = .pointer (some a)) (h : WpR P n all Q rest (upd ρ d (.bool false)) w) :
  WpR P n all Q (⟨some d,.binOp .neq t x y t2,ty,pos,aft,none⟩ :: rest) ρ w:=by
 refine F6 rfl rfl ?_ h
 have h2:=Lib.run_neq_ptr_same (P:=P) w a hp hj
 simp [execOp,hx,hy,eqGuard,h2]
theorem do7 {f : FuncId} {l : List Operand} {ts : Array TypeId} {args : List Value} {v : Value} (hr : (callFunc f args.toArray).run P w = .ok (.value v) w) (ha : l.map (ev ρ) = args)
  (h : WpR P n all Q rest (upd ρ d v) w) : WpR P n all Q (⟨some d,.call ⟨.value (.func f),l.toArray,ts⟩,ty,pos,aft,none⟩ :: rest) ρ w:=by
 refine F6 rfl rfl ?_ h
 subst ha
 simp [execOp,resolve,Deferred.ofValue,ev,invoke,hr]
theorem ct9 {t : TypeId} {b : Nat} {z : Value} {agg : Bool} [ti : TyI P t 1 b z agg] {x y : Operand} {a : Addr} {u c : Value}
  (hx : ev ρ x = .pointer (some a)) (hy : ev ρ y = u) (hc : w.cell? a = some c) (hf : w.frozen? a = false) (h1 : u.oneCell' = true)
  (h : WpR P n all Q rest ρ (w.setCell a u)) : WpR P n all Q (⟨none,.store t x y,ty,pos,aft,none⟩ :: rest) ρ w:=by
 refine bw4 rfl rfl ?_ h
 have hcc : u.cells = #[u]:=al0 h1
 have h2:=run_store P w a u .plain h1
 rw [hc,hf] at h2
 simp only [Bool.false_eq_true,if_false] at h2
 have h3 : a.add 0 = a:=by unfold Addr.add; simp
 simp [execOp,hx,hy,Instr.storeAt,Instr.sureAddr,storeVar,ti.runSize w,hcc,storeCells,h3,h2]
theorem bx0 {t u e : TypeId} [st : SlT P t e] [su : StrT P u] [ti : TyI P e 1 1 (.int .u8 0) false] {x y : Operand} {v : Value} {base m : Nat} {xs : List Value} {s : List UInt8}
  (hx : ev ρ x = v) (hown : Own base e 1 w v m xs) (hy : ev ρ y = G5 s) (hbytes : m + s.length ≤ 140737488355328) (hbase : base ≤ w.heap.size)
  (h : ∀ v' w',Own base e 1 w' v' (m + s.length) (xs ++ Lib.byteCells s) → Keeps (fun i=>some i ≠ v.ownBlock) w w' → WpR P n all Q rest (upd ρ d v') w') :
  WpR P n all Q (⟨some d,.call ⟨.builtin .append,#[x,y],#[t,u]⟩,ty,pos,aft,none⟩ :: rest) ρ w:=by
 obtain ⟨i,hi,e1,e2,e3⟩:=ti.ex
 obtain ⟨v',w',hr,h2,h3,_⟩:=Lib.run_append_own_string (P:=P) w base t u ty e i st.und su.und hi e3 e1 e2 v m xs hown ⟨s.toArray⟩ (by show m + s.toArray.size ≤ _; simp [maxLen]; omega) (by show m + s.toArray.size ≤ _; simpa using hbytes) hbase
 have es : (⟨s.toArray⟩ : ByteArray).size = s.length:=by show s.toArray.size = _; simp
 rw [es,Lib.strCells_eq] at h2
 refine ak1 rfl rfl ?_ (h v' w' h2 (.of_grown h3))
 simp [execOp,resolve,invoke,builtin,hx,hy,hr]
end rules
abbrev BuiltF (B b : Nat) (bs : List UInt8) (w : World) : Prop:=Lib.IsBuilder 221 5 B b (Lib.byteCells bs) w
theorem liesBuilder : liesAt prog prog.depth 221 (2 / prog.cellsOf 221) 0 221 1 = true:=by kernel_rfl
theorem b16 {B b : Nat} {bs : List Value} {w : World} (h : Lib.IsBuilder 221 5 B b bs w) :
  Gives prog 202 [.pointer (some ⟨b,0,none⟩)] w fun v' w'=>Lib.BuilderAt 221 5 B b (.pointer (some ⟨b,0,none⟩)) bs w' ∧ Below B w w':=by
 obtain ⟨i,hi,hsz,_⟩:=(inferInstance : TyI prog 221 2 _ _ _).ex
 rcases h with h | h
 ·refine l7 func202 rfl rfl rfl ?_
  repeat (first | refine ab0 rfl ?_ | refine wW ?_ | refine l6 rfl ?_)
  refine ay1 (u:=.pointer none) rfl (ac4 inferInstance h.cell0) ?_
  refine az5 underlying218 rfl ?_
  repeat (first | refine wW ?_ | refine wp_cond_true rfl ?_)
  refine bv4 rfl (Lib.run_to_unsafe w ⟨b,0,none⟩ underlying218 underlying259 hi (by rw [hsz]; decide) h.shape (Nat.zero_lt_succ 1)) ?_
  refine do7 (args:=[.pointer (some ⟨b,0,none⟩)]) (v:=.pointer (some ⟨b,0,none⟩)) ?_ rfl ?_
  ·rw [run_callFunc_extern func227 (by kernel_rfl) (by kernel_rfl) (by kernel_rfl) (e:=Extern.AbiNoEscape.same) (by kernel_rfl)]
   rw [Lib.run_noEscape]
   rfl
  refine bv4 rfl (Lib.run_from_unsafe w ⟨b,0,none⟩ underlying259 underlying218 hi h.shape liesBuilder) ?_
  repeat (first | refine ab0 rfl ?_ | refine l6 rfl ?_)
  refine ct9 (a:=⟨b,0,none⟩) rfl rfl h.cell0 h.frozen0 rfl ?_
  repeat (first | refine d6 ?_)
  exact ⟨[],rfl,h.used _,(Below.refl B w).setCell (p:=⟨b,0,none⟩) h.1 _⟩
 ·refine l7 func202 rfl rfl rfl ?_
  repeat (first | refine ab0 rfl ?_ | refine wW ?_ | refine l6 rfl ?_)
  refine ay1 (u:=.pointer (some ⟨b,0,none⟩)) rfl (ac4 inferInstance h.cell0) ?_
  refine az5 underlying218 rfl ?_
  repeat (first | refine ab0 rfl ?_ | refine wW ?_ | refine l6 rfl ?_ | refine wp_cond_false rfl ?_)
  refine ay1 (u:=.pointer (some ⟨b,0,none⟩)) rfl (ac4 inferInstance h.cell0) ?_
  repeat (first | refine r7 ?_)
  refine cd4 underlying218 hi rfl rfl ?_
  repeat (first | refine wW ?_ | refine wp_skip ?_ | refine wp_cond_false rfl ?_)
  exact ⟨[],rfl,h,Below.refl B _⟩
theorem aw8 {B b : Nat} {bs s : List UInt8} {w : World} (h : BuiltF B b bs w) (hlen : bs.length + s.length ≤ 140737488355328) (hBw : B ≤ w.heap.size) :
  Gives prog 179 [.pointer (some ⟨b,0,none⟩),G5 s] w fun v' w'=>BuiltF B b (bs ++ s) w' ∧ Below B w w':=by
 refine l7 func179 rfl rfl rfl ?_
 repeat refine wW ?_
 refine j1 (b16 h) rfl ?_
 rintro v1 w1 ⟨h1,k1⟩
 obtain ⟨hB,v,hbk,hown,hne⟩:=h1
 have hblk : Blk w1 b 221 [.pointer (some ⟨b,0,none⟩),v]:=hbk
 have hk1:=k1.size
 repeat (first | refine ab0 rfl ?_ | refine i1 rfl hblk rfl ?_ | refine wW ?_ | refine l6 rfl ?_)
 rw [Lib.byteCells_length] at hown
 refine bx0 (by conv=>(lhs; whnf)) hown rfl hlen (by omega) ?_
 intro v2 w2 hown2 k2
 repeat (first | refine ab0 rfl ?_ | refine l6 rfl ?_)
 have hblk2 : Blk w2 b 221 [.pointer (some ⟨b,0,none⟩),v]:=hblk.keep k2 (fun e=>hne e.symm)
 have h1 : v2.oneCell' = true:=by
  rcases hown2.2 with ⟨hv,_⟩ | ⟨g,cap,cur,hv,_⟩ <;> rw [hv] <;> rfl
 refine L6 (i:=1) rfl rfl hblk2 (show 1 < 2 by decide) h1 ?_
 intro w3 k3 hblk3
 repeat (first | refine wW ?_ | refine bp4 rfl ?_)
 refine as7 rfl (by conv=>(lhs; whnf)) (by conv=>(lhs; whnf)) ⟨.inr ⟨hB,v2,hblk3,?_,?_⟩,?_⟩
 ·have hl : (Lib.byteCells bs ++ Lib.byteCells s).length = bs.length + s.length:=by rw [List.length_append,Lib.byteCells_length,Lib.byteCells_length]
  rw [Lib.byteCells_append,hl]
  exact ac7 hown2 k3 fun g hg e=>Lib.ownBlock_ne hown2 hblk2 (by decide) (e ▸ hg)
 ·exact Lib.ownBlock_ne hown2 hblk2 (by decide)
 have k4 : Keeps (fun k=>k < B) w1 w3:=(Keeps.own hown k2).trans (k3.mono fun i hi e=>by omega)
 refine k1.trans ⟨k4.os,k4.tape,k4.output,k4.size,fun i hi=>k4.block i (by omega) hi⟩
end Go.Proofs.YtmkhgjccoolfjaaGreatDoor
end
section
namespace Go.Proofs.YtmkhgjccoolfjaaGreatDoor
open Go Tryz
def low : Nat → Nat → List UInt8
 | 0,_=>[]
 | k + 1,v=>UInt8.ofNat (48 + v % 10) :: low k (v / 10)
theorem ag5 (k v : Nat) : (low k v).length = k:=by
 induction k generalizing v with
 | zero=>rfl
 | succ k ih=>simp [low,ih]
theorem ao3 (j k v : Nat) : low (j + k) v = low j v ++ low k (v / 10 ^ j):=by
 induction j generalizing v with
 | zero=>simp [low]
 | succ j ih=>
  rw [show j + 1 + k = (j + k) + 1 by omega,low,ih,low,List.cons_append,Nat.div_div_eq_div_mul,Nat.pow_succ,Nat.mul_comm (10 ^ j)]
theorem dr8 (k v : Nat) : low k (v % 10 ^ k) = low k v:=by
 induction k generalizing v with
 | zero=>rfl
 | succ k ih=>
  have h1 : v % 10 ^ (k + 1) % 10 = v % 10:=Nat.mod_mod_of_dvd _ ⟨10 ^ k,by rw [Nat.pow_succ,Nat.mul_comm]⟩
  have h2 : v % 10 ^ (k + 1) / 10 = v / 10 % 10 ^ k:=by
   rw [Nat.pow_succ,Nat.mul_comm,Nat.mod_mul_right_div_self]
  rw [low,low,h1,h2,ih]
theorem c78 (k : Nat) : low k 0 = List.replicate k 48:=by
 induction k with
 | zero=>rfl
 | succ k ih=>simp [low,ih,List.replicate_succ]
theorem be8 (u : Nat) : (Lib.decDigits u).reverse = low (Lib.nDigits u) u:=by
 induction u using Nat.strongRecOn with
 | _ u ih=>
  rw [Lib.decDigits,Lib.nDigits]
  by_cases h : u < 10
  ·simp [dif_pos h,low,Nat.mod_eq_of_lt h]
  simp only [dif_neg h,List.reverse_append,List.reverse_cons,List.reverse_nil,List.nil_append,List.cons_append,low]
  rw [ih (u / 10) (by omega)]
theorem do0 {u k : Nat} (h : Lib.nDigits u ≤ k) : low k u = (Lib.decDigits u).reverse ++ List.replicate (k - Lib.nDigits u) 48:=by
 obtain ⟨j,rfl⟩ : ∃ j,k = Lib.nDigits u + j:=⟨k - Lib.nDigits u,by omega⟩
 rw [ao3,be8,Nat.div_eq_of_lt (Lib.lt_pow_nDigits u),c78,Nat.add_sub_cancel_left]
theorem c24 {a b k : Nat} (ha : 0 < a) (hb : b < 10 ^ k) : Lib.decDigits (a * 10 ^ k + b) = Lib.decDigits a ++ (low k b).reverse:=by
 induction k generalizing b with
 | zero=>
  obtain rfl : b = 0:=by simpa using hb
  simp [low]
 | succ k ih=>
  have hp : 0 < 10 ^ k:=Nat.pow_pos (by decide)
  have h0 : a * 10 ^ k * 10 = a * 10 ^ (k + 1):=by rw [Nat.pow_succ,Nat.mul_assoc]
  have h1 : 10 ^ k ≤ a * 10 ^ k:=Nat.le_mul_of_pos_left _ ha
  have h2 : (a * 10 ^ (k + 1) + b) / 10 = a * 10 ^ k + b / 10:=by omega
  have h3 : (a * 10 ^ (k + 1) + b) % 10 = b % 10:=by omega
  rw [Lib.decDigits,dif_neg (by omega),h2,h3,ih (by rw [Nat.pow_succ] at hb; omega),low]
  simp
theorem ao8 {u k : Nat} (hk : 0 < k) (h : u < 10 ^ k) : Lib.nDigits u ≤ k:=by
 induction k generalizing u with
 | zero=>omega
 | succ k ih=>
  by_cases h1 : u < 10
  ·rw [Lib.nDigits_small h1]; omega
  ·rw [Lib.nDigits_big h1]
   rw [Nat.pow_succ] at h
   rcases Nat.eq_zero_or_pos k with e | e
   ·subst e; simp at h; omega
   ·have:=ih (u:=u / 10) e (by omega)
    omega
theorem fc8 {b : Nat} (hb : b < 1000000000) : (low 9 b).reverse = List.replicate (9 - Lib.nDigits b) 48 ++ Lib.decDigits b:=by
 rw [do0 (ao8 (by omega) (by omega : b < 10 ^ 9))]
 simp
theorem de8 {a b : Nat} (ha : 0 < a) (hb : b < 1000000000) : Lib.decDigits (b + 1000000000 * a) = Lib.decDigits a ++ (List.replicate (9 - Lib.nDigits b) 48 ++ Lib.decDigits b):=by
 rw [← fc8 hb,← c24 ha (by omega : b < 10 ^ 9)]
 congr 1
 omega
theorem an9 {b : Nat} (hb : b < 1000000000) : Lib.nDigits b ≤ 9:=ao8 (by omega) (by omega : b < 10 ^ 9)
theorem af4 (k : Nat) : 1000000000 ^ k = 10 ^ (9 * k):=by rw [Nat.pow_mul]
theorem az0 {n : Nat} (h : 0 < n) : Lib.nDigits n ≤ 9 * dl n:=by
 have h1:=F8 n
 rw [af4] at h1
 have:=bx3 (n:=n) (by omega)
 exact ao8 (by omega) h1
theorem cn2 {k v i : Nat} (h : i < k) : (low k v)[i]? = some (UInt8.ofNat (48 + v / 10 ^ i % 10)):=by
 induction k generalizing v i with
 | zero=>omega
 | succ k ih=>
  cases i with
  | zero=>simp [low]
  | succ i=>rw [low,List.getElem?_cons_succ,ih (by omega),Nat.div_div_eq_div_mul,Nat.pow_succ,Nat.mul_comm 10]
theorem c16 (k v : Nat) : low (k + 1) v = low k v ++ [UInt8.ofNat (48 + v / 10 ^ k % 10)]:=by
 rw [ao3]
 rfl
theorem bh6 {n : Nat} (h : 0 < n) : n / 10 ^ (Lib.nDigits n - 1) % 10 ≠ 0:=by
 induction n using Nat.strongRecOn with
 | _ n ih=>
  by_cases h1 : n < 10
  ·rw [Lib.nDigits_small h1]; simp; omega
  have h2:=ih (n / 10) (by omega) (by omega)
  have h3:=Lib.nDigits_pos (n / 10)
  rw [Lib.nDigits_big h1,Nat.add_sub_cancel]
  obtain ⟨j,hj⟩ : ∃ j,Lib.nDigits (n / 10) = j + 1:=⟨Lib.nDigits (n / 10) - 1,by omega⟩
  rw [hj] at h2 ⊢
  rw [Nat.add_sub_cancel] at h2
  rw [Nat.pow_succ,Nat.mul_comm,← Nat.div_div_eq_div_mul]
  exact h2
theorem b56 {n k : Nat} (h : Lib.nDigits n ≤ k) : n / 10 ^ k % 10 = 0:=by
 have h1:=Lib.lt_pow_nDigits n
 have h2 : 10 ^ Lib.nDigits n ≤ 10 ^ k:=Nat.pow_le_pow_right (by omega) h
 rw [Nat.div_eq_of_lt (by omega)]
theorem bl5 (n : Nat) : ∀ i,(dg n).getD i 0 = n / 1000000000 ^ i % 1000000000:=by
 induction n using Nat.strongRecOn with
 | _ n ih=>
  intro i
  by_cases h : n = 0
  ·subst h; simp [ai0]
  rw [aj7 h]
  cases i with
  | zero=>simp
  | succ i=>rw [List.getD_cons_succ,ih _ (by omega),Nat.div_div_eq_div_mul,Nat.pow_succ,Nat.mul_comm 1000000000]
theorem c77 (n i : Nat) : low (9 * (i + 1)) n = low (9 * i) n ++ low 9 ((dg n).getD i 0):=by
 rw [Nat.mul_add,ao3,bl5,← af4]
 congr 1
 exact (dr8 9 _).symm
end Go.Proofs.YtmkhgjccoolfjaaGreatDoor
end
section
namespace Go.Proofs
open Go.Shelf
def Tryz.lays169_ren : Go.Shelf.Ren:=⟨fun | 169=>182 | n=>n,fun | 70=>218 | 9=>9 | 0=>0 | 72=>221 | 37=>219 | 127=>242 | 3=>3 | 5=>5 | n=>n,fun | n=>n⟩
theorem Tryz.lays169 : Go.Proofs.Lays.n169 Tryz.prog Tryz.lays169_ren:={
 mixed:=by kernel_rfl
 f169:=Tryz.func182.trans (congrArg some (by kernel_rfl))
 t0:=Tryz.underlying0
 a0:=Tryz.isAgg0
 z0:=Tryz.sizeOf0
 v0:=Tryz.zeroValue0
 t3:=Tryz.underlying3
 a3:=Tryz.isAgg3
 z3:=Tryz.sizeOf3
 v3:=Tryz.zeroValue3
 t9:=Tryz.underlying9
 a9:=Tryz.isAgg9
 z9:=Tryz.sizeOf9
 v9:=Tryz.zeroValue9
 t37:=Tryz.underlying219
 a37:=Tryz.isAgg219
 z37:=Tryz.sizeOf219
 v37:=Tryz.zeroValue219
 t70:=Tryz.underlying218
 a70:=Tryz.isAgg218
 z70:=Tryz.sizeOf218
 v70:=Tryz.zeroValue218
 t72:=Tryz.underlying221
 a72:=Tryz.isAgg221
 z72:=Tryz.sizeOf221
 v72:=Tryz.zeroValue221
 t127:=Tryz.underlying242
 a127:=Tryz.isAgg242
 z127:=Tryz.sizeOf242
 v127:=Tryz.zeroValue242 }
theorem Tryz.Builder_Extra_169 : Builder.Extra Tryz.prog Tryz.lays169_ren:={
 sizeBuilder:=by kernel_rfl
 liesBuilder:=by kernel_rfl
 t5:=Tryz.underlying5
 a5:=Tryz.isAgg5
 z5:=Tryz.sizeOf5
 v5:=Tryz.zeroValue5
 infoByte:=by kernel_rfl
 cellsByte:=by kernel_rfl
 sizeByte:=by kernel_rfl
 neB5:=by decide }
open Go.RowKit in
theorem Tryz.Builder_String_any (B b : Nat) (l : List UInt8) (w : World) (h : Lib.IsBuilder 221 5 B b (Lib.byteCells l) w) (hBw : B ≤ w.heap.size) :
  Calls Tryz.prog 182 #[.pointer (some ⟨b,0,none⟩)] w fun e w'=>e = .returned (.string ⟨l.toArray⟩) ∧ Below B w w':=Any.Builder_String_any Tryz.lays169 Tryz.Builder_Extra_169 B b l w h hBw
def Tryz.laysM171_ren : Go.Shelf.Ren:=⟨fun | 171=>180 | 243=>203 | 246=>228 | 283=>250 | 284=>251 | 285=>252 | 286=>253 | 129=>264 | 317=>263 | 318=>265 | 319=>266 | 320=>267 | 337=>272 | 338=>273 | n=>n,fun | 3=>3 | 9=>9 | 2=>2 | 4=>4 | 171=>280 | 0=>0 | 53=>197 | 37=>219 | 5=>5 | 173=>283 | 212=>295 | 51=>227 | 20=>20 | 213=>296 | 46=>46 | 232=>309 | 233=>310 | n=>n,fun | 17=>3 | 18=>6 | 19=>7 | n=>n⟩
theorem Tryz.laysM171 : Go.Proofs.LaysM.n171 Tryz.prog Tryz.laysM171_ren:={
 mixed:=by kernel_rfl
 f129:=Tryz.func264.trans (congrArg some (by kernel_rfl))
 f171:=Tryz.func180.trans (congrArg some (by kernel_rfl))
 f243:=Tryz.func203.trans (congrArg some (by kernel_rfl))
 f246:=Tryz.func228.trans (congrArg some (by kernel_rfl))
 f283:=Tryz.func250.trans (congrArg some (by kernel_rfl))
 f284:=Tryz.func251.trans (congrArg some (by kernel_rfl))
 f285:=Tryz.func252.trans (congrArg some (by kernel_rfl))
 f286:=Tryz.func253.trans (congrArg some (by kernel_rfl))
 f317:=Tryz.func263.trans (congrArg some (by kernel_rfl))
 f318:=Tryz.func265.trans (congrArg some (by kernel_rfl))
 f319:=Tryz.func266.trans (congrArg some (by kernel_rfl))
 f320:=Tryz.func267.trans (congrArg some (by kernel_rfl))
 f337:=Tryz.func272.trans (congrArg some (by kernel_rfl))
 f338:=Tryz.func273.trans (congrArg some (by kernel_rfl))
 t0:=Tryz.underlying0
 a0:=Tryz.isAgg0
 z0:=Tryz.sizeOf0
 v0:=Tryz.zeroValue0
 t2:=Tryz.underlying2
 a2:=Tryz.isAgg2
 z2:=Tryz.sizeOf2
 v2:=Tryz.zeroValue2
 t3:=Tryz.underlying3
 a3:=Tryz.isAgg3
 z3:=Tryz.sizeOf3
 v3:=Tryz.zeroValue3
 t4:=Tryz.underlying4
 a4:=Tryz.isAgg4
 z4:=Tryz.sizeOf4
 v4:=Tryz.zeroValue4
 t5:=Tryz.underlying5
 a5:=Tryz.isAgg5
 z5:=Tryz.sizeOf5
 v5:=Tryz.zeroValue5
 t9:=Tryz.underlying9
 a9:=Tryz.isAgg9
 z9:=Tryz.sizeOf9
 v9:=Tryz.zeroValue9
 t20:=Tryz.underlying20
 a20:=Tryz.isAgg20
 z20:=Tryz.sizeOf20
 v20:=Tryz.zeroValue20
 t37:=Tryz.underlying219
 a37:=Tryz.isAgg219
 z37:=Tryz.sizeOf219
 v37:=Tryz.zeroValue219
 t46:=Tryz.underlying46
 a46:=Tryz.isAgg46
 z46:=Tryz.sizeOf46
 v46:=Tryz.zeroValue46
 t51:=Tryz.underlying227
 a51:=Tryz.isAgg227
 z51:=Tryz.sizeOf227
 v51:=Tryz.zeroValue227
 t53:=Tryz.underlying197
 a53:=Tryz.isAgg197
 z53:=Tryz.sizeOf197
 v53:=Tryz.zeroValue197
 t171:=Tryz.underlying280
 a171:=Tryz.isAgg280
 z171:=Tryz.sizeOf280
 v171:=Tryz.zeroValue280
 t173:=Tryz.underlying283
 a173:=Tryz.isAgg283
 z173:=Tryz.sizeOf283
 v173:=Tryz.zeroValue283
 t212:=Tryz.underlying295
 a212:=Tryz.isAgg295
 z212:=Tryz.sizeOf295
 v212:=Tryz.zeroValue295
 t213:=Tryz.underlying296
 a213:=Tryz.isAgg296
 z213:=Tryz.sizeOf296
 t232:=Tryz.underlying309
 a232:=Tryz.isAgg309
 z232:=Tryz.sizeOf309
 v232:=Tryz.zeroValue309
 t233:=Tryz.underlying310
 a233:=Tryz.isAgg310
 z233:=Tryz.sizeOf310
 v233:=Tryz.zeroValue310
 g17:=by kernel_rfl
 g18:=by kernel_rfl
 g19:=by kernel_rfl
 i0:=by kernel_rfl
 i2:=by kernel_rfl
 i3:=by kernel_rfl
 i4:=by kernel_rfl
 i5:=by kernel_rfl
 i9:=by kernel_rfl
 i20:=by kernel_rfl
 i37:=by kernel_rfl
 i46:=by kernel_rfl
 i51:=by kernel_rfl
 i53:=by kernel_rfl
 i171:=by kernel_rfl
 i173:=by kernel_rfl
 i212:=by kernel_rfl
 i232:=by kernel_rfl
 i233:=by kernel_rfl
 m17:=by kernel_rfl
 m18:=by kernel_rfl
 m19:=by kernel_rfl }
open Go.RowKit Go.Sort Go.Lib in
theorem Tryz.strconv_Itoa (n : Int) (h0 : -9223372036854775808 ≤ n) (h1 : n ≤ 9223372036854775807) (w : World) (htab : Lib.TabIs Tryz.prog w "internal/strconv.uint64pow10" .u64 Lib.pow10Tab) :
  Calls Tryz.prog 180 #[.int .i64 n] w fun e w'=>e = .returned (.string ⟨(Lib.itoa n).toArray⟩) ∧ ∃ k os,w' = grow (w.drewN k) os:=Any.strconv_Itoa Tryz.laysM171 n h0 h1 w htab
def Tryz.lays105_ren : Go.Shelf.Ren:=⟨fun | 105=>181 | 212=>204 | 99=>205 | 165=>206 | 166=>179 | 170=>207 | 169=>182 | 263=>229 | 264=>230 | 206=>217 | 240=>202 | 241=>231 | 276=>227 | 277=>254 | n=>n,fun | 9=>9 | 3=>3 | 4=>4 | 20=>20 | 0=>0 | 46=>46 | 109=>238 | 5=>5 | 72=>221 | 76=>224 | 51=>227 | 146=>262 | 53=>197 | 148=>264 | 70=>218 | 37=>219 | 75=>223 | 127=>242 | 164=>259 | 80=>132 | n=>n,fun | n=>n⟩
theorem Tryz.lays105 : Go.Proofs.Lays.n105 Tryz.prog Tryz.lays105_ren:={
 mixed:=by kernel_rfl
 f99:=Tryz.func205.trans (congrArg some (by kernel_rfl))
 f105:=Tryz.func181.trans (congrArg some (by kernel_rfl))
 f165:=Tryz.func206.trans (congrArg some (by kernel_rfl))
 f166:=Tryz.func179.trans (congrArg some (by kernel_rfl))
 f169:=Tryz.func182.trans (congrArg some (by kernel_rfl))
 f170:=Tryz.func207.trans (congrArg some (by kernel_rfl))
 f206:=Tryz.func217.trans (congrArg some (by kernel_rfl))
 f212:=Tryz.func204.trans (congrArg some (by kernel_rfl))
 f240:=Tryz.func202.trans (congrArg some (by kernel_rfl))
 f241:=Tryz.func231.trans (congrArg some (by kernel_rfl))
 f263:=Tryz.func229.trans (congrArg some (by kernel_rfl))
 f264:=Tryz.func230.trans (congrArg some (by kernel_rfl))
 f276:=Tryz.func227.trans (congrArg some (by kernel_rfl))
 f277:=Tryz.func254.trans (congrArg some (by kernel_rfl))
 t0:=Tryz.underlying0
 a0:=Tryz.isAgg0
 z0:=Tryz.sizeOf0
 v0:=Tryz.zeroValue0
 t3:=Tryz.underlying3
 a3:=Tryz.isAgg3
 z3:=Tryz.sizeOf3
 v3:=Tryz.zeroValue3
 t4:=Tryz.underlying4
 a4:=Tryz.isAgg4
 z4:=Tryz.sizeOf4
 v4:=Tryz.zeroValue4
 t5:=Tryz.underlying5
 a5:=Tryz.isAgg5
 z5:=Tryz.sizeOf5
 v5:=Tryz.zeroValue5
 t9:=Tryz.underlying9
 a9:=Tryz.isAgg9
 z9:=Tryz.sizeOf9
 v9:=Tryz.zeroValue9
 t20:=Tryz.underlying20
 a20:=Tryz.isAgg20
 z20:=Tryz.sizeOf20
 v20:=Tryz.zeroValue20
 t37:=Tryz.underlying219
 a37:=Tryz.isAgg219
 z37:=Tryz.sizeOf219
 v37:=Tryz.zeroValue219
 t46:=Tryz.underlying46
 a46:=Tryz.isAgg46
 z46:=Tryz.sizeOf46
 v46:=Tryz.zeroValue46
 t51:=Tryz.underlying227
 a51:=Tryz.isAgg227
 z51:=Tryz.sizeOf227
 v51:=Tryz.zeroValue227
 t53:=Tryz.underlying197
 a53:=Tryz.isAgg197
 z53:=Tryz.sizeOf197
 v53:=Tryz.zeroValue197
 t70:=Tryz.underlying218
 a70:=Tryz.isAgg218
 z70:=Tryz.sizeOf218
 v70:=Tryz.zeroValue218
 t72:=Tryz.underlying221
 a72:=Tryz.isAgg221
 z72:=Tryz.sizeOf221
 v72:=Tryz.zeroValue221
 t75:=Tryz.underlying223
 a75:=Tryz.isAgg223
 z75:=Tryz.sizeOf223
 v75:=Tryz.zeroValue223
 t76:=Tryz.underlying224
 a76:=Tryz.isAgg224
 z76:=Tryz.sizeOf224
 v76:=Tryz.zeroValue224
 t109:=Tryz.underlying238
 a109:=Tryz.isAgg238
 z109:=Tryz.sizeOf238
 v109:=Tryz.zeroValue238
 t127:=Tryz.underlying242
 a127:=Tryz.isAgg242
 z127:=Tryz.sizeOf242
 v127:=Tryz.zeroValue242
 t146:=Tryz.underlying262
 a146:=Tryz.isAgg262
 z146:=Tryz.sizeOf262
 v146:=Tryz.zeroValue262
 t148:=Tryz.underlying264
 a148:=Tryz.isAgg264
 z148:=Tryz.sizeOf264
 v148:=Tryz.zeroValue264
 t164:=Tryz.underlying259
 a164:=Tryz.isAgg259
 z164:=Tryz.sizeOf259
 v164:=Tryz.zeroValue259 }
theorem Tryz.Builder_Extra_105 : Builder.Extra Tryz.prog Tryz.lays105_ren:={
 sizeBuilder:=by kernel_rfl
 liesBuilder:=by kernel_rfl
 t5:=Tryz.underlying5
 a5:=Tryz.isAgg5
 z5:=Tryz.sizeOf5
 v5:=Tryz.zeroValue5
 infoByte:=by kernel_rfl
 cellsByte:=by kernel_rfl
 sizeByte:=by kernel_rfl
 neB5:=by decide }
open Go.RowKit Go.Lib in
theorem Tryz.strings_Repeat (s : ByteArray) (c : Nat) (w : World) (hc : c ≤ 9223372036854775807) (hlen : s.size * c ≤ 140737488355328) :
  Calls Tryz.prog 181 #[.string s,.int .i64 c] w fun e w'=>e = .returned (.string ⟨(Lib.repeatL s.data.toList c).toArray⟩) ∧ Below w.heap.size w w':=Any.strings_Repeat Tryz.lays105 Tryz.Builder_Extra_105 s c w hc hlen
end Go.Proofs
end
section
namespace Go.Proofs.YtmkhgjccoolfjaaGreatDoor
open Go Go.RowKit Tryz
def Tab (w : World) : Prop := Lib.TabIs prog w "internal/strconv.uint64pow10" .u64 Lib.pow10Tab
theorem Tab.to {w w' : World} (h : Tab w) (k : Ext w w') : Tab w':=by
 unfold Tab Lib.TabIs World.var? at *
 cases hg : (prog).globalNamed "internal/strconv.uint64pow10" with
 | none=>simp [hg] at h
 | some g=>
  simp only [hg,Option.bind_eq_bind,Option.bind_some] at h ⊢
  cases hb : w.heap[g]? with
  | none=>rw [hb] at h; cases h
  | some o=>
   rw [k.block g (Array.getElem?_eq_some_iff.1 hb).1 trivial]
   exact h
theorem dh1 {w : World} {k : Nat} {os : Array Obj} : Ext w (Sort.grow (w.drewN k) os):=by
 refine ⟨rfl,rfl,rfl,?_,fun i hi _=>?_⟩
 ·simp [Sort.grow,World.drewN]
 exact Sort.heap_grow_old (w.drewN k) os (by simpa [World.drewN] using hi)
theorem c08 {w : World} (ht : Tab w) {n : Nat} (hn : n ≤ 9223372036854775807) :
  Gives prog 180 [.int .i64 (n : Int)] w fun v' w'=>v' = G5 (Lib.decDigits n) ∧ Ext w w':=
 Calls.mono (Tryz.strconv_Itoa (n : Int) (by omega) (by omega) w ht) fun e w' ⟨he,k,os,hw⟩=>⟨_,he,by rw [Lib.itoa_nonneg],hw ▸ dh1⟩
theorem b26 (c : Nat) : Lib.repeatL [48] c = List.replicate c 48:=by
 induction c with
 | zero=>rfl
 | succ c ih=>
  rw [List.replicate_succ,← ih]
  rfl
theorem c18 {w : World} {c : Nat} (hc : c ≤ 1000000) :
  Gives prog 181 [G5 [48],.int .i64 (c : Int)] w fun v' w'=>v' = G5 (List.replicate c 48) ∧ Ext w w':=
 Calls.mono (Tryz.strings_Repeat ⟨[48].toArray⟩ c w (by omega) (by show 1 * c ≤ _; omega)) fun e w' ⟨he,hw⟩=>⟨_,he,by show Value.string ⟨(Lib.repeatL [48] c).toArray⟩ = _; rw [b26],.of_below hw⟩
theorem bn6 {B b : Nat} {l : List UInt8} {w : World} (h : BuiltF B b l w) (hBw : B ≤ w.heap.size) :
  Gives prog 182 [.pointer (some ⟨b,0,none⟩)] w fun v' w'=>v' = G5 l ∧ Below B w w':=
 Calls.mono (Tryz.Builder_String_any B b l w h hBw) fun e w' ⟨he,hw⟩=>⟨_,he,rfl,hw⟩
section rules
variable {P : Program} {n : Nat} {Q : G3} {ρ : Fr} {w : World} {all rest : List Oper} {d : Tmp} {ty : TypeId} {pos : String} {aft : Array Edge}
theorem a82 {t : TypeId} [st : StrT P t] {x : Operand} {l : List UInt8} (hv : ev ρ x = G5 l)
  (h : WpR P n all Q rest (upd ρ d (.int .i64 (l.length : Nat))) w) : WpR P n all Q (⟨some d,.call ⟨.builtin .len,#[x],#[t]⟩,ty,pos,aft,none⟩ :: rest) ρ w:=by
 refine bp4 hv ?_
 have e : (⟨l.toArray⟩ : ByteArray).size = l.length:=by show l.toArray.size = _; simp
 rw [e]
 exact h
theorem bb8 {T : TypeId} {b : Nat} {z : Value} [ti : TyI P T 1 b z false] {x : Operand} {S : Nat → Prop} {v : Value} {j : Nat} {l : List Nat} {k : IntKind} (i : Nat)
  (hx : ev ρ x = .pointer (some (adr v j))) (hj : j = i) (hr : Sl S T k w v l) (hi : i < l.length) (h : WpR P n all Q rest (upd ρ d (.int k (l.getD i 0 : Nat))) w) :
  WpR P n all Q (⟨some d,.load T x,ty,pos,aft,none⟩ :: rest) ρ w:=by
 subst hj
 exact s6 hx hr hi h
end rules
theorem BuiltF.to {B b : Nat} {l : List UInt8} {w w' : World} (h : BuiltF B b l w) (k : Ext w w') : BuiltF B b l w':=by
 have one : ∀ p,Lib.BuilderAt 221 5 B b p (Lib.byteCells l) w → Lib.BuilderAt 221 5 B b p (Lib.byteCells l) w':=by
  rintro p ⟨hB,v,hb,hown,hne⟩
  exact ⟨hB,v,(k.block b (Array.getElem?_eq_some_iff.1 hb).1 trivial).trans hb,ab2 hown k,hne⟩
 exact h.imp (one _) (one _)
theorem a86 {w w1 w2 : World} {g : Nat} (h : Ext w w1) (hg : w.heap.size ≤ g) (k : Below g w1 w2) : Ext w w2:=
 ⟨k.os.trans h.os,k.tape.trans h.tape,k.output.trans h.output,Nat.le_trans h.size k.size,fun i hi _=>(k.block i (by omega)).trans (h.block i hi trivial)⟩
theorem ce5 {a k : Nat} (h : k < dl a) : 0 < a / 1000000000 ^ k:=by
 have hc:=af9 a
 have h1:=W8 hc (by intro e; unfold dl at h; rw [e] at h; simp at h)
 rw [A0] at h1
 have h2 : 1000000000 ^ k ≤ 1000000000 ^ ((dg a).length - 1):=Nat.pow_le_pow_right (by omega) (by unfold dl at h; omega)
 exact Nat.div_pos (by omega) (Nat.pow_pos (by omega))
theorem bg1 (a k : Nat) : a / 1000000000 ^ k = (dg a).getD k 0 + 1000000000 * (a / 1000000000 ^ (k + 1)):=by
 rw [bl5,Nat.pow_succ,← Nat.div_div_eq_div_mul]
 omega
theorem cl6 {a : Nat} (h : 0 < dl a) : a / 1000000000 ^ (dl a - 1) = (dg a).getD (dl a - 1) 0:=by
 have h1:=bg1 a (dl a - 1)
 rw [show dl a - 1 + 1 = dl a by omega,Nat.div_eq_of_lt (F8 a)] at h1
 omega
theorem b85 (a k : Nat) (h : 0 < dl a) : Lib.nDigits (a / 1000000000 ^ k) ≤ 9 * dl a:=by
 refine ao8 (by omega) ?_
 have h1:=F8 a
 rw [af4] at h1
 exact Nat.lt_of_le_of_lt (Nat.div_le_self ..) h1
theorem cd9 {S : Nat → Prop} {w : World} {va : Value} {a : Nat} (ht : Tab w) (ha : y6 S 227 .u32 w va a) (hl : dl a ≤ 1099511627776) :
  Gives prog 134 [va] w fun v' w'=>v' = G5 (Lib.decDigits a) ∧ Ext w w':=by
 have hdl : dl a = (dg a).length:=rfl
 rw [hdl] at hl
 refine l7 func134 rfl rfl rfl ?_
 repeat (first | refine wW ?_ | refine d7 ?_ | refine B5 (by conv=>(lhs; whnf)) (by assumption) ?_ | refine ac6 rfl rfl ?_)
 try refine i7 ?_
 refine j4 rfl ?_ ?_ <;> intro hc
 ·repeat (first | refine wW ?_ | refine r8 ?_)
  refine q5 rfl ⟨?_,.refl⟩
  have h0 : a = 0:=K6.1 (by omega)
  subst h0
  rw [Lib.decDigits_one (by decide)]
  rfl
 ·repeat (first | refine wW ?_ | refine wp_skip ?_)
  refine r5 (cs:=[.pointer none,.slice none 0 0]) rfl ?_
  intro w1 g k1 hg hgs
  have hgl:=hg.lt
  have ha0:=ha
  replace ha:=ha.to k1
  repeat (first | refine wW ?_ | refine B5 (by conv=>(lhs; whnf)) (by assumption) ?_ | refine A3 rfl rfl ?_ | refine bt7 (by conv=>(lhs; whnf)) rfl (by assumption) (by omega) (by omega) ?_)
  refine bb8 ((dg a).length - 1) rfl (by omega) ha (by omega) ?_
  have hd:=N1 a ((dg a).length - 1)
  repeat (first | refine Q5 rfl (wrap_i64 (by omega) (by omega)) ?_)
  refine j1 (c08 (ht.to k1) (by omega)) rfl ?_
  rintro v2 w2 ⟨rfl,k2⟩
  have hb0 : BuiltF g g [] w2:=.inl ⟨Nat.le_refl g,_,(hg.to k2),ai2,by simp [Value.ownBlock]⟩
  have hk2:=k2.size
  have hn9:=an9 hd
  refine j1 (aw8 hb0 (by rw [List.length_nil,Lib.decDigits_length]; omega) (by omega)) rfl ?_
  rintro v3 w3 ⟨hb3,k3⟩
  rw [List.nil_append,← hdl,← cl6 (by omega)] at hb3
  have hk3:=k3.size
  have kk : Ext w w3:=a86 (k1.trans k2) hgs k3
  repeat (first | refine wW ?_ | refine d7 ?_ | refine B5 (by conv => (lhs; whnf)) (by assumption) ?_ | refine A3 rfl rfl ?_)
  try refine o9 ?_
  refine H3 [(4,5),(21,37)] (fun k ρ w'=>ρ 4 = .int .i64 ((k : Int) - 1) ∧ k < dl a ∧ BuiltF g g (Lib.decDigits (a / 1000000000 ^ k)) w' ∧ Ext w w' ∧ g < w'.heap.size) (dl a - 1) ?_ ?_
  ·exact ⟨congrArg (Value.int .i64) (by omega),by omega,hb3,kk,by omega⟩
  rintro k u w4 ⟨h4,hk,hb4,k4,hg4⟩
  refine j9 4 h4 ?_
  repeat (first | refine wW ?_ | refine d7 ?_ | refine aj0 rfl rfl ?_)
  try refine i7 ?_
  refine j4 rfl ?_ ?_ <;> intro hc2
  ·have ha4:=ha0.to k4
   clear ha
   obtain ⟨i,rfl⟩ : ∃ i,k = i + 1:=⟨k - 1,by omega⟩
   have hd4:=N1 a i
   have hn4:=an9 hd4
   have hnd:=b85 a (i + 1) (by omega)
   repeat (first | refine wW ?_ | refine B4 ?_ | refine r6 ?_ | refine wp_skip ?_ | refine bt7 (by conv=>(lhs; whnf)) rfl (by assumption) (by omega) (by omega) ?_)
   refine bb8 i rfl (by omega) ha4 (by omega) ?_
   repeat (first | refine Q5 rfl (wrap_i64 (by omega) (by omega)) ?_)
   refine j1 (c08 (ht.to k4) (by omega)) rfl ?_
   rintro v5 w5 ⟨rfl,k5⟩
   have hlen:=Lib.decDigits_length ((dg a).getD i 0)
   repeat (first | refine a82 rfl ?_ | refine wW ?_ | refine A3 rfl rfl ?_)
   refine j1 (c18 (c:=9 - Lib.nDigits ((dg a).getD i 0)) (by omega)) ?_ ?_
   ·exact cl9 rfl (congrArg (Value.int .i64) (by omega))
   rintro v6 w6 ⟨rfl,k6⟩
   repeat (first | refine r7 ?_)
   refine bq5 rfl rfl (by rw [List.length_replicate,Lib.decDigits_length]; omega) ?_
   have hb6 : BuiltF g g (Lib.decDigits (a / 1000000000 ^ (i + 1))) w6:=hb4.to (k5.trans k6)
   have hk5:=k5.size
   have hk6:=k6.size
   refine j1 (aw8 hb6 (by rw [List.length_append,List.length_replicate,Lib.decDigits_length,Lib.decDigits_length]; omega) (by omega)) rfl ?_
   rintro v7 w7 ⟨hb7,k7⟩
   have hk7:=k7.size
   repeat (first | refine wW ?_ | refine A3 rfl rfl ?_)
   refine ⟨by (repeat (first | refine j2 rfl ?_ | exact i6 | refine j3 rfl ?_ | exact f5)),i,by omega,congrArg (Value.int .i64) (by omega),by omega,?_,a86 ((k4.trans k5).trans k6) hgs k7,by omega⟩
   rw [bg1 a i,de8 (ce5 (by omega)) hd4]
   exact hb7
  repeat (first | refine wW ?_ | refine wp_exit ?_)
  refine j1 (bn6 hb4 (by omega)) rfl ?_
  rintro v5 w5 ⟨rfl,k5⟩
  repeat refine wW ?_
  refine q5 rfl ⟨?_,a86 k4 hgs k5⟩
  obtain rfl : k = 0:=by omega
  simp
theorem bj7 {S : Nat → Prop} {w : World} {va : Value} {a : Int} (ht : Tab w) (ha : IntV S 227 .u32 w va a) (hl : zl a ≤ 1099511627776) :
  Gives prog 133 [va] w fun v' w'=>v' = G5 (Lib.itoa a) ∧ Ext w w':=by
 obtain ⟨ma,rfl,ha⟩:=ha
 have hn : Lib.nDigits a.natAbs ≤ 9 * 1099511627776:=by
  by_cases h0 : a.natAbs = 0
  ·rw [h0,Lib.nDigits_small (by decide)]; decide
  have:=az0 (n:=a.natAbs) (by omega)
  unfold zl at hl
  omega
 refine l7 func133 rfl rfl rfl ?_
 repeat refine wW ?_
 refine z8 (cs:=[.bool (tst (a < 0)),ma]) rfl ?_
 intro w1 g k1 hg hgs
 repeat (first | refine i1 rfl hg rfl ?_ | refine wW ?_ | refine d7 ?_ | refine l6 rfl ?_)
 try refine i7 ?_
 refine j4 rfl ?_ ?_ <;> intro hc
 ·repeat (first | refine i1 rfl hg rfl ?_ | refine wW ?_ | refine l6 rfl ?_)
  refine j1 (cd9 (ht.to k1) (ha.to k1) hl) rfl ?_
  rintro v2 w2 ⟨rfl,k2⟩
  refine bq5 (a:=[45]) rfl rfl (by rw [Lib.decDigits_length]; simp; omega) ?_
  repeat (first | refine wW ?_ | refine r8 ?_)
  exact X5 rfl (by conv=>(lhs; whnf)) ⟨by unfold Lib.itoa; rw [if_pos hc]; rfl,k1.trans k2⟩
 repeat (first | refine i1 rfl hg rfl ?_ | refine wW ?_ | refine wp_skip ?_ | refine l6 rfl ?_)
 refine j1 (cd9 (ht.to k1) (ha.to k1) hl) rfl ?_
 rintro v2 w2 ⟨rfl,k2⟩
 repeat refine wW ?_
 exact X5 rfl (by conv=>(lhs; whnf)) ⟨by unfold Lib.itoa; rw [if_neg hc,show a.natAbs = a.toNat by omega],k1.trans k2⟩
abbrev ZV (S : Nat → Prop) (w : World) (v : Value) (z : Int) : Prop:=IntV S 3 .i64 w v z
abbrev zE (S : Nat → Prop) (z : Int) : Ent:=am8 S 3 .i64 z
abbrev nE (S : Nat → Prop) (n : Nat) : Ent:=ar8 S 3 .i64 n
theorem ay4 {S : Nat → Prop} {w : World} {vm : Value} {n : Nat} {p : Prop} (z : Int) (hm : y6 S 3 .i64 w vm n) (ha : z.natAbs = n) (hp : z < 0 ↔ p ∧ 0 < n) :
  Gives prog 154 [.bool (tst p),vm] w fun v' w'=>Ext w w' ∧ ZV S w' v' z:=by
 subst ha
 refine l7 func154 rfl rfl rfl ?_
 repeat refine wW ?_
 refine r5 (cs:=[.bool false,.slice none 0 0]) rfl ?_
 intro w1 g k1 hg hgs
 have hm0:=hm
 replace hm:=hm.to k1
 have hdl : 0 < (dg z.natAbs).length ↔ 0 < z.natAbs:=by
  have:=@K6 z.natAbs
  unfold dl at this
  omega
 repeat refine wW ?_
 refine G4 rfl rfl ?_ ?_ <;> intro hc
 ·repeat (first | refine r7 ?_ | refine B5 (by conv=>(lhs; whnf)) (by assumption) ?_ | refine r4 rfl rfl ?_ | refine s9 rfl ?_ | refine Z3 rfl rfl ?_)
  refine al5 (by conv=>(lhs; whnf)) (by conv=>(lhs; whnf)) rfl hm.one ?_
  refine D1 rfl (by conv=>(lhs; whnf)) hg rfl hm.one ?_
  intro w2 k2 hg2
  repeat refine wW ?_
  refine Y0 rfl (o7 hg2 rfl) ⟨?_,vm,?_,?_⟩
  ·exact k1.past k2 hgs
  ·rw [S2 (show (0 : Int) < ((dg z.natAbs).length : Nat) ↔ z < 0 by rw [hp,← hdl]; exact ⟨fun h=>⟨hc,by omega⟩,fun h=>by omega⟩)]
  exact hm0.past k1 k2 hgs
 repeat (first | refine r7 ?_ | refine y7 rfl rfl rfl ?_ | refine q8 rfl ?_)
 refine al5 (by conv=>(lhs; whnf)) (by conv=>(lhs; whnf)) rfl hm.one ?_
 refine D1 rfl (by conv=>(lhs; whnf)) hg rfl hm.one ?_
 intro w2 k2 hg2
 repeat refine wW ?_
 refine Y0 rfl (o7 hg2 rfl) ⟨?_,vm,?_,?_⟩
 ·exact k1.past k2 hgs
 ·rw [j8 (show ¬ z < 0 from fun h=>hc (hp.1 h).1)]
 exact hm0.past k1 k2 hgs
theorem dp6 {S : Nat → Prop} {w : World} {vm : Value} {n : Nat} (hm : y6 S 3 .i64 w vm n) :
  Gives prog 154 [.bool false,vm] w fun v' w'=>Ext w w' ∧ ZV S w' v' (n : Int):=by
 have h:=ay4 (p:=False) (n : Int) hm (Int.natAbs_natCast n) ⟨fun h=>by omega,fun h=>h.1.elim⟩
 rwa [j8 fun h=>h] at h
theorem cm0 {S : Nat → Prop} {w : World} {v : Value} {z : Int} (h : ZV S w v z) :
  Gives prog 129 [v] w fun v' w'=>v' = .int .i64 z.sign ∧ Ext w w':=by
 obtain ⟨m,rfl,hm⟩:=h
 refine l7 func129 rfl rfl rfl ?_
 repeat refine wW ?_
 refine z8 (cs:=[.bool (tst (z < 0)),m]) rfl ?_
 intro w1 g k1 hg hgs
 replace hm:=hm.to k1
 have hl:=@bx5 z.natAbs
 repeat (first | refine i1 rfl hg rfl ?_ | refine wW ?_ | refine d7 ?_ | refine B5 (by conv=>(lhs; whnf)) (by assumption) ?_ | refine ac6 rfl rfl ?_ | refine l6 rfl ?_)
 try refine i7 ?_
 refine j4 rfl ?_ ?_ <;> intro hc
 ·repeat (first | refine wW ?_ | refine r8 ?_)
  exact X5 rfl (by conv=>(lhs; whnf)) ⟨congrArg (Value.int .i64) (by rw [show z = 0 by omega]; rfl),k1⟩
 ·repeat (first | refine i1 rfl hg rfl ?_ | refine wW ?_ | refine d7 ?_ | refine wp_skip ?_ | refine l6 rfl ?_)
  try refine i7 ?_
  refine j4 rfl ?_ ?_ <;> intro hc2
  ·repeat (first | refine wW ?_ | refine r8 ?_)
   exact X5 rfl (by conv=>(lhs; whnf)) ⟨congrArg (Value.int .i64) (by rw [Int.sign_eq_neg_one_of_neg hc2]),k1⟩
  repeat (first | refine wW ?_ | refine wp_skip ?_)
  exact X5 rfl (by conv=>(lhs; whnf)) ⟨congrArg (Value.int .i64) (by rw [Int.sign_eq_one_of_pos (by omega)]),k1⟩
theorem ci5 {S : Nat → Prop} {w : World} {v : Value} {z : Int} (h : ZV S w v z) :
  Gives prog 153 [v] w fun v' w'=>Ext w w' ∧ ZV S w' v' (-z):=by
 obtain ⟨m,rfl,hm⟩:=h
 refine l7 func153 rfl rfl rfl ?_
 repeat refine wW ?_
 refine z8 (cs:=[.bool (tst (z < 0)),m]) rfl ?_
 intro w1 g k1 hg hgs
 skip
 refine r5 (cs:=[.bool false,.slice none 0 0]) rfl ?_
 intro w2 g2 k2 hg2 hgs2
 replace hg:=hg.to k2
 have k:=k1.trans k2
 have hm2:=hm.to k
 repeat (first | refine i1 rfl hg rfl ?_ | refine wW ?_ | refine ba2 rfl ?_ | refine l6 rfl ?_)
 refine j1 (ay4 (-z) hm2 (by omega) (by omega)) rfl ?_
 rintro v3 w3 ⟨k3,m3,rfl,h3⟩
 replace hg2:=hg2.to k3
 have hs:=k1.size
 skip
 refine D1 rfl (by conv=>(lhs; whnf)) hg2 rfl h3.one ?_
 intro w4 k4 hg4
 repeat refine wW ?_
 refine Y0 rfl (o7 hg4 rfl) ⟨(k.trans k3).past k4 (by omega),m3,rfl,h3.wrT k4 hg2 (by decide)⟩
theorem d00 {S : Nat → Prop} {w : World} {va vb : Value} {a b : Int} (hS : Up S w) (ha : ZV S w va a) (hb : ZV S w vb b) (hla : zl a ≤ 16000000000000) (hlb : zl b ≤ 16000000000000) :
  Gives prog 130 [va,vb] w fun v' w'=>Ext w w' ∧ ZV S w' v' (a + b):=by
 unfold zl at hla hlb
 have ha0:=ha
 have hb0:=hb
 obtain ⟨ma,rfl,hma⟩:=ha
 obtain ⟨mb,rfl,hmb⟩:=hb
 refine l7 func130 rfl rfl rfl ?_
 repeat refine wW ?_
 refine z8 (cs:=[.bool (tst (a < 0)),ma]) rfl ?_
 intro w1 ga k1 hga hgsa
 skip
 refine z8 (cs:=[.bool (tst (b < 0)),mb]) rfl ?_
 intro w2 gb k2 hgb hgsb
 replace hga:=hga.to k2
 have k:=k1.trans k2
 clear k1 k2
 skip
 have hsz:=k.size
 refine r5 (cs:=[.bool false,.slice none 0 0]) rfl ?_
 intro w3 g k3 hg hgs
 replace hga:=hga.to k3
 replace hgb:=hgb.to k3
 replace k:=k.trans k3
 clear k3
 replace ha0:=ha0.to k
 replace hb0:=hb0.to k
 replace hma:=hma.to k
 replace hmb:=hmb.to k
 replace hS:=hS.to k
 repeat (first | refine wW ?_ | refine d7 ?_ | refine l6 rfl ?_)
 repeat (first | refine i1 rfl hga rfl ?_ | refine i1 rfl hgb rfl ?_ | refine wW ?_ | refine c59 rfl rfl ?_ | refine l6 rfl ?_)
 try refine i7 ?_
 refine j4 rfl ?_ ?_ <;> intro he
 ·repeat (first | refine D3 ?_)
  refine A6 8 ?_
  apply b7
  ·intro x w1 k1 hd
   refine l6 rfl ?_
   refine d6 ?_
   exact j7
  apply b7
  ·intro x w1 k1 hd
   refine i1 rfl (hga.to k1) rfl ?_
   refine d6 ?_
   exact j7
  apply b7
  ·intro x w1 k1 hd
   refine l6 rfl ?_
   refine d6 ?_
   exact j7
  apply b7
  ·intro x w1 k1 hd
   refine i1 rfl (hga.to k1) rfl ?_
   refine d6 ?_
   exact j7
  apply b7
  ·intro x w1 k1 hd
   refine l6 rfl ?_
   refine d6 ?_
   exact j7
  apply b7
  ·intro x w1 k1 hd
   refine i1 rfl (hgb.to k1) rfl ?_
   refine d6 ?_
   exact j7
  refine b7 (e:=nE S (a.natAbs + b.natAbs)) ?_ ?_
  ·intro x w1 k1 hd
   refine j1 (dy1 (hS.to k1) (hma.to k1) (hmb.to k1) (by omega) (by omega)) rfl ?_
   rintro v2 w2 ⟨k2,h2⟩
   exact d6 (D7 k2 h2)
  refine b7 (e:=zE S (a + b)) ?_ ?_
  ·intro x w1 k1 hd
   refine j1 (ay4 (a + b) hd.1 (by omega) (by omega)) rfl ?_
   rintro v2 w2 ⟨k2,h2⟩
   exact d6 (D7 k2 h2)
  refine J1 (J5 ?_)
  intro x w5 k5 hall
  obtain ⟨m5,hv5,h5⟩:=hall.1
  refine D1 rfl hv5 (hg.to k5) rfl h5.one ?_
  intro w6 k6 hg6
  repeat (first | refine wW ?_ | refine r8 ?_)
  refine Y0 rfl (o7 hg6 rfl) ⟨Keeps.past (k.trans k5) k6 (by omega),m5,rfl,h5.wrT k6 (hg.to k5) (by decide)⟩
 ·repeat (first | refine i1 rfl hga rfl ?_ | refine i1 rfl hgb rfl ?_ | refine wW ?_ | refine d7 ?_ | refine wp_skip ?_ | refine l6 rfl ?_)
  refine j1 (c53 hma hmb) rfl ?_
  rintro v4 w4 ⟨k4,c,rfl,hc⟩
  replace hga:=hga.to k4
  replace hgb:=hgb.to k4
  replace k:=k.trans k4
  replace hma:=hma.to k4
  replace hmb:=hmb.to k4
  replace hg:=hg.to k4
  replace hS:=hS.to k4
  clear k4
  repeat (first | refine wW ?_ | refine aj0 rfl rfl ?_)
  try refine i7 ?_
  refine j4 rfl ?_ ?_ <;> intro hcc
  ·have hge : b.natAbs ≤ a.natAbs:=by have:=hc.1; omega
   repeat (first | refine D3 ?_)
   refine A6 8 ?_
   apply b7
   ·intro x w1 k1 hd
    refine l6 rfl ?_
    refine d6 ?_
    exact j7
   apply b7
   ·intro x w1 k1 hd
    refine i1 rfl (hga.to k1) rfl ?_
    refine d6 ?_
    exact j7
   apply b7
   ·intro x w1 k1 hd
    refine l6 rfl ?_
    refine d6 ?_
    exact j7
   apply b7
   ·intro x w1 k1 hd
    refine i1 rfl (hga.to k1) rfl ?_
    refine d6 ?_
    exact j7
   apply b7
   ·intro x w1 k1 hd
    refine l6 rfl ?_
    refine d6 ?_
    exact j7
   apply b7
   ·intro x w1 k1 hd
    refine i1 rfl (hgb.to k1) rfl ?_
    refine d6 ?_
    exact j7
   refine b7 (e:=nE S (a.natAbs - b.natAbs)) ?_ ?_
   ·intro x w1 k1 hd
    refine j1 (cd8 (hS.to k1) (hma.to k1) (hmb.to k1) (by omega) hge) rfl ?_
    rintro v2 w2 ⟨k2,h2⟩
    exact d6 (D7 k2 h2)
   refine b7 (e:=zE S (a + b)) ?_ ?_
   ·intro x w1 k1 hd
    refine j1 (ay4 (a + b) hd.1 (be1 he hge) (a31 he hge)) rfl ?_
    rintro v2 w2 ⟨k2,h2⟩
    exact d6 (D7 k2 h2)
   refine J1 (J5 ?_)
   intro x w5 k5 hall
   obtain ⟨m5,hv5,h5⟩:=hall.1
   refine D1 rfl hv5 (hg.to k5) rfl h5.one ?_
   intro w6 k6 hg6
   repeat (first | refine wW ?_ | refine r8 ?_)
   refine Y0 rfl (o7 hg6 rfl) ⟨Keeps.past (k.trans k5) k6 (by omega),m5,rfl,h5.wrT k6 (hg.to k5) (by decide)⟩
  have hge : a.natAbs ≤ b.natAbs:=by have:=hc.1; omega
  have he2 : ¬ (b < 0 ↔ a < 0):=fun h=>he h.symm
  repeat (first | refine D3 ?_ | refine wp_skip ?_)
  refine A6 8 ?_
  apply b7
  ·intro x w1 k1 hd
   refine l6 rfl ?_
   refine d6 ?_
   exact j7
  apply b7
  ·intro x w1 k1 hd
   refine i1 rfl (hgb.to k1) rfl ?_
   refine d6 ?_
   exact j7
  apply b7
  ·intro x w1 k1 hd
   refine l6 rfl ?_
   refine d6 ?_
   exact j7
  apply b7
  ·intro x w1 k1 hd
   refine i1 rfl (hgb.to k1) rfl ?_
   refine d6 ?_
   exact j7
  apply b7
  ·intro x w1 k1 hd
   refine l6 rfl ?_
   refine d6 ?_
   exact j7
  apply b7
  ·intro x w1 k1 hd
   refine i1 rfl (hga.to k1) rfl ?_
   refine d6 ?_
   exact j7
  refine b7 (e:=nE S (b.natAbs - a.natAbs)) ?_ ?_
  ·intro x w1 k1 hd
   refine j1 (cd8 (hS.to k1) (hmb.to k1) (hma.to k1) (by omega) hge) rfl ?_
   rintro v2 w2 ⟨k2,h2⟩
   exact d6 (D7 k2 h2)
  refine b7 (e:=zE S (a + b)) ?_ ?_
  ·intro x w1 k1 hd
   refine j1 (ay4 (a + b) hd.1 (by rw [Int.add_comm]; exact be1 he2 hge) (by rw [Int.add_comm]; exact a31 he2 hge)) rfl ?_
   rintro v2 w2 ⟨k2,h2⟩
   exact d6 (D7 k2 h2)
  refine J1 (J5 ?_)
  intro x w5 k5 hall
  obtain ⟨m5,hv5,h5⟩:=hall.1
  refine D1 rfl hv5 (hg.to k5) rfl h5.one ?_
  intro w6 k6 hg6
  repeat refine wW ?_
  refine Y0 rfl (o7 hg6 rfl) ⟨Keeps.past (k.trans k5) k6 (by omega),m5,rfl,h5.wrT k6 (hg.to k5) (by decide)⟩
theorem dt8 {S : Nat → Prop} {w : World} {va vb : Value} {a b : Int} (hS : Up S w) (ha : ZV S w va a) (hb : ZV S w vb b) (hla : zl a ≤ 16000000000000) (hlb : zl b ≤ 16000000000000) :
  Gives prog 115 [va,vb] w fun v' w'=>Ext w w' ∧ ZV S w' v' (a - b):=by
 rw [show a - b = a + -b from Int.sub_eq_add_neg ..]
 have ha0:=ha
 have hb0:=hb
 obtain ⟨ma,rfl,hma⟩:=ha
 obtain ⟨mb,rfl,hmb⟩:=hb
 refine l7 func115 rfl rfl rfl ?_
 repeat refine wW ?_
 refine z8 (cs:=[.bool (tst (a < 0)),ma]) rfl ?_
 intro w1 ga k1 hga hgsa
 skip
 refine z8 (cs:=[.bool (tst (b < 0)),mb]) rfl ?_
 intro w2 gb k2 hgb hgsb
 replace hga:=hga.to k2
 have k:=k1.trans k2
 clear k1 k2
 skip
 have hsz:=k.size
 refine r5 (cs:=[.bool false,.slice none 0 0]) rfl ?_
 intro w3 g k3 hg hgs
 replace hga:=hga.to k3
 replace hgb:=hgb.to k3
 replace k:=k.trans k3
 clear k3
 replace ha0:=ha0.to k
 replace hb0:=hb0.to k
 replace hma:=hma.to k
 replace hmb:=hmb.to k
 replace hS:=hS.to k
 repeat refine wW ?_
 refine A6 4 ?_
 apply b7
 ·intro x w1 k1 hd
  refine o5 rfl (hga.to k1) rfl ?_
  refine d6 ?_
  exact j7
 apply b7
 ·intro x w1 k1 hd
  refine o5 rfl (hgb.to k1) rfl ?_
  refine d6 ?_
  exact j7
 refine b7 (e:=zE S (-b)) ?_ ?_
 ·intro x w1 k1 hd
  refine j1 (ci5 ⟨mb,rfl,hmb.to k1⟩) rfl ?_
  rintro v2 w2 ⟨k2,h2⟩
  exact d6 (D7 k2 h2)
 refine b7 (e:=zE S (a + -b)) ?_ ?_
 ·intro x w1 k1 hd
  refine j1 (d00 (hS.to k1) ⟨ma,rfl,hma.to k1⟩ hd.1 hla (by unfold zl; rw [Int.natAbs_neg]; exact hlb)) rfl ?_
  rintro v2 w2 ⟨k2,h2⟩
  exact d6 (D7 k2 h2)
 refine J1 (J5 ?_)
 intro x w5 k5 hall
 obtain ⟨m5,hv5,h5⟩:=hall.1
 refine D1 rfl hv5 (hg.to k5) rfl h5.one ?_
 intro w6 k6 hg6
 repeat refine wW ?_
 refine Y0 rfl (o7 hg6 rfl) ⟨Keeps.past (k.trans k5) k6 (by omega),m5,rfl,h5.wrT k6 (hg.to k5) (by decide)⟩
theorem dv0 {S : Nat → Prop} {w : World} {va vb : Value} {a b : Int} (hS : Up S w) (ha : ZV S w va a) (hb : ZV S w vb b) (hla : zl a ≤ 16000000000000) (hlb : zl b ≤ 16000000000000) :
  Gives prog 135 [va,vb] w fun v' w'=>v' = .int .i64 (a - b).sign ∧ Ext w w':=by
 have ha0:=ha
 have hb0:=hb
 obtain ⟨ma,rfl,hma⟩:=ha
 obtain ⟨mb,rfl,hmb⟩:=hb
 refine l7 func135 rfl rfl rfl ?_
 repeat refine wW ?_
 refine z8 (cs:=[.bool (tst (a < 0)),ma]) rfl ?_
 intro w1 ga k1 hga hgsa
 skip
 refine z8 (cs:=[.bool (tst (b < 0)),mb]) rfl ?_
 intro w2 gb k2 hgb hgsb
 replace hga:=hga.to k2
 have k:=k1.trans k2
 clear k1 k2
 replace ha0:=ha0.to k
 replace hb0:=hb0.to k
 replace hma:=hma.to k
 replace hmb:=hmb.to k
 replace hS:=hS.to k
 repeat refine wW ?_
 repeat (first | refine o5 rfl hga rfl ?_ | refine o5 rfl hgb rfl ?_)
 refine j1 (dt8 hS ⟨ma,rfl,hma⟩ ⟨mb,rfl,hmb⟩ hla hlb) rfl ?_
 rintro v3 w3 ⟨k3,h3⟩
 skip
 refine j1 (cm0 h3) rfl ?_
 rintro v4 w4 ⟨rfl,k4⟩
 repeat refine wW ?_
 exact q5 rfl ⟨rfl,(k.trans k3).trans k4⟩
theorem dd7 {S : Nat → Prop} {w : World} {z : Int} (hS : Up S w) (h0 : -9223372036854775808 ≤ z) (h1 : z ≤ 9223372036854775807) :
  Gives prog 112 [.int .i64 z] w fun v' w'=>Ext w w' ∧ ZV S w' v' z:=by
 have hl3 : dl z.natAbs ≤ 3:=M7 (by omega)
 refine l7 func112 rfl rfl rfl ?_
 repeat refine wW ?_
 refine r5 (cs:=[.bool false,.slice none 0 0]) rfl ?_
 intro w1 g k1 hg hgs
 repeat refine wW ?_
 refine Q5 rfl rfl ?_
 repeat (first | refine wW ?_ | refine d7 ?_ | refine O6 rfl rfl ?_)
 first | refine i7 ?_ | refine I8 ?_ | refine F7 ?_ | skip
 refine S6 [(9,10),(3,3)] (fun ρ w'=>w' = w1 ∧ ρ 3 = .int .u64 ((z.natAbs : Nat) : Int)) rfl ?_ ?_ ?_
 ·intro hc
  repeat refine wW ?_
  refine aj1 (op:=.sub) rfl rfl (Or.inr (Or.inl ⟨rfl,show IntKind.u64.wrap (0 - IntKind.u64.wrap z) = ((z.natAbs : Nat) : Int) by simp [IntKind.wrap,IntKind.signed,IntKind.bits]; omega⟩)) ?_
  repeat refine wW ?_
  exact ⟨by (repeat (first | refine j2 rfl ?_ | exact i6 | refine j3 rfl ?_ | exact f5 | refine p6 rfl ?_ | refine m9 rfl ?_)),rfl,rfl⟩
 ·intro hc
  repeat (first | refine N7 ?_ | refine wp_skip ?_)
  exact ⟨by (repeat (first | refine j2 rfl ?_ | exact i6 | refine j3 rfl ?_ | exact f5 | refine p6 rfl ?_ | refine m9 rfl ?_)),rfl,congrArg (Value.int .u64) (by simp [IntKind.wrap,IntKind.signed,IntKind.bits]; omega)⟩
 rintro u w2 ⟨rfl,h3⟩
 refine j9 3 h3 ?_
 clear h3
 repeat refine wW ?_
 try refine o9 ?_
 refine H3 ((3,3) :: [(3,4),(11,20)]) (fun k ρ w'=>∃ l v,ρ 3 = .int .u64 (k : Int) ∧ k ≤ z.natAbs ∧ ρ 4 = v ∧ l ++ dg k = dg z.natAbs ∧ Ext w2 w' ∧ Own w2.heap.size 3 1 w' v l.length (l.map fun d : Nat=>.int .i64 d)) z.natAbs
  ⟨[],_,rfl,Nat.le_refl _,rfl,rfl,.refl,ai2⟩ ?_
 rintro k u w3 ⟨l,v,h3,hk,h4,hd,k3,ho⟩
 refine j9 3 h3 (j9 4 h4 ?_)
 clear h3 h4
 repeat (first | refine wW ?_ | refine d7 ?_ | refine Z3 rfl rfl ?_)
 try refine i7 ?_
 refine j4 rfl ?_ ?_ <;> intro hc
 ·have hkl:=congrArg List.length hd
  rw [List.length_append] at hkl
  have hdk:=aj7 (show k ≠ 0 by omega)
  have hdl : (dg z.natAbs).length = dl z.natAbs:=rfl
  repeat (first | refine Y9 ?_ | refine wW ?_ | refine K7 ?_ | refine wp_skip ?_ | refine Q5 rfl (wrap_i64 (by omega) (by omega)) ?_ | refine as2 rfl rfl (by omega) (by omega) ?_)
  refine ab1 (by conv=>(lhs; whnf)) rfl ?_
  intro w4 g4 k4 hb hg4
  refine S7 (by conv=>(lhs; whnf)) (ab2 ho k4) rfl hb (by omega) rfl (by simp [Value.oneCell']) (by unfold maxLen; omega) (by omega) (Nat.le_trans k3.size k4.size) ?_
  intro v5 w5 ho5 k5
  repeat (first | refine wW ?_ | refine cj6 rfl rfl (by omega) (by omega) (by omega) ?_)
  refine ⟨by (repeat (first | refine j2 rfl ?_ | exact i6 | refine j3 rfl ?_ | exact f5)),k / 1000000000,by omega,l ++ [k % 1000000000],v5,congrArg (Value.int .u64) (by omega),by omega,rfl,?_,?_,?_⟩
  ·rw [← hd,hdk,List.append_assoc]; rfl
  ·exact Keeps.later (k3.trans k4) k5 fun i hi _ e=>by have:=(ho.lt i e.symm).1; omega
  simpa using ho5
 ·repeat (first | refine wW ?_ | refine wp_exit ?_ | refine O6 rfl rfl ?_)
  obtain rfl : k = 0:=by omega
  rw [ai0,List.append_nil] at hd
  subst hd
  refine j1 (ay4 (S:=S) (n:=z.natAbs) z (Row.of_own ho (hS.to k1)) rfl (by omega)) rfl ?_
  rintro v4 w4 ⟨k4,m4,rfl,h4⟩
  skip
  have hg4:=hg.to (k3.trans k4)
  refine D1 rfl (by conv=>(lhs; whnf)) hg4 rfl h4.one ?_
  intro w5 k5 hg5
  repeat refine wW ?_
  exact Y0 rfl (o7 hg5 rfl) ⟨Keeps.past ((k1.trans k3).trans k4) k5 hgs,m4,rfl,h4.wrT k5 hg4 (by decide)⟩
theorem dc5 {b t D l : Nat} (hl : 0 < l) (hb : b < (t + 1) * 1000000000 ^ (l - 1)) (hD : D * (t + 1) ≤ 1000000000) : b * D < 1000000000 ^ l:=by
 rcases Nat.eq_zero_or_pos D with rfl | h0
 ·simp; exact Nat.pow_pos (by omega)
 have h1 : b * D < (t + 1) * 1000000000 ^ (l - 1) * D:=Nat.mul_lt_mul_of_pos_right hb h0
 have h2 : (t + 1) * 1000000000 ^ (l - 1) * D = D * (t + 1) * 1000000000 ^ (l - 1):=by rw [Nat.mul_comm,← Nat.mul_assoc]
 have h3 : D * (t + 1) * 1000000000 ^ (l - 1) ≤ 1000000000 * 1000000000 ^ (l - 1):=Nat.mul_le_mul_right _ hD
 have h4 : 1000000000 * 1000000000 ^ (l - 1) = 1000000000 ^ l:=by
  obtain ⟨j,rfl⟩ : ∃ j,l = j + 1:=⟨l - 1,by omega⟩
  rw [Nat.add_sub_cancel,Nat.pow_succ,Nat.mul_comm]
 omega
theorem c05 {s y p t h n : Nat} (hp : 0 < p) (ht : t = s / p) (hh : h = y / p + 1) (hn : n ≤ max 1 (min 999999999 (t / h))) (hys : y ≤ s) : y * n ≤ s:=by
 rcases Nat.lt_or_ge (t / h) 1 with h1 | h1
 ·have : n ≤ 1:=by omega
  calc y * n ≤ y * 1:=Nat.mul_le_mul_left _ this
   _ ≤ s:=by omega
 have h2 : n ≤ t / h:=by omega
 have h3 : y < h * p:=by
  rw [hh]
  have:=Nat.lt_div_mul_add (a:=y) hp
  rw [Nat.add_mul,Nat.one_mul]
  exact this
 have h4 : h * n ≤ t:=Nat.le_trans (Nat.mul_le_mul_left _ h2) (Nat.mul_div_le t h)
 calc y * n ≤ h * p * n:=Nat.mul_le_mul_right _ (Nat.le_of_lt h3)
  _ = p * (h * n):=by rw [Nat.mul_assoc,Nat.mul_left_comm]
  _ ≤ p * t:=Nat.mul_le_mul_left _ h4
  _ ≤ s:=by rw [ht]; exact Nat.mul_div_le s p
theorem a73 {a : Nat} (h : 0 < dl a) : (dg a).getD ((dg a).length - 1) 0 = a / 1000000000 ^ ((dg a).length - 1):=(cl6 h).symm
theorem br9 {s y i : Nat} (hy : s < y * 1000000000) (hi : dl y - 1 ≤ i) : s / 1000000000 ^ i < 1000000000000000000:=by
 have h1:=F8 y
 have h2 : 1000000000 ^ dl y ≤ 1000000000 ^ (i + 1):=Nat.pow_le_pow_right (by omega) (by omega)
 rw [Nat.pow_succ] at h2
 have h3 : s < 1000000000000000000 * 1000000000 ^ i:=by
  generalize 1000000000 ^ i = p at h2
  generalize 1000000000 ^ dl y = r at h1 h2
  omega
 rw [Nat.mul_comm] at h3
 exact Nat.div_lt_of_lt_mul h3
theorem da6 {S : Nat → Prop} {w : World} {va vb : Value} {a b : Nat} (hS : Up S w) (ha : y6 S 3 .i64 w va a) (hb : y6 S 3 .i64 w vb b) (hla : dl a ≤ 15999999999000) (hlb : dl b ≤ 15999999999000) (hb0 : 0 < b) :
    Gives prog 187 [va, vb] w fun v' w' => ∃ vq vr, v' = .tuple #[vq, vr] ∧ Ext w w' ∧ y6 S 3 .i64 w' vq (a / b) ∧ y6 S 3 .i64 w' vr (a % b) := by
  have hla' : (dg a).length ≤ 15999999999000 := hla
  have hlb' : (dg b).length ≤ 15999999999000 := hlb
  have hbl : 0 < (dg b).length := bx3 (n := b) (by omega)
  have htd := N1 b ((dg b).length - 1)
  have htb : b < ((dg b).getD ((dg b).length - 1) 0 + 1) * 1000000000 ^ ((dg b).length - 1) := by
    rw [a73 hbl, Nat.add_mul, Nat.one_mul]
    exact Nat.lt_div_mul_add (Nat.pow_pos (by omega))
  refine l7 func187 rfl rfl rfl ?_
  repeat (first | refine B0 (i := (dg b).length - 1) (by conv => (lhs; whnf)) rfl (by omega) hb (by omega) ?_ | refine s6 rfl hb (by omega) ?_ | refine wW ?_ | refine B5 (by conv => (lhs; whnf)) (by assumption) ?_ | refine E6 rfl rfl ?_ | refine A3 rfl rfl ?_ | refine as0 rfl rfl (by omega) (by omega) (by omega) ?_)
  obtain ⟨t, ht⟩ : ∃ t, t = (dg b).getD ((dg b).length - 1) 0 := ⟨_, rfl⟩
  rw [← ht] at htd htb ⊢
  obtain ⟨D, hD⟩ : ∃ D, D = 1000000000 / (t + 1) := ⟨_, rfl⟩
  have hDi : (1000000000 : Int) / ((t : Int) + 1) = (D : Int) := by rw [hD]; rfl
  rw [hDi]
  have hD1 : 1 ≤ D := by rw [hD]; exact Nat.div_pos (by omega) (by omega)
  have hD2 : D * (t + 1) ≤ 1000000000 := by rw [hD]; exact Nat.div_mul_le_self ..
  have hD3 : D ≤ 1000000000 := by rw [hD]; exact Nat.div_le_self ..
  skip
  refine j1 (ba7 hS ha (by omega) hD3) rfl ?_
  rintro vx w1 ⟨k1, hx⟩
  repeat (first | refine r7 ?_)
  refine j1 (ba7 (hS.to k1) (hb.to k1) (by omega) hD3) rfl ?_
  rintro vy w2 ⟨k2, hy⟩
  replace hx := hx.to k2
  have k12 := k1.trans k2
  have hxa : dl (a * D) ≤ dl a + 1 := by
    refine M7 ?_
    have h4 := F8 a
    have h5 : a * D ≤ a * 1000000000 := Nat.mul_le_mul_left _ hD3
    rw [Nat.pow_succ]
    omega
  obtain ⟨x, hxd⟩ : ∃ x, x = a * D := ⟨_, rfl⟩
  obtain ⟨y, hyd⟩ : ∃ y, y = b * D := ⟨_, rfl⟩
  rw [← hxd] at hx hxa
  rw [← hyd] at hy
  have hyb : y < 1000000000 ^ dl b := by rw [hyd]; exact dc5 hbl htb hD2
  have hy0 : 0 < y := by rw [hyd]; exact Nat.mul_pos hb0 hD1
  have hyl : dl y ≤ dl b := M7 hyb
  have hyp : 0 < dl y := bx3 (by omega)
  have hyl' : (dg y).length = dl y := rfl
  have hxl' : (dg x).length = dl x := rfl
  have htd2 := N1 y ((dg y).length - 1)
  repeat (first | refine B0 (i := (dg y).length - 1) (by conv => (lhs; whnf)) rfl (by omega) hy (by omega) ?_ | refine s6 rfl hy (by omega) ?_ | refine wW ?_ | refine B5 (by conv => (lhs; whnf)) (by assumption) ?_ | refine E6 rfl rfl ?_ | refine A3 rfl rfl ?_)
  have hhi : (((dg y).getD ((dg y).length - 1) 0 : Nat) : Int) + 1 = ((y / 1000000000 ^ (dl y - 1) + 1 : Nat) : Int) := by rw [a73 hyp]; rfl
  have hhb : y / 1000000000 ^ (dl y - 1) + 1 ≤ 1000000000 := by rw [← hyl', ← a73 hyp]; omega
  rw [hhi]
  obtain ⟨h, hh⟩ : ∃ h, h = y / 1000000000 ^ (dl y - 1) + 1 := ⟨_, rfl⟩
  rw [← hh] at hhb ⊢
  have hh0 : 0 < h := by omega
  clear htd2 hhi htd htb hDi ha hb
  refine bf6 (l := (dg x).length) (c := (dg x).length) rfl rfl rfl rfl (Nat.le_refl _) (by omega) (by unfold maxLen; omega) ?_
  intro w3 q k3 hg hgs
  have hg : Blk w3 q 3 ((List.replicate (dg x).length 0).map fun d : Nat => .int .i64 d) := by
    simpa [toList_madeCells_one, Value.cells, List.map_replicate] using hg
  have hs12 := k12.size
  have hq := hg.lt
  have hS3 : Up (fun k => S k ∧ k ≠ q) w3 := fun i hi => ⟨hS i (by have := k3.size; omega), by omega⟩
  have hx3 := (hx.mono (S' := fun k => S k ∧ k ≠ q) fun i hi hs => ⟨hs, by omega⟩).to k3
  have hy3 := (hy.mono (S' := fun k => S k ∧ k ≠ q) fun i hi hs => ⟨hs, by omega⟩).to k3
  replace k12 := k12.trans k3
  repeat (first | refine wW ?_ | refine d7 ?_ | refine B5 (by conv => (lhs; whnf)) (by assumption) ?_ | refine A3 rfl rfl ?_)
  try refine o9 ?_
  refine H3 [(11, 15), (45, 97)] (fun k ρ w' => ∃ (o : List Nat) (r : Nat) (vr : Value), ρ 12 = .int .i64 ((k : Int) - 1) ∧ ρ 11 = vr ∧ r < y ∧ k ≤ o.length ∧ o.length = (dg x).length ∧ Digs o ∧ (∀ j, j < k → o.getD j 0 = 0) ∧
        y5 ((dg x).drop k) = y5 (o.drop k) * y + r ∧ Blk w' q 3 (o.map fun d : Nat => .int .i64 d) ∧ y6 (fun k => S k ∧ k ≠ q) 3 .i64 w' vr r ∧ Keeps (fun k => k ≠ q) w3 w') (dg x).length
      ⟨List.replicate (dg x).length 0, 0, _, rfl, rfl, hy0, by simp, by simp, fun x hx => by rw [List.eq_of_mem_replicate hx]; omega, fun j _ => by simp [List.getD_eq_getElem?_getD, List.getElem?_replicate]; split <;> rfl, by simp [y5], hg, Row.nil, .refl⟩ ?_
  rintro k u w4 ⟨o, r, vr, h12, h11, hr, hko, hol, hod, hz, hv, hg4, hvr, k4⟩
  refine j9 12 h12 (j9 11 h11 ?_)
  clear h12 h11 hg
  have hx4 : y6 (fun k => S k ∧ k ≠ q) 3 .i64 w4 vx x := hx3.keep (k4.mono fun i hi => hi.2)
  have hy4 : y6 (fun k => S k ∧ k ≠ q) 3 .i64 w4 vy y := hy3.keep (k4.mono fun i hi => hi.2)
  have hS4 : Up (fun k => S k ∧ k ≠ q) w4 := fun i hi => hS3 i (by have := k4.size; omega)
  have hq4 := hg4.lt
  repeat (first | refine wW ?_ | refine d7 ?_ | refine aj0 rfl rfl ?_)
  try refine i7 ?_
  refine j4 rfl ?_ ?_ <;> intro hk
  · obtain ⟨m, rfl⟩ : ∃ m, k = m + 1 := ⟨k - 1, by omega⟩
    repeat (first | refine B0 (i := m) (by conv => (lhs; whnf)) rfl (by omega) hx4 (by omega) ?_ | refine s6 rfl hx4 (by omega) ?_ | refine wW ?_ | refine B4 ?_ | refine r6 ?_ | refine wp_skip ?_)
    have hda := N1 x m
    have hdr := S8 (show m < (dg x).length by omega)
    rw [hv] at hdr
    obtain ⟨d, hd⟩ : ∃ d, d = (dg x).getD m 0 := ⟨_, rfl⟩
    rw [← hd] at hda hdr ⊢
    have hdo := S8 (show m < o.length by omega)
    have hdl := bq0 hr hda
    have hrb : (dg r).length ≤ dl y := J4 (Nat.le_of_lt hr)
    refine ab1 (by conv => (lhs; whnf)) rfl ?_
    intro w5 g5 k5 h5 hg5
    have hs5 := k5.size
    repeat refine wW ?_
    refine a42 (by conv => (lhs; whnf)) (at9 h5 hg5 (by unfold maxLen; omega) rfl) (by conv => (lhs; whnf)) (hvr.to k5) (by omega) b75 (by unfold maxLen; omega) (by omega) (by omega) ?_
    intro v6 w6 ho6 k6
    skip
    have hdd : Digs (d :: dg r) := (a65 r).cons hda
    refine j1 (a63 (S := fun k => S k ∧ k ≠ q) (v := v6) (l := d :: dg r) ?_ hdd) rfl ?_
    · have h4 := Row.of_own ho6 hS4
      rw [Nat.add_comm] at h4
      exact h4
    rintro v7 w7 ⟨rfl, h7⟩
    have k7 : Ext w4 w7 := Keeps.later k5 k6 fun i hi _ e => by simp [Value.ownBlock] at e; omega
    have h7 : y6 (fun k => S k ∧ k ≠ q) 3 .i64 w7 v7 (d + 1000000000 * r) := by simpa [y5, A0] using h7
    clear ho6 k6 k5 h5 hs5 hdd
    obtain ⟨s0, hs0⟩ : ∃ s, s = d + 1000000000 * r := ⟨_, rfl⟩
    rw [← hs0] at h7 hdl
    have hlt9 : s0 < y * 1000000000 := by omega
    have hom : o.getD m 0 = 0 := hz m (by omega)
    have hset0 : o.set m 0 = o := by
      refine List.ext_getElem (by simp) fun i h1 h2 => ?_
      rw [List.getElem_set]
      split
      · rename_i e
        subst e
        rw [List.getD_eq_getElem?_getD, List.getElem?_eq_getElem h2] at hom
        simpa using hom.symm
      · rfl
    repeat refine wW ?_
    try refine o9 ?_
    refine H3 [(11, 11), (14, 15), (58, 97)] (fun k ρ w' => ∃ (g : Nat) (vs : Value), ρ 11 = vs ∧ s0 = y * g + k ∧ g < 1000000000 ∧ Blk w' q 3 ((o.set m g).map fun d : Nat => .int .i64 d) ∧ y6 (fun k => S k ∧ k ≠ q) 3 .i64 w' vs k ∧ Keeps (fun k => k ≠ q) w7 w') s0
      ⟨0, v7, rfl, by omega, by omega, by rw [hset0]; exact hg4.to k7, h7, .refl⟩ ?_
    rintro s u2 w8 ⟨g, vs, h11, hsg, hg9, hg8, hvs, k8⟩
    refine j9 11 h11 ?_
    clear h11
    have hy8 : y6 (fun k => S k ∧ k ≠ q) 3 .i64 w8 vy y := (hy4.to k7).keep (k8.mono fun i hi => hi.2)
    have hS8 : Up (fun k => S k ∧ k ≠ q) w8 := fun i hi => hS4 i (by have := k8.size; have := k7.size; omega)
    have hsl : s ≤ s0 := by omega
    have hsd : (dg s).length ≤ dl s0 := J4 hsl
    repeat (first | refine wW ?_ | refine d7 ?_)
    refine j1 (c53 hvs hy8) rfl ?_
    rintro v9 w9 ⟨k9, c9, rfl, hc9⟩
    repeat (first | refine wW ?_ | refine aj0 rfl rfl ?_)
    try refine i7 ?_
    refine j4 rfl ?_ ?_ <;> intro hge
    · have hys : y ≤ s := by have := hc9.1; omega
      have hvs9 := hvs.to k9
      have hy9 := hy8.to k9
      have hls : dl y ≤ dl s := J4 hys
      have hls' : (dg s).length = dl s := rfl
      repeat (first | refine wW ?_ | refine d7 ?_ | refine r6 ?_ | refine wp_skip ?_ | refine B5 (by conv => (lhs; whnf)) (by assumption) ?_ | refine A3 rfl rfl ?_)
      first | refine o9 ?_ | refine I8 ?_ | refine F7 ?_ | skip
      refine ay3 [(14, 15), (65, 78)] (fun ρ w' => w' = w9 ∧ ρ 14 = .int .i64 ((s / 1000000000 ^ (dl y - 1) : Nat) : Int)) ?_ ?_
      · try refine o9 ?_
        refine H3 [(14, 15), (65, 78)] (fun k ρ w' => w' = w9 ∧ ∃ i, k = i + 1 - dl y ∧ dl y ≤ i + 1 ∧ i ≤ dl s ∧ ρ 15 = .int .i64 ((i : Int) - 1) ∧ ρ 14 = .int .i64 ((s / 1000000000 ^ i : Nat) : Int)) (dl s + 1 - dl y) ?_ ?_
        · exact ⟨rfl, dl s, rfl, by omega, Nat.le_refl _, congrArg (Value.int .i64) (by omega), by rw [Nat.div_eq_of_lt (F8 s)]; rfl⟩
        rintro k3 u3 w10 ⟨rfl, i, hki, hyi, his, h15, h14⟩
        refine j9 15 h15 (j9 14 h14 ?_)
        clear h15 h14
        repeat (first | refine wW ?_ | refine d7 ?_ | refine B5 (by conv => (lhs; whnf)) (by assumption) ?_ | refine aj0 rfl rfl ?_ | refine A3 rfl rfl ?_)
        try refine i7 ?_
        refine j4 rfl ?_ ?_ <;> intro hcc
        · obtain ⟨j, rfl⟩ : ∃ j, i = j + 1 := ⟨i - 1, by omega⟩
          have hsq := br9 (s := s) (y := y) (i := j) (by omega) (by omega)
          have hst := bg1 s j
          obtain ⟨p, hp⟩ : ∃ p, p = s / 1000000000 ^ (j + 1) := ⟨_, rfl⟩
          rw [← hp] at hst ⊢
          repeat (first | refine bf8 rfl rfl (by omega) (by omega) ?_ | refine B0 (i := j) (by conv => (lhs; whnf)) rfl (by omega) hvs9 (by omega) ?_ | refine s6 rfl hvs9 (by omega) ?_ | refine Y9 ?_ | refine wW ?_ | refine K7 ?_ | refine wp_skip ?_ | refine E6 rfl rfl ?_ | refine A3 rfl rfl ?_)
          refine ⟨by (repeat (first | refine j2 rfl ?_ | exact i6 | refine j3 rfl ?_ | exact f5 | refine p6 rfl ?_ | refine m9 rfl ?_)), j + 1 - dl y, by omega, rfl, j, rfl, by omega, by omega, congrArg (Value.int .i64) (by omega), congrArg (Value.int .i64) (by rw [hst]; omega)⟩
        · have hid : i = dl y - 1 := by omega
          subst hid
          repeat (first | refine N7 ?_ | refine wp_exit ?_ | refine ac8 ?_ | refine Y1 rfl ?_)
          exact ⟨by (repeat (first | refine j2 rfl ?_ | exact i6 | refine j3 rfl ?_ | exact f5 | refine p6 rfl ?_ | refine m9 rfl ?_)), rfl, rfl⟩
      rintro u4 w10 ⟨rfl, h14⟩
      refine j9 14 h14 ?_
      clear h14
      have hsq := br9 (s := s) (y := y) (i := dl y - 1) (by omega) (Nat.le_refl _)
      obtain ⟨t4, ht4⟩ : ∃ t, t = s / 1000000000 ^ (dl y - 1) := ⟨_, rfl⟩
      rw [← ht4] at hsq ⊢
      repeat (first | refine wW ?_ | refine as0 rfl rfl (by omega) (by omega) (by omega) ?_ | refine dg6 rfl rfl ?_ | refine d84 rfl rfl ?_)
      obtain ⟨n, hn⟩ : ∃ n, n = max 1 (min 999999999 (t4 / h)) := ⟨_, rfl⟩
      have hni : max (1 : Int) (min 999999999 ((t4 : Int) / (h : Int))) = (n : Int) := by
        rw [hn]
        have : (t4 : Int) / (h : Int) = ((t4 / h : Nat) : Int) := rfl
        rw [this]
        omega
      rw [hni]
      have hn1 : 1 ≤ n := by omega
      have hn2 : n ≤ 999999999 := by omega
      have hnle : y * n ≤ s := c05 (Nat.pow_pos (by omega)) ht4 hh (by omega) hys
      have hyn : y ≤ y * n := Nat.le_mul_of_pos_right _ (by omega)
      refine j1 (ba7 (hS8.to k9) hy9 (by omega) (by omega)) rfl ?_
      rintro v11 w11 ⟨k11, h11⟩
      skip
      refine j1 (cd8 ((hS8.to k9).to k11) (hvs9.to k11) h11 (by omega) hnle) rfl ?_
      rintro v12 w12 ⟨k12b, h12⟩
      have k9b := (k9.trans k11).trans k12b
      have hg12 := hg8.to k9b
      have hgn : y * (g + n) ≤ s0 := by rw [Nat.mul_add]; omega
      have hgn9 : g + n < 1000000000 := Nat.lt_of_mul_lt_mul_left (a := y) (by omega)
      have hlen : m < (o.set m g).length := by rw [List.length_set]; omega
      repeat (first | refine L8 (i := m) rfl rfl (by omega) (by omega) ?_ | refine bc1 rfl hg12 hlen ?_ | refine wW ?_)
      rw [ab7 (by omega)]
      repeat (first | refine L8 (i := m) rfl rfl (by omega) (by omega) ?_ | refine E6 rfl rfl ?_)
      refine Z4 (c := g + n) rfl rfl rfl hg12 hlen ?_
      intro w13 k13 hg13
      rw [List.set_set] at hg13
      repeat (first | refine wW ?_ | refine ae6 ?_)
      refine ⟨by (repeat (first | refine j2 rfl ?_ | exact i6 | refine j3 rfl ?_ | exact f5 | refine p6 rfl ?_ | refine m9 rfl ?_)), s - y * n, by omega, g + n, v12, rfl, by rw [Nat.mul_add]; omega, hgn9, hg13, h12.keep (k13.mono fun i hi => hi.2), (k8.trans (.of k9b)).trans k13⟩
    · have hlt : s < y := by have := hc9.1; omega
      repeat (first | refine wW ?_ | refine wp_exit ?_ | refine A3 rfl rfl ?_)
      refine ⟨by (repeat (first | refine j2 rfl ?_ | exact i6 | refine j3 rfl ?_ | exact f5 | refine p6 rfl ?_ | refine m9 rfl ?_)), m, by omega, o.set m g, s, vs, congrArg (Value.int .i64) (by omega), rfl, hlt, by rw [List.length_set]; omega, by rw [List.length_set]; omega, hod.set hg9 _, fun j hj => by rw [Z5 (by omega)]; exact hz j (by omega), ?_, hg8.to k9, hvs.to k9, ((k4.trans (.of k7)).trans k8).trans (.of k9)⟩
      have hds := S8 (l := o.set m g) (m := m) (by rw [List.length_set]; omega)
      rw [ab7 (by omega), ar0] at hds
      rw [hdr, hds, Nat.mul_add, Nat.add_mul, Nat.mul_assoc, Nat.mul_comm g]
      omega
  · obtain rfl : k = 0 := by omega
    rw [List.drop_zero, List.drop_zero, A0] at hv
    repeat (first | refine wW ?_ | refine wp_exit ?_)
    have hrb : (dg r).length ≤ dl y := J4 (Nat.le_of_lt hr)
    refine j1 (c04 hS4 hvr (by show (dg r).length ≤ _; omega) hD3 hD1) rfl ?_
    rintro v5 w5 ⟨vq, rfl, k5, h5⟩
    repeat (first | refine wW ?_ | refine D6 rfl rfl ?_)
    have hg5 := hg4.to k5
    refine j1 (a63 (S := S) (v := .slice (some ⟨q, 0, none⟩) (dg x).length (dg x).length) (l := o) ?_ hod) rfl ?_
    · have h4 := Row.of_blk (S := S) (s := 1) (n := o.length) (cap := o.length) hg5 (hS q (by omega)) (Nat.le_refl _) (by unfold maxLen; omega) (by simp)
      rw [Nat.mul_one, List.take_of_length_le (by simp)] at h4
      rw [← hol]
      exact h4
    · rintro v6 w6 ⟨rfl, h6⟩
      have hdiv : a / b = y5 o := by
        have h1 : a * D / (b * D) = a / b := Nat.mul_div_mul_right a b hD1
        rw [← h1, ← hxd, ← hyd, hv, Nat.add_comm, Nat.add_mul_div_right _ _ hy0, Nat.div_eq_of_lt hr, Nat.zero_add]
      have hmod : a % b = r / D := by
        have h1 : a * D % (b * D) = a % b * D := Nat.mul_mod_mul_right D a b
        rw [← hxd, ← hyd, hv, Nat.mul_comm (y5 o), Nat.mul_add_mod, Nat.mod_eq_of_lt hr] at h1
        rw [h1, Nat.mul_div_cancel _ hD1]
      repeat refine wW ?_
      refine as7 rfl (by conv => (lhs; whnf)) (by conv => (lhs; whnf)) ⟨_, _, rfl, ?_, ?_, ?_⟩
      · exact Keeps.later k12 (k4.trans (.of k5)) fun i hi _ => by omega
      · rw [hdiv]; exact h6
      · rw [hmod]; exact h5.mono fun i _ hi => hi.1
theorem dx6 {S : Nat → Prop} {w : World} {va vb : Value} {a b : Nat} (hS : Up S w) (ha : y6 S 3 .i64 w va a) (hb : y6 S 3 .i64 w vb b) (hla : dl a ≤ 15999999999000) (hlb : dl b ≤ 15999999999000) :
  Gives prog 186 [va,vb] w fun v' w'=>Ext w w' ∧ y6 S 3 .i64 w' v' (Nat.gcd a b):=by
 refine l7 func186 rfl rfl rfl ?_
 repeat refine wW ?_
 try refine o9 ?_
 refine H3 [(0,1),(5,17)] (fun k ρ w'=>∃ (x : Nat) (vx vy : Value),ρ 0 = vx ∧ ρ 1 = vy ∧ y6 S 3 .i64 w' vx x ∧ y6 S 3 .i64 w' vy k ∧ Nat.gcd x k = Nat.gcd a b ∧ dl x ≤ 15999999999000 ∧ dl k ≤ 15999999999000 ∧ Ext w w') b
  ⟨a,va,vb,rfl,rfl,ha,hb,rfl,hla,hlb,.refl⟩ ?_
 rintro y u w2 ⟨x,vx,vy,h0,h1,hx,hy,hg,hlx,hly,k2⟩
 refine j9 0 h0 (j9 1 h1 ?_)
 clear h0 h1
 repeat (first | refine wW ?_ | refine d7 ?_ | refine B5 (by conv=>(lhs; whnf)) (by assumption) ?_ | refine Z3 rfl rfl ?_)
 try refine i7 ?_
 refine j4 rfl ?_ ?_ <;> intro hc
 ·have hy0 : 0 < y:=by
   rcases Nat.eq_zero_or_pos y with rfl | h
   ·rw [ai0] at hc; simp at hc
   exact h
  repeat (first | refine wW ?_ | refine r6 ?_ | refine wp_skip ?_)
  refine j1 (da6 (hS.to k2) hx hy hlx hly hy0) rfl ?_
  rintro v3 w3 ⟨vq,vr,rfl,k3,hq,hr⟩
  have hml:=J4 (Nat.le_of_lt (Nat.mod_lt x hy0))
  repeat (first | refine wW ?_ | refine ae6 ?_ | refine D6 rfl rfl ?_)
  refine ⟨by (repeat (first | refine j2 rfl ?_ | exact i6 | refine j3 rfl ?_ | exact f5)),x % y,Nat.mod_lt x hy0,y,vy,vr,rfl,rfl,hy.to k3,hr,?_,hly,by omega,k2.trans k3⟩
  rw [Nat.gcd_comm,← Nat.gcd_rec,Nat.gcd_comm,hg]
 obtain rfl : y = 0:=K6.1 (by unfold dl; omega)
 rw [Nat.gcd_zero_right] at hg
 rw [← hg]
 repeat (first | refine wW ?_ | refine wp_exit ?_)
 exact q5 rfl ⟨k2,hx⟩
section rules
variable {P : Program} {n : Nat} {Q : G3} {ρ : Fr} {w : World} {all rest : List Oper} {d : Tmp} {ty : TypeId} {pos : String} {aft : Array Edge}
theorem E5 {t : TypeId} {s b : Nat} {z : Value} [ti : TyI P t s b z true] {x : Operand} {g o : Nat} {T : TypeId} {cs us : List Value}
  (hx : ev ρ x = .pointer (some ⟨g,o,none⟩)) (hb : Blk w g T cs) (hu : (cs.drop o).take s = us) (hs : us.length = s) (h : WpR P n all Q rest (upd ρ d (.agg us.toArray)) w) :
  WpR P n all Q (⟨some d,.load t x,ty,pos,aft,none⟩ :: rest) ρ w:=by
 subst hu
 refine ay1 hx (aq9 ti hs fun i hi=>?_) h
 have h1 : ((cs.drop o).take s)[i]? = cs[o + i]?:=by
  rw [List.getElem?_take,if_pos (by omega),List.getElem?_drop]
 rw [h1]
 rw [hs] at hi
 have hl : o + i < cs.length:=by
  rw [List.length_take,List.length_drop] at hs
  omega
 rw [List.getElem?_eq_getElem hl]
 exact hb.cell (List.getElem?_eq_getElem hl)
theorem b08 {d : Tmp} {T : TypeId} {bb : Nat} {z0 z1 z2 : Value} [ti : TyI P T 3 bb (.agg #[z0,z1,z2]) true] [st : StcT P T [(0,2),(2,1)]]
  {x y : Operand} {a b c : Value} (hx : ev ρ x = .agg #[a,b]) (hy : ev ρ y = c) (h1 : c.oneCell' = true)
  (h : WpR P n all Q rest (upd ρ d (.agg #[a,b,c])) w) : WpR P n all Q (⟨some d,.build T #[(0,x),(1,y)],ty,pos,aft,none⟩ :: rest) ρ w:=
 a15 (parts:=[(0,x),(1,y)]) (zs:=[z0,z1,z2]) (cs:=[a,b,c]) (vs:=[(0,.agg #[a,b]),(1,c)]) rfl (by rw [← hx,← hy]; rfl)
  (a05 rfl (by simp) (bh9 rfl h1 (by simp) aq2)) h
theorem bc2 {d : Tmp} {T : TypeId} {bb : Nat} {z0 z1 z2 : Value} [ti : TyI P T 3 bb (.agg #[z0,z1,z2]) true] [st : StcT P T [(0,2),(2,1)]]
  {x : Operand} {a b : Value} (hx : ev ρ x = .agg #[a,b])
  (h : WpR P n all Q rest (upd ρ d (.agg #[a,b,z2])) w) : WpR P n all Q (⟨some d,.build T #[(0,x)],ty,pos,aft,none⟩ :: rest) ρ w:=
 a15 (parts:=[(0,x)]) (zs:=[z0,z1,z2]) (cs:=[a,b,z2]) (vs:=[(0,.agg #[a,b])]) rfl (by rw [← hx]; rfl) (a05 rfl (by simp) aq2) h
theorem c44 {a b c : Value} (h1 : a.oneCell' = true) (h2 : b.oneCell' = true) (h3 : c.oneCell' = true) : ∀ v ∈ [a,b,c],v.oneCell' = true:=fun v hv=>by
 simp only [List.mem_cons,List.not_mem_nil,or_false] at hv
 rcases hv with rfl | rfl | rfl <;> assumption
theorem G8 {t : TypeId} {bb : Nat} {z : Value} {agg : Bool} [ti : TyI P t 3 bb z agg] {x y : Operand} {g : Nat} {T : TypeId} {a b c : Value} {cs : List Value}
  (hx : ev ρ x = .pointer (some ⟨g,0,none⟩)) (hy : ev ρ y = .agg #[a,b,c]) (hb : Blk w g T cs) (hl : cs.length = 3) (h1 : a.oneCell' = true) (h2 : b.oneCell' = true) (h3 : c.oneCell' = true)
  (h : ∀ w',Wrt g w w' → Blk w' g T [a,b,c] → WpR P n all Q rest ρ w') : WpR P n all Q (⟨none,.store t x y,ty,pos,aft,none⟩ :: rest) ρ w:=
 A5 (us:=[a,b,c]) hx hy rfl rfl hb hl (c44 h1 h2 h3) h
end rules
def bot (q : Rat) : Nat:=if q.den = 1 then 0 else q.den
def RatV (S : Nat → Prop) (w : World) (v : Value) (q : Rat) : Prop:=
 ∃ m b,v = .agg #[.bool (tst (q.num < 0)),m,b] ∧ y6 S 227 .u32 w m q.num.natAbs ∧ y6 S 227 .u32 w b (bot q)
theorem RatV.keep {S : Nat → Prop} {w w' : World} {v : Value} {q : Rat} (h : RatV S w v q) (k : Keeps S w w') : RatV S w' v q:=let ⟨m,b,h1,h2,h3⟩:=h; ⟨m,b,h1,h2.keep k,h3.keep k⟩
theorem RatV.to {S : Nat → Prop} {w w' : World} {v : Value} {q : Rat} (h : RatV S w v q) (k : Ext w w') : RatV S w' v q:=h.keep (.of k)
theorem RatV.mono {S S' : Nat → Prop} {w : World} {v : Value} {q : Rat} (h : RatV S w v q) (hs : ∀ k,k < w.heap.size → S k → S' k) : RatV S' w v q:=let ⟨m,b,h1,h2,h3⟩:=h; ⟨m,b,h1,h2.mono hs,h3.mono hs⟩
def dr7 (S : Nat → Prop) (q : Rat) : Ent:=Ent.of (fun v w=>RatV S w v q) fun v w w' h kk=>h.to kk
abbrev rl (q : Rat) (n : Nat) : Prop:=dl q.num.natAbs ≤ n ∧ dl q.den ≤ n
theorem bc4 {S : Nat → Prop} {w : World} {v : Value} {q : Rat} (hS : Up S w) (h : RatV S w v q) :
  Gives prog 167 [v] w fun v' w'=>Ext w w' ∧ y6 S 227 .u32 w' v' q.den:=by
 obtain ⟨m,b,rfl,hm,hb⟩:=h
 have hl : (dg (bot q)).length = 0 ↔ q.den = 1:=by
  have h1:=@K6 (bot q)
  unfold dl at h1
  rw [h1]
  unfold bot
  have:=q.den_pos
  split <;> omega
 refine l7 func167 rfl rfl rfl ?_
 repeat refine wW ?_
 refine z8 (cs:=[.bool (tst (q.num < 0)),m,b]) rfl ?_
 intro w1 g k1 hg hgs
 replace hb:=hb.to k1
 repeat (first | refine i1 rfl hg rfl ?_ | refine wW ?_ | refine d7 ?_ | refine B5 (by conv=>(lhs; whnf)) (by assumption) ?_ | refine ac6 rfl rfl ?_ | refine l6 rfl ?_)
 try refine i7 ?_
 refine j4 rfl ?_ ?_ <;> intro hc
 ·repeat refine wW ?_
  refine j1 (c32 (hS.to k1)) rfl ?_
  rintro v2 w2 ⟨k2,h2⟩
  repeat (first | refine wW ?_ | refine r8 ?_)
  refine q5 rfl ⟨k1.trans k2,?_⟩
  rw [hl.1 (by omega)]
  exact h2
 repeat (first | refine i1 rfl hg rfl ?_ | refine wW ?_ | refine wp_skip ?_ | refine l6 rfl ?_)
 refine q5 rfl ⟨k1,?_⟩
 have h1 : bot q = q.den:=by unfold bot; rw [if_neg (fun h=>hc (by have:=hl.2 h; omega))]
 rw [h1] at hb
 exact hb
theorem a71 {S : Nat → Prop} {w : World} {v : Value} {q : Rat} (hS : Up S w) (h : RatV S w v q) :
  Gives prog 145 [v] w fun v' w'=>Ext w w' ∧ IntV S 227 .u32 w' v' (q.den : Int):=by
 have h0:=h
 obtain ⟨m,b,rfl,hm,hb⟩:=h
 refine l7 func145 rfl rfl rfl ?_
 repeat refine wW ?_
 refine z8 (cs:=[.bool (tst (q.num < 0)),m,b]) rfl ?_
 intro w1 g k1 hg hgs
 skip
 refine r5 (cs:=[.bool false,.slice none 0 0]) rfl ?_
 intro w2 g2 k2 hg2 hgs2
 replace hg:=hg.to k2
 have hk1:=k1.size
 repeat (first | refine o5 rfl hg rfl ?_ | refine wW ?_)
 refine j1 (bc4 (hS.to (k1.trans k2)) (h0.to (k1.trans k2))) rfl ?_
 rintro v3 w3 ⟨k3,h3⟩
 refine j1 (br7 h3) rfl ?_
 rintro v4 w4 ⟨k4,m4,rfl,h4⟩
 have hg4:=hg2.to (k3.trans k4)
 refine D1 rfl (by conv=>(lhs; whnf)) hg4 rfl h4.one ?_
 intro w5 k5 hg5
 repeat refine wW ?_
 exact Y0 rfl (o7 hg5 rfl) ⟨Keeps.past (((k1.trans k2).trans k3).trans k4) k5 (by omega),m4,rfl,h4.wrT k5 hg4 (by decide)⟩
theorem ai5 (z : Int) {d : Nat} (hd : 0 < d) : (mkRat z d).num.natAbs = z.natAbs / Nat.gcd d z.natAbs ∧ (mkRat z d).den = d / Nat.gcd d z.natAbs ∧ ((mkRat z d).num < 0 ↔ z < 0) ∧ (mkRat z d).num = z / (Nat.gcd d z.natAbs : Nat):=by
 have hg : 0 < Nat.gcd d z.natAbs:=Nat.gcd_pos_of_pos_left _ hd
 have e : mkRat z d = Rat.normalize z d (by omega):=by unfold mkRat; rw [dif_neg (by omega)]
 have hn : (mkRat z d).num = z / (Nat.gcd d z.natAbs : Nat):=by rw [e,Rat.normalize_eq]; show z / ((Nat.gcd z.natAbs d : Nat) : Int) = _; rw [Nat.gcd_comm]
 have hdn : (mkRat z d).den = d / Nat.gcd d z.natAbs:=by rw [e,Rat.normalize_eq]; show d / Nat.gcd z.natAbs d = _; rw [Nat.gcd_comm]
 obtain ⟨c,hc⟩ : ((Nat.gcd d z.natAbs : Nat) : Int) ∣ z:=Int.ofNat_dvd_left.2 (Nat.gcd_dvd_right ..)
 generalize Nat.gcd d z.natAbs = g at *
 have h1 : z / (g : Int) = c:=by rw [hc]; exact Int.mul_ediv_cancel_left _ (by omega)
 have h2 : z.natAbs = g * c.natAbs:=by rw [hc,Int.natAbs_mul,Int.natAbs_natCast]
 refine ⟨?_,hdn,?_,hn⟩
 ·rw [hn,h1,h2,Nat.mul_div_cancel_left _ hg]
 rw [hn,h1,hc]
 constructor
 ·intro h; exact Int.mul_neg_of_pos_of_neg (by omega) h
 intro h
 rcases Int.lt_trichotomy c 0 with h3 | h3 | h3
 ·exact h3
 ·subst h3; simp at h
 have:=Int.mul_pos (show (0 : Int) < g by omega) h3; omega
theorem bb2 {S : Nat → Prop} {w : World} {vn vd : Value} {z : Int} {d : Nat} (hS : Up S w) (hz : IntV S 227 .u32 w vn z) (hd : y6 S 227 .u32 w vd d) (hd0 : 0 < d) (hlz : zl z ≤ 1099511626000) (hld : dl d ≤ 1099511626000) :
  Gives prog 164 [vn,vd] w fun v' w'=>Ext w w' ∧ RatV S w' v' (mkRat z d):=by
 obtain ⟨m,rfl,hm⟩:=hz
 obtain ⟨hp1,hp2,hp3,_⟩:=ai5 z hd0
 have hg0 : 0 < Nat.gcd d z.natAbs:=Nat.gcd_pos_of_pos_left _ hd0
 unfold zl at hlz
 have hlg : dl (Nat.gcd d z.natAbs) ≤ 1099511626000:=Nat.le_trans (J4 (Nat.gcd_le_left _ hd0)) hld
 refine l7 func164 rfl rfl rfl ?_
 repeat refine wW ?_
 refine z8 (cs:=[.bool (tst (z < 0)),m]) rfl ?_
 intro w1 g k1 hg hgs
 skip
 refine r5 (cs:=[.bool false,.slice none 0 0,.slice none 0 0]) rfl ?_
 intro w2 g2 k2 hg2 hgs2
 have hgl:=hg.lt
 replace hg:=hg.to k2
 have k:=k1.trans k2
 have hk1:=k1.size
 replace hm:=hm.to k
 replace hd:=hd.to k
 have hS2:=hS.to k
 repeat (first | refine i1 rfl hg rfl ?_ | refine wW ?_ | refine l6 rfl ?_)
 refine j1 (dt1 hS2 hd hm (by omega) (by omega)) rfl ?_
 rintro v3 w3 ⟨k3,h3⟩
 repeat (first | refine wW ?_ | refine d7 ?_)
 refine j1 (bv5 h3) rfl ?_
 rintro v4 w4 ⟨rfl,rfl⟩
 replace hg:=hg.to k3
 replace hg2:=hg2.to k3
 replace hm:=hm.to k3
 replace hd:=hd.to k3
 have hS4:=hS2.to k3
 have kk:=k.trans k3
 repeat (first | refine wW ?_ | refine ba2 rfl ?_)
 first | refine i7 ?_ | refine I8 ?_ | refine F7 ?_ | skip
 refine S6 [(1,1),(13,26)] (fun ρ w'=>∃ mv dv,Blk w' g 51 [.bool (tst (z < 0)),mv] ∧ ρ 1 = dv ∧ y6 S 227 .u32 w' mv (z.natAbs / Nat.gcd d z.natAbs) ∧ y6 S 227 .u32 w' dv (d / Nat.gcd d z.natAbs) ∧ Ext w w' ∧ Blk w' g2 53 [.bool false,.slice none 0 0,.slice none 0 0]) rfl ?_ ?_ ?_
 ·intro hc
  repeat (first | refine i1 rfl hg rfl ?_ | refine wW ?_ | refine l6 rfl ?_)
  refine j1 (ch7 hS4 hm h3 (by omega) (by omega) hg0) rfl ?_
  rintro v5 w5 ⟨vq,vr,rfl,k5,hvq,hvr⟩
  repeat (first | refine r7 ?_ | refine D6 rfl rfl ?_ | refine l6 rfl ?_)
  refine L6 rfl rfl (hg.to k5) (show 1 < 2 by decide) hvq.one ?_
  intro w6 k6 hg6
  have hg2':=(hg2.to k5).wr k6 (by omega)
  replace hvq:=hvq.wrT k6 (hg.to k5) (by decide)
  have hS6 : Up S w6:=fun i hi=>hS4 i (by have:=k5.size; have:=k6.size; omega)
  repeat refine wW ?_
  refine j1 (ch7 hS6 ((hd.to k5).wrT k6 (hg.to k5) (by decide)) ((h3.to k5).wrT k6 (hg.to k5) (by decide)) (by omega) (by omega) hg0) rfl ?_
  rintro v7 w7 ⟨vq2,vr2,rfl,k7,hvq2,hvr2⟩
  repeat (first | refine wW ?_ | refine D6 rfl rfl ?_)
  exact ⟨by (repeat (first | refine j2 rfl ?_ | exact i6 | refine j3 rfl ?_ | exact f5)),_,_,hg6.to k7,rfl,hvq.to k7,hvq2,(Keeps.past (kk.trans k5) k6 hgs).trans k7,hg2'.to k7⟩
 ·intro hc
  have h1 : Nat.gcd d z.natAbs = 1:=Classical.not_not.1 hc
  repeat (first | refine N7 ?_ | refine wp_skip ?_)
  refine ⟨by (repeat (first | refine j2 rfl ?_ | exact i6 | refine j3 rfl ?_ | exact f5)),_,_,hg,rfl,?_,?_,kk,hg2⟩
  ·rw [h1,Nat.div_one]; exact hm
  rw [h1,Nat.div_one]; exact hd
 rintro u w5 ⟨mv,dv,hg5,h1,hmv,hdv,k5,hg25⟩
 refine j9 1 h1 ?_
 have hS5:=hS.to k5
 repeat (first | refine wW ?_ | refine d7 ?_)
 refine j1 (bv5 hdv) rfl ?_
 rintro v6 w6 ⟨rfl,rfl⟩
 repeat refine wW ?_
 first | refine i7 ?_ | refine I8 ?_ | refine F7 ?_ | skip
 refine S6 [(1,1)] (fun ρ w'=>∃ dv,ρ 1 = dv ∧ y6 S 227 .u32 w6 dv (bot (mkRat z d)) ∧ w' = w6) rfl ?_ ?_ ?_
 ·intro hc
  repeat refine wW ?_
  refine ⟨by (repeat (first | refine j2 rfl ?_ | exact i6 | refine j3 rfl ?_ | exact f5)),_,rfl,?_,rfl⟩
  unfold bot
  rw [hp2,if_pos hc]
  exact .nil
 ·intro hc
  repeat (first | refine N7 ?_ | refine wp_skip ?_)
  refine ⟨by (repeat (first | refine j2 rfl ?_ | exact i6 | refine j3 rfl ?_ | exact f5)),_,rfl,?_,rfl⟩
  unfold bot
  rw [hp2,if_neg hc]
  exact hdv
 rintro u2 w7 ⟨dv2,h12,hdv2,rfl⟩
 refine j9 1 h12 ?_
 repeat (first | refine i1 rfl hg5 rfl ?_ | refine wW ?_ | refine l6 rfl ?_)
 refine j1 (Z7 (mkRat z d).num hmv hp1 ?_) rfl ?_
 ·rw [hp3]
  exact ⟨fun h=>⟨h,by have:=hp3.2 h; omega⟩,fun h=>h.1⟩
 rintro v8 w8 ⟨k8,m8,rfl,h8⟩
 repeat (first | refine r7 ?_)
 refine b08 (by conv=>(lhs; whnf)) (by conv=>(lhs; whnf)) hdv2.one ?_
 refine G8 rfl (by conv=>(lhs; whnf)) (hg25.to k8) rfl rfl h8.one hdv2.one ?_
 intro w9 k9 hg9
 repeat refine wW ?_
 exact Y0 rfl (o7 hg9 rfl) ⟨Keeps.past (k5.trans k8) k9 (by omega),m8,dv2,rfl,h8.wrT k9 (hg25.to k8) (by decide),(hdv2.to k8).wrT k9 (hg25.to k8) (by decide)⟩
theorem br6 (a b : Rat) : a * b = mkRat (a.num * b.num) (a.den * b.den):=by
 rw [Rat.mul_def]
 unfold mkRat
 rw [dif_neg (Nat.mul_ne_zero a.den_nz b.den_nz)]
theorem bh5 (a b : Rat) (hb : b.num ≠ 0) : a / b = mkRat (a.num * b.den * b.num.sign) (a.den * b.num.natAbs):=by
 rw [Rat.div_def,Rat.inv_def]
 have h1 : a = Rat.divInt a.num a.den:=by rw [Rat.divInt_ofNat]; exact (Rat.mkRat_self a).symm
 conv=>lhs; rw [h1]
 rw [Rat.divInt_mul_divInt]
 rcases Int.lt_trichotomy b.num 0 with h | h | h
 ·have e1 : (a.den : Int) * b.num = -((a.den * b.num.natAbs : Nat) : Int):=by
   rw [Int.natCast_mul,show ((b.num.natAbs : Nat) : Int) = -b.num by omega,Int.mul_neg,Int.neg_neg]
  rw [e1,Int.sign_eq_neg_one_of_neg h,Rat.divInt_neg',Rat.divInt_ofNat]
  congr 1
  rw [Int.mul_neg,Int.mul_one]
 ·exact absurd h hb
 have e1 : (a.den : Int) * b.num = ((a.den * b.num.natAbs : Nat) : Int):=by
  rw [Int.natCast_mul,show ((b.num.natAbs : Nat) : Int) = b.num by omega]
 rw [e1,Int.sign_eq_one_of_pos h,Rat.divInt_ofNat]
 congr 1
 rw [Int.mul_one]
theorem dn1 {S : Nat → Prop} {w : World} {va vb : Value} {a b : Rat} (hS : Up S w) (ha : RatV S w va a) (hb : RatV S w vb b) (hla : rl a 400000000000) (hlb : rl b 400000000000) :
  Gives prog 169 [va,vb] w fun v' w'=>Ext w w' ∧ RatV S w' v' (a + b):=by
 rw [Rat.add_def']
 have h1:=ay9 a.num b.den
 have h2:=ay9 b.num a.den
 have h3:=c64 (a.num * b.den) (b.num * a.den)
 have h4:=aj4 a.den b.den
 have hd0 : 0 < a.den * b.den:=Nat.mul_pos a.den_pos b.den_pos
 obtain ⟨hla1,hla2⟩:=hla
 obtain ⟨hlb1,hlb2⟩:=hlb
 unfold zl at *
 rw [Int.natAbs_natCast] at h1 h2
 have ha0:=ha
 have hb0:=hb
 obtain ⟨ma,ba,rfl,hma,hba⟩:=ha
 obtain ⟨mb,bb,rfl,hmb,hbb⟩:=hb
 refine l7 func169 rfl rfl rfl ?_
 repeat refine wW ?_
 refine z8 (cs:=[.bool (tst (a.num < 0)),ma,ba]) rfl ?_
 intro w1 ga k1 hga hgsa
 skip
 refine z8 (cs:=[.bool (tst (b.num < 0)),mb,bb]) rfl ?_
 intro w2 gb k2 hgb hgsb
 skip
 refine r5 (cs:=[.bool false,.slice none 0 0,.slice none 0 0]) rfl ?_
 intro w3 g k3 hg hgs
 replace hga:=hga.to (k2.trans k3)
 replace hgb:=hgb.to k3
 have k:=(k1.trans k2).trans k3
 have hs:=(k1.trans k2).size
 replace ha0:=ha0.to k
 replace hb0:=hb0.to k
 replace hma:=hma.to k
 replace hmb:=hmb.to k
 replace hba:=hba.to k
 replace hbb:=hbb.to k
 replace hS:=hS.to k
 clear k1 k2 k3
 repeat refine wW ?_
 refine A6 17 ?_
 apply b7
 ·intro x w1 k1 hd
  refine l6 rfl ?_
  refine d6 ?_
  exact j7
 apply b7
 ·intro x w1 k1 hd
  refine E5 rfl (hga.to k1) rfl rfl ?_
  refine d6 ?_
  exact j7
 apply b7
 ·intro x w1 k1 hd
  refine o5 rfl (hgb.to k1) rfl ?_
  refine d6 ?_
  exact j7
 refine b7 (e:=am8 S 227 .u32 (b.den : Int)) ?_ ?_
 ·intro x w1 k1 hd
  refine j1 (a71 (hS.to k1) (hb0.to k1)) rfl ?_
  rintro v2 w2 ⟨k2,h2⟩
  exact d6 (D7 k2 h2)
 refine b7 (e:=am8 S 227 .u32 (a.num * b.den)) ?_ ?_
 ·intro x w1 k1 hd
  refine j1 (as8 (hS.to k1) ⟨ma,rfl,hma.to k1⟩ hd.1 (by unfold zl; omega) (by unfold zl; rw [Int.natAbs_natCast]; omega)) rfl ?_
  rintro v2 w2 ⟨k2,h2⟩
  exact d6 (D7 k2 h2)
 apply b7
 ·intro x w1 k1 hd
  refine l6 rfl ?_
  refine d6 ?_
  exact j7
 apply b7
 ·intro x w1 k1 hd
  refine E5 rfl (hgb.to k1) rfl rfl ?_
  refine d6 ?_
  exact j7
 apply b7
 ·intro x w1 k1 hd
  refine o5 rfl (hga.to k1) rfl ?_
  refine d6 ?_
  exact j7
 refine b7 (e:=am8 S 227 .u32 (a.den : Int)) ?_ ?_
 ·intro x w1 k1 hd
  refine j1 (a71 (hS.to k1) (ha0.to k1)) rfl ?_
  rintro v2 w2 ⟨k2,h2⟩
  exact d6 (D7 k2 h2)
 refine b7 (e:=am8 S 227 .u32 (b.num * a.den)) ?_ ?_
 ·intro x w1 k1 hd
  refine j1 (as8 (hS.to k1) ⟨mb,rfl,hmb.to k1⟩ hd.1 (by unfold zl; omega) (by unfold zl; rw [Int.natAbs_natCast]; omega)) rfl ?_
  rintro v2 w2 ⟨k2,h2⟩
  exact d6 (D7 k2 h2)
 refine b7 (e:=am8 S 227 .u32 (a.num * b.den + b.num * a.den)) ?_ ?_
 ·intro x w1 k1 hd
  refine j1 (ck9 (hS.to k1) hd.2.2.2.2.2.1 hd.1 (by omega) (by omega)) rfl ?_
  rintro v2 w2 ⟨k2,h2⟩
  exact d6 (D7 k2 h2)
 apply b7
 ·intro x w1 k1 hd
  refine o5 rfl (hga.to k1) rfl ?_
  refine d6 ?_
  exact j7
 refine b7 (e:=ar8 S 227 .u32 a.den) ?_ ?_
 ·intro x w1 k1 hd
  refine j1 (bc4 (hS.to k1) (ha0.to k1)) rfl ?_
  rintro v2 w2 ⟨k2,h2⟩
  exact d6 (D7 k2 h2)
 apply b7
 ·intro x w1 k1 hd
  refine o5 rfl (hgb.to k1) rfl ?_
  refine d6 ?_
  exact j7
 refine b7 (e:=ar8 S 227 .u32 b.den) ?_ ?_
 ·intro x w1 k1 hd
  refine j1 (bc4 (hS.to k1) (hb0.to k1)) rfl ?_
  rintro v2 w2 ⟨k2,h2⟩
  exact d6 (D7 k2 h2)
 refine b7 (e:=ar8 S 227 .u32 (a.den * b.den)) ?_ ?_
 ·intro x w1 k1 hd
  refine j1 (ao9 (hS.to k1) hd.2.2.1 hd.1 (by omega) (by omega)) rfl ?_
  rintro v2 w2 ⟨k2,h2⟩
  exact d6 (D7 k2 h2)
 refine b7 (e:=dr7 S (mkRat (a.num * b.den + b.num * a.den) (a.den * b.den))) ?_ ?_
 ·intro x w1 k1 hd
  refine j1 (bb2 (hS.to k1) hd.2.2.2.2.2.1 hd.1 hd0 (by unfold zl; omega) (by omega)) rfl ?_
  rintro v2 w2 ⟨k2,h2⟩
  exact d6 (D7 k2 h2)
 refine J1 (J5 ?_)
 intro x w5 k5 hall
 obtain ⟨m5,b5,hv5,h5,h6⟩:=hall.1
 refine G8 rfl hv5 (hg.to k5) rfl rfl h5.one h6.one ?_
 intro w6 k6 hg6
 repeat refine wW ?_
 exact Y0 rfl (o7 hg6 rfl) ⟨Keeps.past (k.trans k5) k6 (by omega),m5,b5,rfl,h5.wrT k6 (hg.to k5) (by decide),h6.wrT k6 (hg.to k5) (by decide)⟩
theorem c75 {S : Nat → Prop} {w : World} {va vb : Value} {a b : Rat} (hS : Up S w) (ha : RatV S w va a) (hb : RatV S w vb b) (hla : rl a 400000000000) (hlb : rl b 400000000000) :
  Gives prog 161 [va,vb] w fun v' w'=>Ext w w' ∧ RatV S w' v' (a * b):=by
 rw [br6]
 have h1:=ay9 a.num b.num
 have h4:=aj4 a.den b.den
 have hd0 : 0 < a.den * b.den:=Nat.mul_pos a.den_pos b.den_pos
 obtain ⟨hla1,hla2⟩:=hla
 obtain ⟨hlb1,hlb2⟩:=hlb
 unfold zl at *
 have ha0:=ha
 have hb0:=hb
 obtain ⟨ma,ba,rfl,hma,hba⟩:=ha
 obtain ⟨mb,bb,rfl,hmb,hbb⟩:=hb
 refine l7 func161 rfl rfl rfl ?_
 repeat refine wW ?_
 refine z8 (cs:=[.bool (tst (a.num < 0)),ma,ba]) rfl ?_
 intro w1 ga k1 hga hgsa
 skip
 refine z8 (cs:=[.bool (tst (b.num < 0)),mb,bb]) rfl ?_
 intro w2 gb k2 hgb hgsb
 skip
 refine r5 (cs:=[.bool false,.slice none 0 0,.slice none 0 0]) rfl ?_
 intro w3 g k3 hg hgs
 replace hga:=hga.to (k2.trans k3)
 replace hgb:=hgb.to k3
 have k:=(k1.trans k2).trans k3
 have hs:=(k1.trans k2).size
 replace ha0:=ha0.to k
 replace hb0:=hb0.to k
 replace hma:=hma.to k
 replace hmb:=hmb.to k
 replace hba:=hba.to k
 replace hbb:=hbb.to k
 replace hS:=hS.to k
 clear k1 k2 k3
 repeat refine wW ?_
 refine A6 11 ?_
 apply b7
 ·intro x w1 k1 hd
  refine l6 rfl ?_
  refine d6 ?_
  exact j7
 apply b7
 ·intro x w1 k1 hd
  refine E5 rfl (hga.to k1) rfl rfl ?_
  refine d6 ?_
  exact j7
 apply b7
 ·intro x w1 k1 hd
  refine l6 rfl ?_
  refine d6 ?_
  exact j7
 apply b7
 ·intro x w1 k1 hd
  refine E5 rfl (hgb.to k1) rfl rfl ?_
  refine d6 ?_
  exact j7
 refine b7 (e:=am8 S 227 .u32 (a.num * b.num)) ?_ ?_
 ·intro x w1 k1 hd
  refine j1 (as8 (hS.to k1) ⟨ma,rfl,hma.to k1⟩ ⟨mb,rfl,hmb.to k1⟩ (by unfold zl; omega) (by unfold zl; omega)) rfl ?_
  rintro v2 w2 ⟨k2,h2⟩
  exact d6 (D7 k2 h2)
 apply b7
 ·intro x w1 k1 hd
  refine o5 rfl (hga.to k1) rfl ?_
  refine d6 ?_
  exact j7
 refine b7 (e:=ar8 S 227 .u32 a.den) ?_ ?_
 ·intro x w1 k1 hd
  refine j1 (bc4 (hS.to k1) (ha0.to k1)) rfl ?_
  rintro v2 w2 ⟨k2,h2⟩
  exact d6 (D7 k2 h2)
 apply b7
 ·intro x w1 k1 hd
  refine o5 rfl (hgb.to k1) rfl ?_
  refine d6 ?_
  exact j7
 refine b7 (e:=ar8 S 227 .u32 b.den) ?_ ?_
 ·intro x w1 k1 hd
  refine j1 (bc4 (hS.to k1) (hb0.to k1)) rfl ?_
  rintro v2 w2 ⟨k2,h2⟩
  exact d6 (D7 k2 h2)
 refine b7 (e:=ar8 S 227 .u32 (a.den * b.den)) ?_ ?_
 ·intro x w1 k1 hd
  refine j1 (ao9 (hS.to k1) hd.2.2.1 hd.1 (by omega) (by omega)) rfl ?_
  rintro v2 w2 ⟨k2,h2⟩
  exact d6 (D7 k2 h2)
 refine b7 (e:=dr7 S (mkRat (a.num * b.num) (a.den * b.den))) ?_ ?_
 ·intro x w1 k1 hd
  refine j1 (bb2 (hS.to k1) hd.2.2.2.2.2.1 hd.1 hd0 (by unfold zl; omega) (by omega)) rfl ?_
  rintro v2 w2 ⟨k2,h2⟩
  exact d6 (D7 k2 h2)
 refine J1 (J5 ?_)
 intro x w5 k5 hall
 obtain ⟨m5,b5,hv5,h5,h6⟩:=hall.1
 refine G8 rfl hv5 (hg.to k5) rfl rfl h5.one h6.one ?_
 intro w6 k6 hg6
 repeat refine wW ?_
 exact Y0 rfl (o7 hg6 rfl) ⟨Keeps.past (k.trans k5) k6 (by omega),m5,b5,rfl,h5.wrT k6 (hg.to k5) (by decide),h6.wrT k6 (hg.to k5) (by decide)⟩
theorem b65 (a b : Rat) (hb : b.num ≠ 0) : (a.num * b.den * b.num.sign).natAbs = a.num.natAbs * b.den:=by
 have h1 : b.num.sign.natAbs = 1:=by
  rcases Int.lt_trichotomy b.num 0 with h | h | h
  ·rw [Int.sign_eq_neg_one_of_neg h]; rfl
  ·exact absurd h hb
  rw [Int.sign_eq_one_of_pos h]; rfl
 rw [Int.natAbs_mul,Int.natAbs_mul,h1,Int.natAbs_natCast,Nat.mul_one]
theorem cq9 (a b : Rat) (hb : b.num ≠ 0) : a.num * b.den * b.num.sign < 0 ↔ (¬ (a.num < 0 ↔ b.num < 0)) ∧ 0 < a.num.natAbs * b.den:=by
 have hd:=b.den_pos
 have e : a.num.natAbs * b.den = a.num.natAbs * (b.den : Int).natAbs:=by rw [Int.natAbs_natCast]
 have h0:=b54 a.num b.den
 have hdn : ¬ ((b.den : Int) < 0):=by omega
 rw [Int.natAbs_natCast] at h0
 rcases Int.lt_trichotomy b.num 0 with h | h | h
 ·rw [Int.sign_eq_neg_one_of_neg h,Int.mul_neg,Int.mul_one]
  have hp : 0 < a.num.natAbs * b.den ↔ a.num ≠ 0:=by
   constructor
   ·intro h1 h2; rw [h2] at h1; simp at h1
   intro h1; exact Nat.mul_pos (by omega) hd
  rw [hp] at h0 ⊢
  have hz : a.num = 0 → a.num * (b.den : Int) = 0:=fun h=>by rw [h]; simp
  have hnz : a.num * (b.den : Int) = 0 → a.num = 0:=fun h=>by
   rcases Int.mul_eq_zero.1 h with h | h
   ·exact h
   omega
  constructor
  ·intro h1
   refine ⟨fun hi=>?_,fun hi=>by have:=hz hi; omega⟩
   have : a.num < 0:=hi.2 h
   have h2:=h0.2 ⟨fun x=>hdn (x.1 this),by omega⟩
   omega
  rintro ⟨h1,h2⟩
  have h3 : ¬ a.num < 0:=fun x=>h1 ⟨fun _=>h,fun _=>x⟩
  have h4 : ¬ a.num * (b.den : Int) < 0:=fun x=>(h0.1 x).1 ⟨fun y=>absurd y h3,fun y=>absurd y hdn⟩
  have : a.num * (b.den : Int) ≠ 0:=fun x=>h2 (hnz x)
  omega
 ·exact absurd h hb
 rw [Int.sign_eq_one_of_pos h,Int.mul_one,h0]
 have h2 : ¬ b.num < 0:=by omega
 constructor
 ·rintro ⟨h1,h3⟩
  exact ⟨fun hi=>h1 ⟨fun x=>absurd (hi.1 x) h2,fun x=>absurd x hdn⟩,h3⟩
 rintro ⟨h1,h3⟩
 exact ⟨fun hi=>h1 ⟨fun x=>absurd (hi.1 x) hdn,fun x=>absurd x h2⟩,h3⟩
theorem dj2 {S : Nat → Prop} {w : World} {va vb : Value} {a b : Rat} (hS : Up S w) (ha : RatV S w va a) (hb : RatV S w vb b) (hla : rl a 400000000000) (hlb : rl b 400000000000) (hb0' : b.num ≠ 0) :
  Gives prog 124 [va,vb] w fun v' w'=>Ext w w' ∧ RatV S w' v' (a / b):=by
 rw [bh5 a b hb0']
 have h1:=aj4 a.num.natAbs b.den
 have h4:=aj4 a.den b.num.natAbs
 have hd0 : 0 < a.den * b.num.natAbs:=Nat.mul_pos a.den_pos (by omega)
 have hab:=b65 a b hb0'
 have hsg:=cq9 a b hb0'
 obtain ⟨hla1,hla2⟩:=hla
 obtain ⟨hlb1,hlb2⟩:=hlb
 have ha0:=ha
 have hb0:=hb
 obtain ⟨ma,ba,rfl,hma,hba⟩:=ha
 obtain ⟨mb,bb,rfl,hmb,hbb⟩:=hb
 refine l7 func124 rfl rfl rfl ?_
 repeat refine wW ?_
 refine z8 (cs:=[.bool (tst (a.num < 0)),ma,ba]) rfl ?_
 intro w1 ga k1 hga hgsa
 skip
 refine z8 (cs:=[.bool (tst (b.num < 0)),mb,bb]) rfl ?_
 intro w2 gb k2 hgb hgsb
 skip
 refine r5 (cs:=[.bool false,.slice none 0 0,.slice none 0 0]) rfl ?_
 intro w3 g k3 hg hgs
 replace hga:=hga.to (k2.trans k3)
 replace hgb:=hgb.to k3
 have k:=(k1.trans k2).trans k3
 have hs:=(k1.trans k2).size
 replace ha0:=ha0.to k
 replace hb0:=hb0.to k
 replace hma:=hma.to k
 replace hmb:=hmb.to k
 replace hba:=hba.to k
 replace hbb:=hbb.to k
 replace hS:=hS.to k
 clear k1 k2 k3
 repeat refine wW ?_
 refine A6 21 ?_
 apply b7
 ·intro x w1 k1 hd
  refine l6 rfl ?_
  refine d6 ?_
  exact j7
 apply b7
 ·intro x w1 k1 hd
  refine l6 rfl ?_
  refine d6 ?_
  exact j7
 apply b7
 ·intro x w1 k1 hd
  refine i1 rfl (hga.to k1) rfl ?_
  refine d6 ?_
  exact j7
 apply b7
 ·intro x w1 k1 hd
  refine l6 rfl ?_
  refine d6 ?_
  exact j7
 apply b7
 ·intro x w1 k1 hd
  refine l6 rfl ?_
  refine d6 ?_
  exact j7
 apply b7
 ·intro x w1 k1 hd
  refine i1 rfl (hgb.to k1) rfl ?_
  refine d6 ?_
  exact j7
 apply b7
 ·intro x w1 k1 hd
  refine ce0 rfl rfl ?_
  refine d6 ?_
  exact j7
 apply b7
 ·intro x w1 k1 hd
  refine l6 rfl ?_
  refine d6 ?_
  exact j7
 apply b7
 ·intro x w1 k1 hd
  refine l6 rfl ?_
  refine d6 ?_
  exact j7
 apply b7
 ·intro x w1 k1 hd
  refine i1 rfl (hga.to k1) rfl ?_
  refine d6 ?_
  exact j7
 apply b7
 ·intro x w1 k1 hd
  refine o5 rfl (hgb.to k1) rfl ?_
  refine d6 ?_
  exact j7
 refine b7 (e:=ar8 S 227 .u32 b.den) ?_ ?_
 ·intro x w1 k1 hd
  refine j1 (bc4 (hS.to k1) (hb0.to k1)) rfl ?_
  rintro v2 w2 ⟨k2,h2⟩
  exact d6 (D7 k2 h2)
 refine b7 (e:=ar8 S 227 .u32 (a.num.natAbs * b.den)) ?_ ?_
 ·intro x w1 k1 hd
  refine j1 (ao9 (hS.to k1) (hma.to k1) hd.1 (by omega) (by omega)) rfl ?_
  rintro v2 w2 ⟨k2,h2⟩
  exact d6 (D7 k2 h2)
 refine b7 (e:=am8 S 227 .u32 (a.num * b.den * b.num.sign)) ?_ ?_
 ·intro x w1 k1 hd
  refine j1 (Z7 (a.num * b.den * b.num.sign) hd.1 hab hsg) rfl ?_
  rintro v2 w2 ⟨k2,h2⟩
  exact d6 (D7 k2 h2)
 apply b7
 ·intro x w1 k1 hd
  refine o5 rfl (hga.to k1) rfl ?_
  refine d6 ?_
  exact j7
 refine b7 (e:=ar8 S 227 .u32 a.den) ?_ ?_
 ·intro x w1 k1 hd
  refine j1 (bc4 (hS.to k1) (ha0.to k1)) rfl ?_
  rintro v2 w2 ⟨k2,h2⟩
  exact d6 (D7 k2 h2)
 apply b7
 ·intro x w1 k1 hd
  refine l6 rfl ?_
  refine d6 ?_
  exact j7
 apply b7
 ·intro x w1 k1 hd
  refine l6 rfl ?_
  refine d6 ?_
  exact j7
 apply b7
 ·intro x w1 k1 hd
  refine i1 rfl (hgb.to k1) rfl ?_
  refine d6 ?_
  exact j7
 refine b7 (e:=ar8 S 227 .u32 (a.den * b.num.natAbs)) ?_ ?_
 ·intro x w1 k1 hd
  refine j1 (ao9 (hS.to k1) hd.2.2.2.1 (hmb.to k1) (by omega) (by omega)) rfl ?_
  rintro v2 w2 ⟨k2,h2⟩
  exact d6 (D7 k2 h2)
 refine b7 (e:=dr7 S (mkRat (a.num * b.den * b.num.sign) (a.den * b.num.natAbs))) ?_ ?_
 ·intro x w1 k1 hd
  refine j1 (bb2 (hS.to k1) hd.2.2.2.2.2.2.1 hd.1 hd0 (by unfold zl; rw [hab]; omega) (by omega)) rfl ?_
  rintro v2 w2 ⟨k2,h2⟩
  exact d6 (D7 k2 h2)
 refine J1 (J5 ?_)
 intro x w5 k5 hall
 obtain ⟨m5,b5,hv5,h5,h6⟩:=hall.1
 refine G8 rfl hv5 (hg.to k5) rfl rfl h5.one h6.one ?_
 intro w6 k6 hg6
 repeat refine wW ?_
 exact Y0 rfl (o7 hg6 rfl) ⟨Keeps.past (k.trans k5) k6 (by omega),m5,b5,rfl,h5.wrT k6 (hg.to k5) (by decide),h6.wrT k6 (hg.to k5) (by decide)⟩
theorem dr4 {S : Nat → Prop} {w : World} {va vb : Value} {a b : Int} (hS : Up S w) (ha : IntV S 227 .u32 w va a) (hb : IntV S 227 .u32 w vb b) (hla : zl a ≤ 1099511627000) (hlb : zl b ≤ 1099511627000) :
  Gives prog 146 [va,vb] w fun v' w'=>Ext w w' ∧ v' = .int .i64 (a - b).sign:=
 (d41 hS ha hb hla hlb).mono fun v w h=>⟨h.2,h.1⟩
theorem cb2 {S : Nat → Prop} {w : World} {va vb : Value} {a b : Rat} (hS : Up S w) (ha : RatV S w va a) (hb : RatV S w vb b) (hla : rl a 400000000000) (hlb : rl b 400000000000) :
  Gives prog 97 [va,vb] w fun v' w'=>v' = .int .i64 (a.num * b.den - b.num * a.den).sign ∧ Ext w w':=by
 have h1:=ay9 a.num b.den
 have h2:=ay9 b.num a.den
 obtain ⟨hla1,hla2⟩:=hla
 obtain ⟨hlb1,hlb2⟩:=hlb
 unfold zl at *
 rw [Int.natAbs_natCast] at h1 h2
 have ha0:=ha
 have hb0:=hb
 obtain ⟨ma,ba,rfl,hma,hba⟩:=ha
 obtain ⟨mb,bb,rfl,hmb,hbb⟩:=hb
 refine l7 func97 rfl rfl rfl ?_
 repeat refine wW ?_
 refine z8 (cs:=[.bool (tst (a.num < 0)),ma,ba]) rfl ?_
 intro w1 ga k1 hga hgsa
 skip
 refine z8 (cs:=[.bool (tst (b.num < 0)),mb,bb]) rfl ?_
 intro w2 gb k2 hgb hgsb
 have k3 : Ext w2 w2:=.refl
 replace hga:=hga.to k2
 have k:=k1.trans k2
 replace ha0:=ha0.to k
 replace hb0:=hb0.to k
 replace hma:=hma.to k
 replace hmb:=hmb.to k
 replace hba:=hba.to k
 replace hbb:=hbb.to k
 replace hS:=hS.to k
 clear k1 k2 k3
 repeat refine wW ?_
 refine A6 11 ?_
 apply b7
 ·intro x w1 k1 hd
  refine l6 rfl ?_
  refine d6 ?_
  exact j7
 apply b7
 ·intro x w1 k1 hd
  refine E5 rfl (hga.to k1) rfl rfl ?_
  refine d6 ?_
  exact j7
 apply b7
 ·intro x w1 k1 hd
  refine o5 rfl (hgb.to k1) rfl ?_
  refine d6 ?_
  exact j7
 refine b7 (e:=am8 S 227 .u32 (b.den : Int)) ?_ ?_
 ·intro x w1 k1 hd
  refine j1 (a71 (hS.to k1) (hb0.to k1)) rfl ?_
  rintro v2 w2 ⟨k2,h2⟩
  exact d6 (D7 k2 h2)
 refine b7 (e:=am8 S 227 .u32 (a.num * b.den)) ?_ ?_
 ·intro x w1 k1 hd
  refine j1 (as8 (hS.to k1) ⟨ma,rfl,hma.to k1⟩ hd.1 (by unfold zl; omega) (by unfold zl; rw [Int.natAbs_natCast]; omega)) rfl ?_
  rintro v2 w2 ⟨k2,h2⟩
  exact d6 (D7 k2 h2)
 apply b7
 ·intro x w1 k1 hd
  refine l6 rfl ?_
  refine d6 ?_
  exact j7
 apply b7
 ·intro x w1 k1 hd
  refine E5 rfl (hgb.to k1) rfl rfl ?_
  refine d6 ?_
  exact j7
 apply b7
 ·intro x w1 k1 hd
  refine o5 rfl (hga.to k1) rfl ?_
  refine d6 ?_
  exact j7
 refine b7 (e:=am8 S 227 .u32 (a.den : Int)) ?_ ?_
 ·intro x w1 k1 hd
  refine j1 (a71 (hS.to k1) (ha0.to k1)) rfl ?_
  rintro v2 w2 ⟨k2,h2⟩
  exact d6 (D7 k2 h2)
 refine b7 (e:=am8 S 227 .u32 (b.num * a.den)) ?_ ?_
 ·intro x w1 k1 hd
  refine j1 (as8 (hS.to k1) ⟨mb,rfl,hmb.to k1⟩ hd.1 (by unfold zl; omega) (by unfold zl; rw [Int.natAbs_natCast]; omega)) rfl ?_
  rintro v2 w2 ⟨k2,h2⟩
  exact d6 (D7 k2 h2)
 refine b7 (e:=Ent.of (fun v w=>v = .int .i64 (a.num * b.den - b.num * a.den).sign) (fun v w w' h _=>h)) ?_ ?_
 ·intro x w1 k1 hd
  refine j1 (dr4 (hS.to k1) hd.2.2.2.2.2.1 hd.1 (by unfold zl; omega) (by unfold zl; omega)) rfl ?_
  rintro v2 w2 ⟨k2,h2⟩
  exact d6 (D7 k2 h2)
 refine J1 (J5 ?_)
 intro x w5 k5 hall
 have hv : x 10 = .int .i64 (a.num * b.den - b.num * a.den).sign:=hall.1
 repeat refine wW ?_
 exact X5 rfl hv ⟨rfl,k.trans k5⟩
theorem ck5 {S : Nat → Prop} {w : World} {v : Value} {q : Rat} (h : RatV S w v q) :
  Gives prog 79 [v] w fun v' w'=>v' = .int .i64 q.num.sign ∧ Ext w w':=by
 obtain ⟨m,b,rfl,hm,hb⟩:=h
 refine l7 func79 rfl rfl rfl ?_
 repeat refine wW ?_
 refine z8 (cs:=[.bool (tst (q.num < 0)),m,b]) rfl ?_
 intro w1 g k1 hg hgs
 repeat (first | refine E5 rfl hg rfl rfl ?_ | refine wW ?_ | refine l6 rfl ?_)
 refine j1 (cf5 (z:=q.num) ⟨m,rfl,hm.to k1⟩) rfl ?_
 rintro v2 w2 ⟨rfl,k2⟩
 repeat refine wW ?_
 exact q5 rfl ⟨rfl,k1.trans k2⟩
theorem dl9 (q : Rat) : bot (-q) = bot q:=by unfold bot; rw [Rat.neg_den]
theorem U0 {S : Nat → Prop} {w : World} {v : Value} {q : Rat} (h : RatV S w v q) :
  Gives prog 72 [v] w fun v' w'=>Ext w w' ∧ RatV S w' v' (-q):=by
 obtain ⟨m,b,rfl,hm,hb⟩:=h
 refine l7 func72 rfl rfl rfl ?_
 repeat refine wW ?_
 refine z8 (cs:=[.bool (tst (q.num < 0)),m,b]) rfl ?_
 intro w1 ga k1 hga hgsa
 skip
 refine r5 (cs:=[.bool false,.slice none 0 0,.slice none 0 0]) rfl ?_
 intro w2 g k2 hg hgs
 replace hga:=hga.to k2
 have k:=k1.trans k2
 have hs:=k1.size
 replace hm:=hm.to k
 replace hb:=hb.to k
 clear k1 k2
 repeat refine wW ?_
 refine A6 6 ?_
 apply b7
 ·intro x w1 k1 hd
  refine l6 rfl ?_
  refine d6 ?_
  exact j7
 apply b7
 ·intro x w1 k1 hd
  refine E5 rfl (hga.to k1) rfl rfl ?_
  refine d6 ?_
  exact j7
 refine b7 (e:=am8 S 227 .u32 (-q.num)) ?_ ?_
 ·intro x w1 k1 hd
  refine j1 (c22 ⟨m,rfl,hm.to k1⟩) rfl ?_
  rintro v2 w2 ⟨k2,h2⟩
  exact d6 (D7 k2 h2)
 apply b7
 ·intro x w1 k1 hd
  refine l6 rfl ?_
  refine d6 ?_
  exact j7
 apply b7
 ·intro x w1 k1 hd
  refine i1 rfl (hga.to k1) rfl ?_
  refine d6 ?_
  exact j7
 refine b7 (e:=dr7 S (-q)) ?_ ?_
 ·intro x w1 k1 hd
  obtain ⟨m1,hx1,h1⟩ : IntV S 227 .u32 w1 (x 2) (-q.num):=hd.2.2.1
  refine b08 hx1 rfl hb.one ?_
  refine d6 (D7 .refl ⟨m1,b,?_,?_,?_⟩)
  ·rw [Rat.neg_num]; rfl
  ·rw [Rat.neg_num]; exact h1
  rw [dl9]; exact hb.to k1
 refine J1 (J5 ?_)
 intro x w5 k5 hall
 obtain ⟨m5,b5,hv5,h5,h6⟩:=hall.1
 refine G8 rfl hv5 (hg.to k5) rfl rfl h5.one h6.one ?_
 intro w6 k6 hg6
 repeat refine wW ?_
 exact Y0 rfl (o7 hg6 rfl) ⟨Keeps.past (k.trans k5) k6 (by omega),m5,b5,rfl,h5.wrT k6 (hg.to k5) (by decide),h6.wrT k6 (hg.to k5) (by decide)⟩
theorem ck4 (z : Int) : bot (z : Rat) = 0:=by unfold bot; simp
theorem c06 {S : Nat → Prop} {w : World} {z : Int} (hS : Up S w) (h0 : -9223372036854775808 ≤ z) (h1 : z ≤ 9223372036854775807) :
  Gives prog 62 [.int .i64 z] w fun v' w'=>Ext w w' ∧ RatV S w' v' (z : Rat):=by
 refine l7 func62 rfl rfl rfl ?_
 repeat refine wW ?_
 refine r5 (cs:=[.bool false,.slice none 0 0,.slice none 0 0]) rfl ?_
 intro w1 g k1 hg hgs
 repeat refine wW ?_
 refine j1 (dn7 (hS.to k1) h0 h1) rfl ?_
 rintro v2 w2 ⟨k2,m2,rfl,h2⟩
 refine bc2 (by conv=>(lhs; whnf)) ?_
 refine G8 rfl (by conv=>(lhs; whnf)) (hg.to k2) rfl rfl h2.one rfl ?_
 intro w3 k3 hg3
 repeat refine wW ?_
 refine Y0 rfl (o7 hg3 rfl) ⟨Keeps.past (k1.trans k2) k3 (by omega),m2,_,rfl,h2.wrT k3 (hg.to k2) (by decide),?_⟩
 rw [ck4]
 exact .nil
theorem b32 (a b : Int) (hb : b ≠ 0) : (a * b.sign).natAbs = a.natAbs:=by
 rcases Int.lt_trichotomy b 0 with h | h | h
 ·rw [Int.sign_eq_neg_one_of_neg h]; omega
 ·exact absurd h hb
 rw [Int.sign_eq_one_of_pos h]; omega
section rules
variable {P : Program} {n : Nat} {Q : G3} {ρ : Fr} {w : World} {all rest : List Oper} {d : Tmp} {ty : TypeId} {pos : String} {aft : Array Edge}
theorem dt0 {a b c e : Value} (h1 : a.oneCell' = true) (h2 : b.oneCell' = true) (h3 : c.oneCell' = true) (h4 : e.oneCell' = true) : ∀ v ∈ [a,b,c,e],v.oneCell' = true:=fun v hv=>by
 simp only [List.mem_cons,List.not_mem_nil,or_false] at hv
 rcases hv with rfl | rfl | rfl | rfl <;> assumption
theorem cw8 {T : TypeId} {bb : Nat} {z0 z1 z2 z3 : Value} [ti : TyI P T 4 bb (.agg #[z0,z1,z2,z3]) true] [st : StcT P T [(0,2),(2,2)]]
  {x y : Operand} {a b c e : Value} (hx : ev ρ x = .agg #[a,b]) (hy : ev ρ y = .agg #[c,e])
  (h : WpR P n all Q rest (upd ρ d (.agg #[a,b,c,e])) w) : WpR P n all Q (⟨some d,.build T #[(0,x),(1,y)],ty,pos,aft,none⟩ :: rest) ρ w:=
 a15 (parts:=[(0,x),(1,y)]) (zs:=[z0,z1,z2,z3]) (cs:=[a,b,c,e]) (vs:=[(0,.agg #[a,b]),(1,.agg #[c,e])]) rfl (by rw [← hx,← hy]; rfl)
  (a05 rfl (by simp) (a05 rfl (by simp) aq2)) h
theorem b46 {t : TypeId} {bb : Nat} {z : Value} {agg : Bool} [ti : TyI P t 4 bb z agg] {x y : Operand} {g : Nat} {T : TypeId} {a b c e : Value} {cs : List Value}
  (hx : ev ρ x = .pointer (some ⟨g,0,none⟩)) (hy : ev ρ y = .agg #[a,b,c,e]) (hb : Blk w g T cs) (hl : cs.length = 4) (h1 : a.oneCell' = true) (h2 : b.oneCell' = true) (h3 : c.oneCell' = true) (h4 : e.oneCell' = true)
  (h : ∀ w',Wrt g w w' → Blk w' g T [a,b,c,e] → WpR P n all Q rest ρ w') : WpR P n all Q (⟨none,.store t x y,ty,pos,aft,none⟩ :: rest) ρ w:=
 A5 (us:=[a,b,c,e]) hx hy rfl rfl hb hl (dt0 h1 h2 h3 h4) h
end rules
def QV (S : Nat → Prop) (w : World) (v : Value) (q : Rat) : Prop:=
 ∃ m b,v = .agg #[.bool (tst (q.num < 0)),m,.bool (tst ((q.den : Int) < 0)),b] ∧ y6 S 3 .i64 w m q.num.natAbs ∧ y6 S 3 .i64 w b q.den
theorem QV.keep {S : Nat → Prop} {w w' : World} {v : Value} {q : Rat} (h : QV S w v q) (k : Keeps S w w') : QV S w' v q:=let ⟨m,b,h1,h2,h3⟩:=h; ⟨m,b,h1,h2.keep k,h3.keep k⟩
theorem QV.mono {S S' : Nat → Prop} {w : World} {v : Value} {q : Rat} (h : QV S w v q) (hs : ∀ k,k < w.heap.size → S k → S' k) : QV S' w v q:=let ⟨m,b,h1,h2,h3⟩:=h; ⟨m,b,h1,h2.mono hs,h3.mono hs⟩
theorem dw5 {S : Nat → Prop} {w : World} {va vb : Value} {a b : Int} (hS : Up S w) (ha : ZV S w va a) (hb : ZV S w vb b) (hla : zl a ≤ 15999999999000) (hlb : zl b ≤ 15999999999000) :
  Gives prog 151 [va,vb] w fun v' w'=>Ext w w' ∧ ZV S w' v' (Int.gcd a b : Int):=by
 unfold zl at hla hlb
 have ha0:=ha
 have hb0:=hb
 obtain ⟨ma,rfl,hma⟩:=ha
 obtain ⟨mb,rfl,hmb⟩:=hb
 refine l7 func151 rfl rfl rfl ?_
 repeat refine wW ?_
 refine z8 (cs:=[.bool (tst (a < 0)),ma]) rfl ?_
 intro w1 ga k1 hga hgsa
 skip
 refine z8 (cs:=[.bool (tst (b < 0)),mb]) rfl ?_
 intro w2 gb k2 hgb hgsb
 replace hga:=hga.to k2
 have k:=k1.trans k2
 clear k1 k2
 skip
 have hsz:=k.size
 refine r5 (cs:=[.bool false,.slice none 0 0]) rfl ?_
 intro w3 g k3 hg hgs
 replace hga:=hga.to k3
 replace hgb:=hgb.to k3
 replace k:=k.trans k3
 clear k3
 replace ha0:=ha0.to k
 replace hb0:=hb0.to k
 replace hma:=hma.to k
 replace hmb:=hmb.to k
 replace hS:=hS.to k
 repeat (first | refine wW ?_ | refine l6 rfl ?_)
 repeat (first | refine i1 rfl hga rfl ?_ | refine i1 rfl hgb rfl ?_ | refine l6 rfl ?_)
 refine j1 (dx6 hS hma hmb (by omega) (by omega)) rfl ?_
 rintro v4 w4 ⟨k4,h4⟩
 skip
 refine j1 (dp6 h4) rfl ?_
 rintro v5 w5 ⟨k5,m5,rfl,h5⟩
 have hg5:=hg.to (k4.trans k5)
 skip
 refine D1 rfl (by conv=>(lhs; whnf)) hg5 rfl h5.one ?_
 intro w6 k6 hg6
 repeat refine wW ?_
 exact Y0 rfl (o7 hg6 rfl) ⟨Keeps.past ((k.trans k4).trans k5) k6 (by omega),m5,rfl,h5.wrT k6 hg5 (by decide)⟩
theorem dm0 {b c : Int} (hb : b ≠ 0) : (b * c).natAbs / b.natAbs = c.natAbs:=by
 rw [Int.natAbs_mul]
 exact Nat.mul_div_cancel_left _ (by omega)
theorem c72 {b c : Int} (hb : b ≠ 0) : c < 0 ↔ (¬ (b * c < 0 ↔ b < 0)) ∧ 0 < c.natAbs:=by
 rcases Int.lt_trichotomy c 0 with h | h | h
 ·rcases Int.lt_trichotomy b 0 with h1 | h1 | h1
  ·have:=Int.mul_pos_of_neg_of_neg h1 h
   constructor
   ·intro _; exact ⟨fun x=>by have:=x.2 h1; omega,by omega⟩
   intro _; exact h
  ·exact absurd h1 hb
  have:=Int.mul_neg_of_pos_of_neg h1 h
  constructor
  ·intro _; exact ⟨fun x=>by have:=x.1 this; omega,by omega⟩
  intro _; exact h
 ·subst h; simp
 rcases Int.lt_trichotomy b 0 with h1 | h1 | h1
 ·have:=Int.mul_neg_of_neg_of_pos h1 h
  constructor
  ·intro _; omega
  rintro ⟨x,_⟩; exact absurd ⟨fun _=>h1,fun _=>this⟩ x
 ·exact absurd h1 hb
 have:=Int.mul_pos h1 h
 constructor
 ·intro _; omega
 rintro ⟨x,_⟩; exact absurd ⟨fun y=>by omega,fun y=>by omega⟩ x
theorem c81 {S : Nat → Prop} {w : World} {va vb : Value} {a b : Int} (c : Int) (hS : Up S w) (ha : ZV S w va a) (hb : ZV S w vb b) (hla : zl a ≤ 15999999999000) (hlb : zl b ≤ 15999999999000) (hb0 : b ≠ 0) (hc : a = b * c) :
  Gives prog 152 [va,vb] w fun v' w'=>Ext w w' ∧ ZV S w' v' c:=by
 subst hc
 unfold zl at hla hlb
 refine l7 func152 rfl rfl rfl ?_
 obtain ⟨ma,rfl,hma⟩:=ha
 obtain ⟨mb,rfl,hmb⟩:=hb
 repeat refine wW ?_
 refine z8 (cs:=[.bool (tst (b * c < 0)),ma]) rfl ?_
 intro w1 ga k1 hga hgsa
 skip
 refine z8 (cs:=[.bool (tst (b < 0)),mb]) rfl ?_
 intro w2 gb k2 hgb hgsb
 skip
 refine r5 (cs:=[.bool false,.slice none 0 0]) rfl ?_
 intro w3 g k3 hg hgs
 replace hga:=hga.to (k2.trans k3)
 replace hgb:=hgb.to k3
 have k:=(k1.trans k2).trans k3
 have hs:=(k1.trans k2).size
 replace hma:=hma.to k
 replace hmb:=hmb.to k
 replace hS:=hS.to k
 clear k1 k2 k3
 repeat (first | refine i1 rfl hga rfl ?_ | refine i1 rfl hgb rfl ?_ | refine wW ?_ | refine l6 rfl ?_)
 refine j1 (da6 hS hma hmb (by omega) (by omega) (by omega)) rfl ?_
 rintro v4 w4 ⟨vq,vr,rfl,k4,hq,hr⟩
 rw [dm0 hb0] at hq
 replace hga:=hga.to k4
 replace hgb:=hgb.to k4
 repeat (first | refine i1 rfl hga rfl ?_ | refine i1 rfl hgb rfl ?_ | refine wW ?_ | refine D6 rfl rfl ?_ | refine ce0 rfl rfl ?_ | refine l6 rfl ?_)
 refine j1 (ay4 c hq rfl (c72 hb0)) rfl ?_
 rintro v5 w5 ⟨k5,m5,rfl,h5⟩
 have hg5:=hg.to (k4.trans k5)
 skip
 refine D1 rfl (by conv=>(lhs; whnf)) hg5 rfl h5.one ?_
 intro w6 k6 hg6
 repeat refine wW ?_
 exact Y0 rfl (o7 hg6 rfl) ⟨Keeps.past ((k.trans k4).trans k5) k6 (by omega),m5,rfl,h5.wrT k6 hg5 (by decide)⟩
theorem by5 (a b : Int) (hb : b ≠ 0) : ∃ g c e : Int,g = (Int.gcd a b : Int) ∧ 0 < g ∧ a = g * c ∧ b = g * e ∧ e ≠ 0 ∧
  (b < 0 → (mkRat (a * b.sign) b.natAbs).num = -c ∧ ((mkRat (a * b.sign) b.natAbs).den : Int) = -e) ∧ (¬ b < 0 → (mkRat (a * b.sign) b.natAbs).num = c ∧ ((mkRat (a * b.sign) b.natAbs).den : Int) = e):=by
 obtain ⟨c,hc⟩ : (Int.gcd a b : Int) ∣ a:=Int.gcd_dvd_left ..
 obtain ⟨e,he⟩ : (Int.gcd a b : Int) ∣ b:=Int.gcd_dvd_right ..
 have hg : 0 < Int.gcd a b:=Int.gcd_pos_of_ne_zero_right _ hb
 obtain ⟨_,h2,_,h4⟩:=ai5 (a * b.sign) (d:=b.natAbs) (by omega)
 have hn : (a * b.sign).natAbs = a.natAbs:=b32 a b hb
 have hgg : Nat.gcd b.natAbs (a * b.sign).natAbs = Int.gcd a b:=by rw [hn,Nat.gcd_comm]; rfl
 rw [hgg] at h2 h4
 generalize Int.gcd a b = g at *
 have he0 : e ≠ 0:=by rintro rfl; simp at he; exact hb he
 refine ⟨g,c,e,rfl,by omega,hc,he,he0,fun hneg=>?_,fun hneg=>?_⟩
 ·rw [h4,h2,Int.sign_eq_neg_one_of_neg hneg]
  constructor
  ·rw [hc,Int.mul_neg,Int.mul_one,← Int.mul_neg]
   exact Int.mul_ediv_cancel_left _ (by omega)
  have : b.natAbs = g * e.natAbs:=by rw [he,Int.natAbs_mul,Int.natAbs_natCast]
  rw [this,Nat.mul_div_cancel_left _ hg]
  have : e < 0:=by
   rcases Int.lt_trichotomy e 0 with h | h | h
   ·exact h
   ·exact absurd h he0
   have:=Int.mul_pos (show (0 : Int) < g by omega) h; omega
  omega
 have hp : 0 < b:=by omega
 rw [h4,h2,Int.sign_eq_one_of_pos hp]
 constructor
 ·rw [hc,Int.mul_one]
  exact Int.mul_ediv_cancel_left _ (by omega)
 have : b.natAbs = g * e.natAbs:=by rw [he,Int.natAbs_mul,Int.natAbs_natCast]
 rw [this,Nat.mul_div_cancel_left _ hg]
 have : 0 < e:=by
  rcases Int.lt_trichotomy e 0 with h | h | h
  ·have:=Int.mul_neg_of_pos_of_neg (show (0 : Int) < g by omega) h; omega
  ·exact absurd h he0
  exact h
 omega
theorem db0 {S : Nat → Prop} {w : World} {va vb : Value} {a b : Int} (hS : Up S w) (ha : ZV S w va a) (hb : ZV S w vb b) (hla : zl a ≤ 15999999999000) (hlb : zl b ≤ 15999999999000) (hb0 : b ≠ 0) :
  Gives prog 111 [va,vb] w fun v' w'=>Ext w w' ∧ QV S w' v' (mkRat (a * b.sign) b.natAbs):=by
 obtain ⟨gi,c,e,hgi,hg0,hac,hbe,he0,hneg,hpos⟩:=by5 a b hb0
 have hlg : zl gi ≤ 15999999999000:=by
  unfold zl at *
  rw [hgi]
  refine Nat.le_trans (J4 ?_) hlb
  exact Nat.gcd_le_right _ (by omega)
 generalize mkRat (a * b.sign) b.natAbs = q at *
 obtain ⟨ma,rfl,hma⟩:=ha
 obtain ⟨mb,rfl,hmb⟩:=hb
 refine l7 func111 rfl rfl rfl ?_
 repeat refine wW ?_
 refine z8 (cs:=[.bool (tst (a < 0)),ma]) rfl ?_
 intro w1 ga k1 hga hgsa
 skip
 refine z8 (cs:=[.bool (tst (b < 0)),mb]) rfl ?_
 intro w2 gb k2 hgb hgsb
 skip
 refine r5 (cs:=[.bool false,.slice none 0 0,.bool false,.slice none 0 0]) rfl ?_
 intro w3 g k3 hg hgs
 replace hga:=hga.to (k2.trans k3)
 replace hgb:=hgb.to k3
 have k:=(k1.trans k2).trans k3
 have hs:=(k1.trans k2).size
 replace hma:=hma.to k
 replace hmb:=hmb.to k
 replace hS:=hS.to k
 clear k1 k2 k3
 repeat (first | refine o5 rfl hga rfl ?_ | refine o5 rfl hgb rfl ?_ | refine wW ?_)
 refine j1 (dw5 hS ⟨ma,rfl,hma⟩ ⟨mb,rfl,hmb⟩ hla hlb) rfl ?_
 rintro v4 w4 ⟨k4,m4,rfl,h4⟩
 rw [← hgi] at h4 ⊢
 skip
 refine r5 (cs:=[.bool false,.slice none 0 0]) rfl ?_
 intro w5 g5 k5 hg5 hgs5
 have hgl:=hg.lt
 have hgal:=hga.lt
 have hgbl:=hgb.lt
 have hk4:=k4.size
 have k45:=k4.trans k5
 refine D1 rfl (by conv=>(lhs; whnf)) hg5 rfl h4.one ?_
 intro w6 k6 hg56
 replace hga:=(hga.to k45).wr k6 (by omega)
 replace hgb:=(hgb.to k45).wr k6 (by omega)
 replace hg:=(hg.to k45).wr k6 (by omega)
 replace hma:=(hma.to k45).wrT k6 hg5 (by decide)
 replace hmb:=(hmb.to k45).wrT k6 hg5 (by decide)
 replace h4:=(h4.to k5).wrT k6 hg5 (by decide)
 have hks:=k.size
 replace k : Ext w w6:=(k.trans k45).past k6 (by omega)
 replace hS : Up S w6:=fun i hi=>hS i (by have:=k45.size; have:=k6.size; omega)
 replace hg5:=hg56
 clear hg56 k6 k45 k4 k5
 repeat refine wW ?_
 refine A6 8 ?_
 apply b7
 ·intro x w1 k1 hd
  refine o5 rfl (hga.to k1) rfl ?_
  refine d6 ?_
  exact j7
 apply b7
 ·intro x w1 k1 hd
  refine o5 rfl (hg5.to k1) rfl ?_
  refine d6 ?_
  exact j7
 refine b7 (e:=zE S c) ?_ ?_
 ·intro x w1 k1 hd
  refine j1 (c81 c (hS.to k1) ⟨ma,rfl,hma.to k1⟩ ⟨m4,rfl,h4.to k1⟩ hla hlg (by omega) hac) rfl ?_
  rintro v2 w2 ⟨k2,h2⟩
  exact d6 (D7 k2 h2)
 apply b7
 ·intro x w1 k1 hd
  refine o5 rfl (hgb.to k1) rfl ?_
  refine d6 ?_
  exact j7
 apply b7
 ·intro x w1 k1 hd
  refine o5 rfl (hg5.to k1) rfl ?_
  refine d6 ?_
  exact j7
 refine b7 (e:=zE S e) ?_ ?_
 ·intro x w1 k1 hd
  refine j1 (c81 e (hS.to k1) ⟨mb,rfl,hmb.to k1⟩ ⟨m4,rfl,h4.to k1⟩ hlb hlg (by omega) hbe) rfl ?_
  rintro v2 w2 ⟨k2,h2⟩
  exact d6 (D7 k2 h2)
 refine b7 (e:=Ent.new (w6.heap.size) 28 [.bool false,.slice none 0 0]) ?_ ?_
 ·intro x w1 k1 hd
  refine r5 (cs:=[.bool false,.slice none 0 0]) rfl ?_
  intro w2 g2 k2 hg2 hgs2
  exact d6 (dh2 k2 hg2 hgs2 k1.size)
 refine b7 (e:=Ent.new (w6.heap.size) 28 [.bool false,.slice none 0 0]) ?_ ?_
 ·intro x w1 k1 hd
  refine r5 (cs:=[.bool false,.slice none 0 0]) rfl ?_
  intro w2 g2 k2 hg2 hgs2
  exact d6 (dh2 k2 hg2 hgs2 k1.size)
 refine J1 (dl3 ?_)
 intro x w7 k7 hall hdis
 obtain ⟨g7,hx7,hg7,hgb7⟩ : ∃ g,x 7 = .pointer (some ⟨g,0,none⟩) ∧ Blk w7 g 28 [.bool false,.slice none 0 0] ∧ w6.heap.size ≤ g:=hall.1
 obtain ⟨g6,hx6,hg6,hgb6⟩ : ∃ g,x 6 = .pointer (some ⟨g,0,none⟩) ∧ Blk w7 g 28 [.bool false,.slice none 0 0] ∧ w6.heap.size ≤ g:=hall.2.1
 have hne : x 7 ≠ x 6:=hdis.1.1
 obtain ⟨me,hxe,hme⟩ : ZV S w7 (x 5) e:=hall.2.2.1
 obtain ⟨mc,hxc,hmc⟩ : ZV S w7 (x 2) c:=hall.2.2.2.2.2.1
 have hne' : g7 ≠ g6:=by rintro rfl; exact hne (hx7.trans hx6.symm)
 refine a54 7 hx7 (a54 6 hx6 ?_)
 clear hne hdis hall
 have hg':=hg.to k7
 have hgl6:=hg.lt
 replace hS:=hS.to k7
 replace k:=k.trans k7
 clear k7 hga hgb hg5 hma hmb h4
 refine D1 rfl hxc hg6 rfl hmc.one ?_
 intro w8 k8 hg8
 replace hg7:=hg7.wr k8 (by omega)
 replace hmc:=hmc.wrT k8 hg6 (by decide)
 replace hme:=hme.wrT k8 hg6 (by decide)
 replace hg':=hg'.wr k8 (by omega)
 replace k:=k.past k8 (by omega)
 replace hS : Up S w8:=fun i hi=>hS i (by have:=k8.size; omega)
 replace hg6:=hg8
 clear k8 hg8
 refine D1 rfl hxe hg7 rfl hme.one ?_
 intro w9 k9 hg9
 replace hg6:=hg6.wr k9 (by omega)
 replace hmc:=hmc.wrT k9 hg7 (by decide)
 replace hme:=hme.wrT k9 hg7 (by decide)
 replace hg':=hg'.wr k9 (by omega)
 replace k:=k.past k9 (by omega)
 replace hS : Up S w9:=fun i hi=>hS i (by have:=k9.size; omega)
 replace hg7:=hg9
 clear k9 hg9
 have hbe2 : b < 0 ↔ e < 0:=by
  rcases Int.lt_trichotomy e 0 with h | h | h
  ·have:=Int.mul_neg_of_pos_of_neg hg0 h; omega
  ·exact absurd h he0
  have:=Int.mul_pos hg0 h; omega
 repeat (first | refine i1 rfl hg7 rfl ?_ | refine wW ?_ | refine d7 ?_ | refine l6 rfl ?_)
 first | refine o9 ?_ | refine I8 ?_ | refine F7 ?_ | skip
 refine ay3 [(19,22)] (fun ρ w'=>Ext w w' ∧ Blk w' g 30 [.bool false,.slice none 0 0,.bool false,.slice none 0 0] ∧ ∃ m b',Blk w' g6 28 [.bool (tst (q.num < 0)),m] ∧ Blk w' g7 28 [.bool (tst ((q.den : Int) < 0)),b'] ∧ y6 S 3 .i64 w' m q.num.natAbs ∧ y6 S 3 .i64 w' b' q.den) ?_ ?_
 ·refine j4 rfl ?_ ?_ <;> intro hcc
  ·obtain ⟨hq1,hq2⟩:=hneg (hbe2.2 hcc)
   rw [hq1,hq2]
   have hqd : q.den = (-e).natAbs:=by omega
   rw [hqd]
   skip
   refine A6 4 ?_
   apply b7
   ·intro x w1 k1 hd
    refine o5 rfl (hg6.to k1) rfl ?_
    refine d6 ?_
    exact j7
   refine b7 (e:=zE S (-c)) ?_ ?_
   ·intro x w1 k1 hd
    refine j1 (ci5 ⟨mc,rfl,hmc.to k1⟩) rfl ?_
    rintro v2 w2 ⟨k2,h2⟩
    exact d6 (D7 k2 h2)
   apply b7
   ·intro x w1 k1 hd
    refine o5 rfl (hg7.to k1) rfl ?_
    refine d6 ?_
    exact j7
   refine b7 (e:=zE S (-e)) ?_ ?_
   ·intro x w1 k1 hd
    refine j1 (ci5 ⟨me,rfl,hme.to k1⟩) rfl ?_
    rintro v2 w2 ⟨k2,h2⟩
    exact d6 (D7 k2 h2)
   refine J1 (J5 ?_)
   intro x2 w10 k10 hall
   obtain ⟨m2,hx2,h2⟩ : ZV S w10 (x2 3) (-e):=hall.1
   obtain ⟨m1,hx1,h1⟩ : ZV S w10 (x2 1) (-c):=hall.2.2.1
   have hg60:=hg6.to k10
   have hg70:=hg7.to k10
   have hksz:=k.size
   refine D1 rfl hx1 hg60 rfl h1.one ?_
   intro w11 k11 hg11
   have hg71:=hg70.wr k11 (by omega)
   refine D1 rfl hx2 hg71 rfl h2.one ?_
   intro w12 k12 hg12
   repeat refine wW ?_
   refine ⟨by (repeat (first | refine j2 rfl ?_ | exact i6 | refine j3 rfl ?_ | exact f5 | refine p6 rfl ?_ | refine m9 rfl ?_)),((k.trans k10).past k11 (by omega)).past k12 (by omega),((hg'.to k10).wr k11 (by omega)).wr k12 (by omega),m1,m2,hg11.wr k12 (by omega),hg12,(h1.wrT k11 hg60 (by decide)).wrT k12 hg71 (by decide),(h2.wrT k11 hg60 (by decide)).wrT k12 hg71 (by decide)⟩
  obtain ⟨hq1,hq2⟩:=hpos (fun h=>hcc (hbe2.1 h))
  rw [hq1,hq2]
  have hqd : q.den = e.natAbs:=by omega
  rw [hqd]
  repeat (first | refine N7 ?_ | refine wp_skip ?_)
  exact ⟨by (repeat (first | refine j2 rfl ?_ | exact i6 | refine j3 rfl ?_ | exact f5 | refine p6 rfl ?_ | refine m9 rfl ?_)),k,hg',mc,me,hg6,hg7,hmc,hme⟩
 rintro u w10 ⟨k10,hg10,m,b',hg60,hg70,hm,hbb⟩
 repeat (first | refine o5 rfl hg60 rfl ?_ | refine o5 rfl hg70 rfl ?_ | refine wW ?_)
 refine cw8 (by conv=>(lhs; whnf)) (by conv=>(lhs; whnf)) ?_
 skip
 refine b46 rfl (by conv=>(lhs; whnf)) hg10 rfl rfl hm.one rfl hbb.one ?_
 intro w11 k11 hg11
 repeat refine wW ?_
 exact Y0 rfl (o7 hg11 rfl) ⟨k10.past k11 (by omega),m,b',rfl,hm.wrT k11 hg10 (by decide),hbb.wrT k11 hg10 (by decide)⟩
theorem zz (S : Nat → Prop) {w : World} {q : Rat} {m : Value} (h : y6 S 3 .i64 w m q.num.natAbs) : ZV S w (.agg #[.bool (tst (q.num < 0)),m]) q.num:=⟨m,rfl,h⟩
theorem ao7 {P : Program} {n : Nat} {Q : G3} {ρ : Fr} {w : World} {all rest : List Oper} {d : Tmp} {ty : TypeId} {pos : String} {aft : Array Edge} {t t2 : TypeId} {x y : Operand} {a b : List UInt8} (hx : ev ρ x = G5 a) (hy : ev ρ y = G5 b)
  (h : WpR P n all Q rest (upd ρ d (.bool (tst (a = b)))) w) : WpR P n all Q (⟨some d,.binOp .eql t x y t2,ty,pos,aft,none⟩ :: rest) ρ w:=by
 refine F6 rfl rfl ?_ h
 have e : ((⟨a.toArray⟩ : ByteArray).toList == (⟨b.toArray⟩ : ByteArray).toList) = tst (a = b):=by
  rw [ByteArray.toList_eq,ByteArray.toList_eq,← R3]
  show (a.toArray.toList == b.toArray.toList) = _
  by_cases h : a = b <;> simp [h]
 simp only [execOp,hx,hy,eqGuard,binOp,Op.stringOp,e]
 rfl
theorem a60 {F : Fr} {d : Nat} {v : Value} {w w' : World} (hx : Ext w w') : obQ w (some d) (Ent.eq v) .normal (upd F d v) w':=⟨rfl,hx,d,rfl,D9 _ _ _,fun h=>by cases h⟩
theorem dw3 {F : Fr} {d : Nat} {v Y : Value} {w w' : World} (h : v = Y) (hx : Ext w w') : obQ w (some d) (Ent.eq Y) .normal (upd F d v) w':=h ▸ a60 hx
theorem da9 {S : Nat → Prop} {w : World} {v : Value} {q : Rat} (h : QV S w v q) :
  Gives prog 75 [v] w fun v' w'=>v' = .int .i64 q.num.sign ∧ Ext w w':=by
 obtain ⟨m,b,rfl,hm,hb⟩:=h
 refine l7 func75 rfl rfl rfl ?_
 repeat refine wW ?_
 refine z8 (cs:=[.bool (tst (q.num < 0)),m,.bool (tst ((q.den : Int) < 0)),b]) rfl ?_
 intro w1 g k1 hg hgs
 repeat (first | refine E5 rfl hg rfl rfl ?_ | refine wW ?_ | refine l6 rfl ?_)
 refine j1 (cm0 (z:=q.num) ⟨m,rfl,hm.to k1⟩) rfl ?_
 rintro v2 w2 ⟨rfl,k2⟩
 repeat refine wW ?_
 exact q5 rfl ⟨rfl,k1.trans k2⟩
theorem di4 {S : Nat → Prop} {w : World} {a b : Int} (hS : Up S w) (ha0 : -9223372036854775808 ≤ a) (ha1 : a ≤ 9223372036854775807) (hb0 : -9223372036854775808 ≤ b) (hb1 : b ≤ 9223372036854775807) (hb : b ≠ 0) (hla : zl a ≤ 3) (hlb : zl b ≤ 3) :
  Gives prog 45 [.int .i64 a,.int .i64 b] w fun v' w'=>Ext w w' ∧ QV S w' v' (mkRat (a * b.sign) b.natAbs):=by
 refine l7 func45 rfl rfl rfl ?_
 repeat refine wW ?_
 refine r5 (cs:=[.bool false,.slice none 0 0,.bool false,.slice none 0 0]) rfl ?_
 intro w1 g k1 hg hgs
 replace hS:=hS.to k1
 repeat refine wW ?_
 refine j1 (dd7 (z:=a) hS ha0 ha1) rfl ?_
 rintro v2 w2 ⟨k2,h2⟩
 repeat (first | refine r7 ?_)
 refine j1 (dd7 (z:=b) (hS.to k2) hb0 hb1) rfl ?_
 rintro v3 w3 ⟨k3,h3⟩
 skip
 refine j1 (db0 (a:=a) (b:=b) ((hS.to k2).to k3) (h2.to k3) h3 (by omega) (by omega) hb) rfl ?_
 rintro v4 w4 ⟨k4,m4,b4,rfl,h4,h5⟩
 skip
 refine b46 rfl (by conv=>(lhs; whnf)) (((hg.to k2).to k3).to k4) rfl rfl h4.one rfl h5.one ?_
 intro w5 k5 hg5
 repeat refine wW ?_
 exact Y0 rfl (o7 hg5 rfl) ⟨(((k1.trans k2).trans k3).trans k4).past k5 (by omega),m4,b4,rfl,h4.wrT k5 (((hg.to k2).to k3).to k4) (by decide),h5.wrT k5 (((hg.to k2).to k3).to k4) (by decide)⟩
def GivesD (P : Program) (f : FuncId) (args : List Value) (u : FrameMode) (w : World) (Φ : FrameMode → World → Prop) : Prop:=
 CallsD P f args.toArray u w fun e u' w'=>(∃ v,e = .returned v) ∧ Φ u' w'
def fa3 (P : Program) (fn : Func) (Ψ : Value → World → Prop) (g : FuncId) (caps : List Value) : G3:=fun e ρ w=>match e with
 | .normal | .ret=>GivesD P g caps .returning w fun u' w'=>u' = .returning ∧ ∃ vs,R1 P ρ w' fn.results.toList vs ∧ Ψ (bd3 vs) w'
 | .panic ch=>GivesD P g caps (.panicking ch) w fun u' w'=>settle u' = .returning ∧ ∃ vs,R1 P ρ w' fn.results.toList vs ∧ Ψ (bd3 vs) w'
 | _=>False
def WpD (P : Program) (n : Nat) (c : Code) (Q : Exit → Act → World → Prop) (D : List Deferred) (ρ : Fr) (w : World) : Prop:=
 N8 n c = true → ∀ a,Mt n D a ρ → c.wp P Q a w
def d90 : G3:=fun _ _ _=>False
section
variable {P : Program} {n : Nat} {Q : Exit → Act → World → Prop} {D : List Deferred} {ρ : Fr} {w : World}
theorem a55 {a b : Code} (h : Wp P n a (L9 (fun ρ w=>WpD P n b Q D ρ w) d90) ρ w) : WpD P n (.seq a b) Q D ρ w:=by
 intro hc act hm
 simp only [N8,Bool.and_eq_true] at hc
 unfold Wp at h
 refine Go.wp_seq (Go.wp_mono (h hc.1 _ act hm) ?_)
 rintro e a' w' ⟨ρ',hm',hq⟩
 cases e with
 | normal=>exact hq hc.2 a' hm'
 | _=>exact hq.elim
theorem a39 {c : Code} {Q' : G3} (h : Wp P n c Q' ρ w) (k : ∀ e a ρ w,Mt n D a ρ → Q' e ρ w → Q e a w) : WpD P n c Q D ρ w:=by
 intro hc act hm
 unfold Wp at h
 refine Go.wp_mono (h hc _ act hm) ?_
 rintro e a' w' ⟨ρ',hm',hq⟩
 exact k _ _ _ _ hm' hq
theorem W6 {j : Nat} {b : Code} {d : Tmp} {g : FuncId} {cap : List Operand} {ty ty2 : TypeId} {pos pos2 : String} {aft aft2 : Array Edge} {ts : Array TypeId}
  (h : WpD P n b Q (⟨.fn (.func g) (cap.map (ev ρ)).toArray,#[]⟩ :: D) (upd ρ d (.func (.func g) #[] (cap.map (ev ρ)).toArray)) w) :
  WpD P n (.seq (.region j #[⟨some d,.makeFunc (.func g) #[] cap.toArray,ty,pos,aft,none⟩,⟨none,.defer ⟨.value (.tmp d),#[],ts⟩,ty2,pos2,aft2,none⟩] false) b) Q D ρ w:=by
 intro hc act hm
 simp only [N8,Bool.and_eq_true] at hc
 have hd : Nat.blt d n = true:=by
  have:=hc.1
  simp [aa4] at this
  simpa using this
 refine Go.wp_seq (wp_region_lit (l:=[_,_]) ?_)
 refine wpList_plain rfl fun K hK=>?_
 unfold Oper.wp
 rw [hm.eval]
 have hr1 : (execOp (ev ρ) ⟨some d,.makeFunc (.func g) #[] cap.toArray,ty,pos,aft,none⟩).run P w = .ok (.value (.func (.func g) #[] (cap.map (ev ρ)).toArray)) w:=by simp [execOp,Instr.makeFunc]
 rw [hr1]
 have hm2:=hm.put hd (.func (.func g) #[] (cap.map (ev ρ)).toArray)
 refine hK _ _ ?_
 refine wpList_plain rfl fun K2 hK2=>?_
 unfold Oper.wp
 rw [hm2.eval]
 have hr2 : (execOp (ev (upd ρ d (.func (.func g) #[] (cap.map (ev ρ)).toArray))) ⟨none,.defer ⟨.value (.tmp d),#[],ts⟩,ty2,pos2,aft2,none⟩).run P w = .ok (.defer ⟨.fn (.func g) (cap.map (ev ρ)).toArray,#[]⟩) w:=by
  simp [execOp,resolve,Deferred.ofValue,ev,D9]
 rw [hr2]
 refine hK2 _ _ (wpList_nil ?_)
 exact h hc.2 _ ⟨hm2.size,by show _ :: _ = _ :: _; rw [hm2.defers],hm2.get⟩
end
theorem R2 {P : Program} {f : FuncId} {fn : Func} {c : Code} {args : List Value} {w : World} {Ψ : Value → World → Prop}
  (hf : P.funcs[f]? = some fn) (hb : fn.body = some c) (hok : N8 fn.ntmps c = true) (hn0 : Nat.ble args.length fn.ntmps = true)
  (h : WpD P fn.ntmps c (bodyPostD P fn fun e w'=>∃ v,e = .returned v ∧ Ψ v w') [] (fun i=>args.getD i undef) w) : Gives P f args w Ψ:=
 calls_of_wp_defers hf hb (h hok _ (a22 fn hn0))
theorem aq6 {P : Program} {fn : Func} {Ψ : Value → World → Prop} {g : FuncId} {caps : List Value} [ci : CallI P g] {e : Exit} {a : Act} {ρ : Fr} {w : World}
  (hm : Mt fn.ntmps [⟨.fn (.func g) caps.toArray,#[]⟩] a ρ) (h : fa3 P fn Ψ g caps e ρ w) : bodyPostD P fn (fun e w'=>∃ v,e = .returned v ∧ Ψ v w') e a w:=by
 have hi : (invoke (.fn (.func g) caps.toArray) #[]).run P w = .ok (.enter g caps.toArray) w:=by simp [invoke,ci.run]
 have hret : ∀ w',(∃ vs,R1 P ρ w' fn.results.toList vs ∧ Ψ (bd3 vs) w') → Leaves P fn a.tmps (fun e w'=>∃ v,e = .returned v ∧ Ψ v w') [] .returning w':=by
  rintro w' ⟨vs,hr,hv⟩
  exact ⟨_,I4 hm hr,_,rfl,hv⟩
 have hn : (h : GivesD P g caps .returning w fun u' w'=>u' = .returning ∧ ∃ vs,R1 P ρ w' fn.results.toList vs ∧ Ψ (bd3 vs) w') → Leaves P fn a.tmps (fun e w'=>∃ v,e = .returned v ∧ Ψ v w') a.defers .returning w:=by
  intro h
  rw [hm.defers]
  refine leaves_cons (by simp) hi (CallsD.mono h ?_)
  rintro e u' w' ⟨⟨v,rfl⟩,rfl,hv⟩
  exact hret w' hv
 cases e with
 | normal=>exact hn h
 | ret=>exact hn h
 | panic ch=>
  show Leaves P fn a.tmps _ a.defers (.panicking ch) w
  rw [hm.defers]
  refine leaves_cons (by simp) hi (CallsD.mono h ?_)
  rintro e u' w' ⟨⟨v,rfl⟩,hs,hv⟩
  show Leaves P fn a.tmps _ [] (settle u') w'
  rw [hs]
  exact hret w' hv
 | _=>exact h.elim
def fd0 (P : Program) (fn : Func) (K : World → Prop) : G3:=fun e ρ w=>match e with
 | .normal | .ret=>∃ vs,R1 P ρ w fn.results.toList vs ∧ K w
 | _=>False
theorem c26 {P : Program} {ops : Array Oper} {Q : Exit → Act → List Frame → World → Prop} {i : Nat} {rest : List Nat} {a : Act} {cs : List Frame} {w w' : World} {o : Oper} (h0 : ops[i]? = some o) (hg : o.guard = none)
  (hr : (execOp a.eval o).run P w = .ok .recover w')
  (h : match recoverD cs with | some (v,cs')=>wpOpsS P ops Q rest (a.put o.dst v) cs' w' | none=>wpOpsS P ops Q rest (a.put o.dst .nilIface) cs w') : wpOpsS P ops Q (i :: rest) a cs w:=by
 unfold wpOpsS
 simp only [h0,Region.wanted,hg,hr,if_true]
 exact h
theorem b40 {P : Program} {ops : Array Oper} {Q : Exit → Act → List Frame → World → Prop} {i : Nat} {rest : List Nat} {a : Act} {cs : List Frame} {w w' : World} {o : Oper} {v : Value} (h0 : ops[i]? = some o) (hg : o.guard = none)
  (hr : (execOp a.eval o).run P w = .ok (.value v) w') (h : wpOpsS P ops Q rest (a.put o.dst v) cs w') : wpOpsS P ops Q (i :: rest) a cs w:=by
 unfold wpOpsS
 simp only [h0,Region.wanted,hg,hr,if_true,Oper.upon]
 exact h
theorem G6 {P : Program} {f : FuncId} {fn : Func} {j : Nat} {d1 d2 : Tmp} {ty ty2 : TypeId} {pos pos2 : String} {aft aft2 : Array Edge} {c1 : Code} {args : List Value} {u u2 : FrameMode} {v : Value} {w : World} {Φ : FrameMode → World → Prop}
  (hf : P.funcs[f]? = some fn)
  (hb : fn.body = some (.seq (.region j #[⟨some d1,.call ⟨.builtin .recover,#[],#[]⟩,ty,pos,aft,none⟩,⟨some d2,.assign (.tmp d1),ty2,pos2,aft2,none⟩] false) c1))
  (hn0 : Nat.ble args.length fn.ntmps = true) (hd1 : Nat.blt d1 fn.ntmps = true) (hd2 : Nat.blt d2 fn.ntmps = true) (hok : N8 fn.ntmps c1 = true)
  (hu : (u = .returning ∧ u2 = .returning ∧ v = .nilIface) ∨ ∃ x,u = .panicking [{ v:=x,recovered:=false }] ∧ u2 = .panicking [{ v:=x,recovered:=true }] ∧ v = x)
  (h : Wp P fn.ntmps c1 (fd0 P fn (Φ u2)) (upd (upd (fun i=>args.getD i undef) d1 v) d2 v) w) : GivesD P f args u w Φ:=by
 refine callsD_of_wpS hf hb fun c₀ cs hm=>?_
 have m0:=a22 fn hn0
 have m1:=m0.put hd1 v
 have m2:=m1.put hd2 v
 refine wpS_seq (wpS_region ?_)
 have hrange : List.range (#[(⟨some d1,.call ⟨.builtin .recover,#[],#[]⟩,ty,pos,aft,none⟩ : Oper),⟨some d2,.assign (.tmp d1),ty2,pos2,aft2,none⟩]).size = [0,1]:=rfl
 rw [hrange]
 have hrest : ∀ cs',cs' = { c₀ with mode:=u2 } :: cs → Code.wpS P c1 (bodyPostS P fn c₀ cs fun e u' w'=>(∃ v,e = .returned v) ∧ Φ u' w')
   (({ tmps:=args.toArray ++ Array.replicate (fn.ntmps - args.toArray.size) undef,defers:=[] } : Act).put (some d1) v |>.put (some d2) v) cs' w:=by
  rintro cs' rfl
  refine wpS_of_wp ?_
  unfold Wp at h
  refine Go.wp_mono (h hok _ _ m2) ?_
  rintro e a w' ⟨ρ,hm',hq⟩
  cases e with
  | normal=>obtain ⟨vs,hr,hv⟩:=hq; exact ⟨hm'.defers,u2,rfl,_,I4 hm' hr,⟨_,rfl⟩,hv⟩
  | ret=>obtain ⟨vs,hr,hv⟩:=hq; exact ⟨hm'.defers,u2,rfl,_,I4 hm' hr,⟨_,rfl⟩,hv⟩
  | _=>exact hq.elim
 have hr0 : ∀ ρ : Operand → Value,(execOp ρ ⟨some d1,.call ⟨.builtin .recover,#[],#[]⟩,ty,pos,aft,none⟩).run P w = .ok .recover w:=fun ρ=>by
  simp [execOp,resolve,invoke,builtin]
 have hr1 : (execOp (({ tmps:=args.toArray ++ Array.replicate (fn.ntmps - args.toArray.size) undef,defers:=[] } : Act).put (some d1) v).eval ⟨some d2,.assign (.tmp d1),ty2,pos2,aft2,none⟩).run P w = .ok (.value v) w:=by
  rw [m1.eval]
  simp [execOp,ev,D9]
 have hrec : (match recoverD (c₀ :: cs) with | some (v',cs')=>v' = v ∧ cs' = { c₀ with mode:=u2 } :: cs | none=>v = .nilIface ∧ c₀ :: cs = { c₀ with mode:=u2 } :: cs):=by
  rcases hu with ⟨rfl,rfl,rfl⟩ | ⟨x,rfl,rfl,rfl⟩
  ·simp only [recoverD,hm]
   refine ⟨trivial,?_⟩
   congr 1
   rw [← hm]
  simp only [recoverD,hm]
  first | exact ⟨trivial,trivial⟩ | exact ⟨trivial,rfl⟩
 refine c26 (o:=⟨some d1,.call ⟨.builtin .recover,#[],#[]⟩,ty,pos,aft,none⟩) rfl rfl (hr0 _) ?_
 cases hr : recoverD (c₀ :: cs) with
 | none=>
  rw [hr] at hrec
  obtain ⟨hv,hcs⟩:=hrec
  subst hv
  exact b40 (o:=⟨some d2,.assign (.tmp d1),ty2,pos2,aft2,none⟩) rfl rfl hr1 (hrest _ hcs)
 | some p=>
  obtain ⟨v',cs'⟩:=p
  rw [hr] at hrec
  obtain ⟨hv,hcs⟩:=hrec
  subst hv
  exact b40 (o:=⟨some d2,.assign (.tmp d1),ty2,pos2,aft2,none⟩) rfl rfl hr1 (hrest _ hcs)
def ci8 : List PanicEntry:=[{ v:=.iface 204 (.agg #[]),recovered:=false }]
theorem cl1 {S : Nat → Prop} {w : World} {v : Value} {z : Int} (hS : Up S w) (h : IntV S 227 .u32 w v z) :
  GivesE prog 168 [v] w (fun v' w'=>v' = v ∧ Ext w w' ∧ z.natAbs < Big) fun ch w'=>ch = ci8 ∧ Ext w w' ∧ ¬ z.natAbs < Big:=by
 obtain ⟨m,rfl,hm⟩:=h
 refine bp9 func168 rfl rfl rfl ?_
 repeat refine wW ?_
 refine z8 (cs:=[.bool (tst (z < 0)),m]) rfl ?_
 intro w1 g k1 hg hgs
 skip
 refine r5 (cs:=[.bool false,.slice none 0 0]) rfl ?_
 intro w2 g2 k2 hg2 hgs2
 have hgl:=hg.lt
 replace hg:=hg.to k2
 have k:=k1.trans k2
 repeat (first | refine i1 rfl hg rfl ?_ | refine wW ?_ | refine d7 ?_ | refine l6 rfl ?_)
 refine j1 (cy3 (hS.to k) (hm.to k)) rfl ?_
 rintro v3 w3 ⟨rfl,k3⟩
 repeat (first | refine wW ?_ | refine ba2 rfl ?_)
 try refine i7 ?_
 refine j4 rfl ?_ ?_ <;> intro hc
 ·repeat (first | refine aa7 ?_)
  refine az8 (cs:=[]) rfl ?_
  refine dl7 rfl ?_
  refine dk8 rfl ?_
  refine N5 (az4 ⟨rfl,k.trans k3,hc⟩)
 repeat (first | refine o5 rfl (hg.to k3) rfl ?_ | refine wW ?_ | refine wp_skip ?_)
 refine D1 rfl (by conv=>(lhs; whnf)) (hg2.to k3) rfl hm.one ?_
 intro w4 k4 hg4
 repeat refine wW ?_
 exact cq3 (Y0 rfl (o7 hg4 rfl) ⟨rfl,Keeps.past (k.trans k3) k4 (by have:=k1.size; omega),Classical.not_not.1 hc⟩)
def U5 (q : Rat) : Prop:=q.num.natAbs < Big ∧ q.den < Big
theorem dm4 {S : Nat → Prop} {w : World} {v : Value} {q : Rat} (hS : Up S w) (h : RatV S w v q) :
  GivesE prog 125 [v] w (fun v' w'=>v' = v ∧ Ext w w' ∧ U5 q) fun ch w'=>ch = ci8 ∧ Ext w w' ∧ ¬ U5 q:=by
 have h0:=h
 obtain ⟨m,b,rfl,hm,hb⟩:=h
 refine bp9 func125 rfl rfl rfl ?_
 repeat refine wW ?_
 refine z8 (cs:=[.bool (tst (q.num < 0)),m,b]) rfl ?_
 intro w1 g k1 hg hgs
 skip
 refine r5 (cs:=[.bool false,.slice none 0 0,.slice none 0 0]) rfl ?_
 intro w2 g2 k2 hg2 hgs2
 have hgl:=hg.lt
 replace hg:=hg.to k2
 have k:=k1.trans k2
 have hk1:=k1.size
 replace hS:=hS.to k
 replace h0:=h0.to k
 repeat (first | refine E5 rfl hg rfl rfl ?_ | refine wW ?_ | refine l6 rfl ?_)
 refine cp6 (cl1 (z:=q.num) hS ⟨m,rfl,hm.to k⟩) rfl ?_ ?_
 ·rintro v3 w3 ⟨_,k3,hf⟩
  repeat (first | refine o5 rfl (hg.to k3) rfl ?_ | refine wW ?_)
  refine j1 (bc4 (hS.to k3) (h0.to k3)) rfl ?_
  rintro v4 w4 ⟨k4,h4⟩
  refine j1 (br7 h4) rfl ?_
  rintro v5 w5 ⟨k5,h5⟩
  refine cp6 (cl1 (z:=(q.den : Int)) (hS.to ((k3.trans k4).trans k5)) h5) rfl ?_ ?_
  ·rintro v6 w6 ⟨_,k6,hf2⟩
   have k36:=((k3.trans k4).trans k5).trans k6
   repeat (first | refine o5 rfl (hg.to k36) rfl ?_ | refine wW ?_)
   refine G8 rfl (by conv=>(lhs; whnf)) (hg2.to k36) rfl rfl hm.one hb.one ?_
   intro w7 k7 hg7
   repeat refine wW ?_
   exact cq3 (Y0 rfl (o7 hg7 rfl) ⟨rfl,Keeps.past (k.trans k36) k7 (by omega),hf,by rwa [Int.natAbs_natCast] at hf2⟩)
  rintro ch w6 ⟨rfl,k6,hf2⟩
  exact N5 (az4 ⟨rfl,((k.trans k3).trans k4).trans (k5.trans k6),fun h=>hf2 (by rw [Int.natAbs_natCast]; exact h.2)⟩)
 rintro ch w3 ⟨rfl,k3,hf⟩
 exact N5 (az4 ⟨rfl,k.trans k3,fun h=>hf h.1⟩)
theorem b23 {w : World} {g1 g2 : Nat} : GivesD prog 163 [.pointer (some ⟨g1,0,none⟩),.pointer (some ⟨g2,0,none⟩)] .returning w fun u' w'=>u' = .returning ∧ w' = w:=by
 refine G6 func163 rfl rfl rfl rfl rfl (.inl ⟨rfl,rfl,rfl⟩) ?_
 repeat (first | refine R0 rfl ?_ | refine wW ?_ | refine wp_skip ?_ | refine wp_cond_false rfl ?_)
 exact ⟨[],rfl,rfl,rfl⟩
theorem ca2 {w : World} {g1 g2 : Nat} {cs1 : List Value} {e : Value} (h1 : Blk w g1 53 cs1) (hl : cs1.length = 3) (h2 : Blk w g2 56 [e]) :
  GivesD prog 163 [.pointer (some ⟨g1,0,none⟩),.pointer (some ⟨g2,0,none⟩)] (.panicking ci8) w fun u' w'=>settle u' = .returning ∧
   Keeps (fun k=>k ≠ g1 ∧ k ≠ g2) w w' ∧ Blk w' g1 53 [.bool false,.slice none 0 0,.slice none 0 0] ∧ Blk w' g2 56 [.int .i64 11]:=by
 have hne : g1 ≠ g2:=h1.ne h2 (by decide)
 refine G6 func163 rfl rfl rfl rfl rfl (.inr ⟨_,rfl,rfl,rfl⟩) ?_
 repeat (first | refine ab9 rfl ?_ | refine aq0 rfl ?_ | refine wW ?_ | refine d7 ?_ | refine D6 rfl rfl ?_ | refine wp_cond_true rfl ?_)
 refine r5 (cs:=[]) rfl ?_
 intro w1 g3 k1 hg3 hgs3
 have hl1:=h1.lt
 have hl2:=h2.lt
 refine A5 (us:=[]) rfl (by conv=>(lhs; whnf)) rfl rfl hg3 rfl (fun v hv=>by cases hv) ?_
 intro w2 k2 hg32
 repeat (first | refine aw4 rfl ?_ | refine wW ?_ | refine wp_skip ?_ | refine wp_cond_false rfl ?_)
 refine r5 (cs:=[.bool false,.slice none 0 0,.slice none 0 0]) rfl ?_
 intro w3 g5 k3 hg5 hgs5
 have k : Ext w w3:=(Keeps.past k1 k2 hgs3).trans k3
 repeat (first | refine o5 rfl hg5 rfl ?_ | refine wW ?_)
 refine G8 rfl (by conv=>(lhs; whnf)) (h1.to k) hl rfl rfl rfl ?_
 intro w4 k4 h14
 skip
 refine L6 (u:=.int .i64 11) rfl rfl ((h2.to k).wr k4 (fun e=>hne e.symm)) (show 0 < 1 by decide) rfl ?_
 intro w5 k5 h25
 repeat (first | refine d6 ?_)
 refine ⟨[],rfl,rfl,?_,h14.wr k5 hne,h25⟩
 exact ((Keeps.of k).trans (k4.mono fun i hi=>hi.1)).trans (k5.mono fun i hi=>hi.2)
theorem GivesD.mono {P : Program} {f : FuncId} {args : List Value} {u : FrameMode} {w : World} {Φ Φ' : FrameMode → World → Prop} (h : GivesD P f args u w Φ) (k : ∀ u' w',Φ u' w' → Φ' u' w') : GivesD P f args u w Φ':=
 CallsD.mono h fun e u' w' ⟨he,hp⟩=>⟨he,k _ _ hp⟩
def bm5 (S : Nat → Prop) (w : World) (v : Value) (q : Rat) : Prop:=
 ∃ r e,v = .tuple #[r,.int .i64 e] ∧ (U5 q ∧ e = 0 ∧ RatV S w r q ∨ ¬ U5 q ∧ e = 11 ∧ RatV S w r 0)
theorem s8 {S : Nat → Prop} {w : World} : RatV S w (.agg #[.bool false,.slice none 0 0,.slice none 0 0]) 0:=⟨_,_,by rw [j8 (by decide)],.nil,.nil⟩
theorem am7 {S : Nat → Prop} {w : World} {v : Value} {q : Rat} (hS : Up S w) (h : RatV S w v q) :
  Gives prog 123 [.func (.func 125) #[v] #[]] w fun v' w'=>Ext w w' ∧ bm5 S w' v' q:=by
 refine R2 func123 rfl rfl rfl ?_
 refine a55 ?_
 repeat (first | refine aa7 ?_)
 refine r5 (cs:=[.bool false,.slice none 0 0,.slice none 0 0]) rfl ?_
 intro w1 g1 k1 hg1 hgs1
 skip
 refine r5 (cs:=[.int .i64 0]) rfl ?_
 intro w2 g2 k2 hg2 hgs2
 have hgl:=hg1.lt
 replace hg1:=hg1.to k2
 have k:=k1.trans k2
 have hk1:=k1.size
 repeat refine wW ?_
 refine W6 ?_
 refine a39 ?_ (fun e a ρ w hm hq=>aq6 hm hq)
 repeat refine wW ?_
 refine at3 (first:=[v]) (cap:=[]) rfl (dm4 (hS.to k) (h.to k)) rfl ?_ ?_
 ·rintro v3 w3 ⟨rfl,k3,hf⟩
  have h3:=h.to (k.trans k3)
  obtain ⟨m,b,hv,hm,hb⟩:=h3
  skip
  refine G8 rfl hv (hg1.to k3) rfl rfl hm.one hb.one ?_
  intro w4 k4 hg4
  have hg24:=(hg2.to k3).wr k4 (by omega)
  refine L6 (u:=.int .i64 0) rfl rfl hg24 (show 0 < 1 by decide) rfl ?_
  intro w5 k5 hg5
  have hg45:=hg4.wr k5 (by omega)
  repeat refine wW ?_
  refine b23.mono ?_
  rintro u' w' ⟨rfl,rfl⟩
  refine ⟨rfl,[.agg #[.bool (tst (q.num < 0)),m,b],.int .i64 0],⟨_,_,o7 hg45 rfl,⟨_,_,P7 (by conv=>(lhs; whnf)) hg5,rfl,rfl⟩,rfl⟩,?_⟩
  exact ⟨((Keeps.past (k.trans k3) k4 (by omega)).past k5 (by omega)),_,_,rfl,.inl ⟨hf,rfl,m,b,rfl,(hm.wrT k4 (hg1.to k3) (by decide)).wrT k5 hg24 (by decide),(hb.wrT k4 (hg1.to k3) (by decide)).wrT k5 hg24 (by decide)⟩⟩
 rintro ch w3 ⟨rfl,k3,hf⟩
 refine N5 ?_
 refine (ca2 (hg1.to k3) rfl (hg2.to k3)).mono ?_
 rintro u' w' ⟨hu,k4,h1,h2⟩
 refine ⟨hu,[.agg #[.bool false,.slice none 0 0,.slice none 0 0],.int .i64 11],⟨_,_,o7 h1 rfl,⟨_,_,P7 (by conv=>(lhs; whnf)) h2,rfl,rfl⟩,rfl⟩,?_⟩
 exact ⟨Keeps.later (k.trans k3) k4 (fun i hi _=>⟨by omega,by omega⟩),_,_,rfl,.inr ⟨hf,rfl,s8⟩⟩
theorem dy6 {S : Nat → Prop} {w : World} {va vb : Value} {a b : Rat} (hS : Up S w) (ha : RatV S w va a) (hb : RatV S w vb b) (hla : rl a 400000000000) (hlb : rl b 400000000000) :
  Gives prog 127 [va,vb] w fun v' w'=>Ext w w' ∧ bm5 S w' v' (a + b):=by
 have ha0:=ha
 have hb0:=hb
 obtain ⟨ma,ba,rfl,hma,hba⟩:=ha
 obtain ⟨mb,bb,rfl,hmb,hbb⟩:=hb
 refine l7 func127 rfl rfl rfl ?_
 repeat refine wW ?_
 refine z8 (cs:=[.bool (tst (a.num < 0)),ma,ba]) rfl ?_
 intro w1 ga k1 hga hgsa
 skip
 refine z8 (cs:=[.bool (tst (b.num < 0)),mb,bb]) rfl ?_
 intro w2 gb k2 hgb hgsb
 skip
 refine r5 (cs:=[.bool false,.slice none 0 0,.slice none 0 0]) rfl ?_
 intro w3 g k3 hg hgs
 replace hga:=hga.to (k2.trans k3)
 replace hgb:=hgb.to k3
 have k:=(k1.trans k2).trans k3
 have hs:=(k1.trans k2).size
 replace ha0:=ha0.to k
 replace hb0:=hb0.to k
 replace hma:=hma.to k
 replace hmb:=hmb.to k
 replace hba:=hba.to k
 replace hbb:=hbb.to k
 replace hS:=hS.to k
 clear k1 k2 k3
 repeat refine wW ?_
 repeat (first | refine o5 rfl hga rfl ?_ | refine o5 rfl hgb rfl ?_)
 refine j1 (dn1 hS ha0 hb0 hla hlb) rfl ?_
 rintro v4 w4 ⟨k4,h4⟩
 repeat (first | refine ar5 ?_)
 refine j1 (am7 (hS.to k4) h4) rfl ?_
 rintro v5 w5 ⟨k5,r,e,rfl,hor⟩
 repeat (first | refine D6 rfl rfl ?_)
 have k':=(k.trans k4).trans k5
 replace hg:=(hg.to k4).to k5
 rcases hor with ⟨hf,rfl,m,b,rfl,hm,hb⟩ | ⟨hf,rfl,m,b,rfl,hm,hb⟩
 ·refine G8 rfl rfl hg rfl rfl hm.one hb.one ?_
  intro w6 k6 hg6
  repeat refine wW ?_
  exact bk7 rfl (o7 hg6 rfl) (D8 (by conv=>(lhs; whnf))) ⟨Keeps.past k' k6 (by omega),_,_,rfl,.inl ⟨hf,rfl,m,b,rfl,hm.wrT k6 hg (by decide),hb.wrT k6 hg (by decide)⟩⟩
 refine G8 rfl rfl hg rfl rfl hm.one hb.one ?_
 intro w6 k6 hg6
 repeat refine wW ?_
 exact bk7 rfl (o7 hg6 rfl) (D8 (by conv=>(lhs; whnf))) ⟨Keeps.past k' k6 (by omega),_,_,rfl,.inr ⟨hf,rfl,m,b,rfl,hm.wrT k6 hg (by decide),hb.wrT k6 hg (by decide)⟩⟩
theorem dy3 {S : Nat → Prop} {w : World} {va vb : Value} {a b : Rat} (hS : Up S w) (ha : RatV S w va a) (hb : RatV S w vb b) (hla : rl a 400000000000) (hlb : rl b 400000000000) :
  Gives prog 120 [va,vb] w fun v' w'=>Ext w w' ∧ bm5 S w' v' (a * b):=by
 have ha0:=ha
 have hb0:=hb
 obtain ⟨ma,ba,rfl,hma,hba⟩:=ha
 obtain ⟨mb,bb,rfl,hmb,hbb⟩:=hb
 refine l7 func120 rfl rfl rfl ?_
 repeat refine wW ?_
 refine z8 (cs:=[.bool (tst (a.num < 0)),ma,ba]) rfl ?_
 intro w1 ga k1 hga hgsa
 skip
 refine z8 (cs:=[.bool (tst (b.num < 0)),mb,bb]) rfl ?_
 intro w2 gb k2 hgb hgsb
 skip
 refine r5 (cs:=[.bool false,.slice none 0 0,.slice none 0 0]) rfl ?_
 intro w3 g k3 hg hgs
 replace hga:=hga.to (k2.trans k3)
 replace hgb:=hgb.to k3
 have k:=(k1.trans k2).trans k3
 have hs:=(k1.trans k2).size
 replace ha0:=ha0.to k
 replace hb0:=hb0.to k
 replace hma:=hma.to k
 replace hmb:=hmb.to k
 replace hba:=hba.to k
 replace hbb:=hbb.to k
 replace hS:=hS.to k
 clear k1 k2 k3
 repeat refine wW ?_
 repeat (first | refine o5 rfl hga rfl ?_ | refine o5 rfl hgb rfl ?_)
 refine j1 (c75 hS ha0 hb0 hla hlb) rfl ?_
 rintro v4 w4 ⟨k4,h4⟩
 repeat (first | refine ar5 ?_)
 refine j1 (am7 (hS.to k4) h4) rfl ?_
 rintro v5 w5 ⟨k5,r,e,rfl,hor⟩
 repeat (first | refine D6 rfl rfl ?_)
 have k':=(k.trans k4).trans k5
 replace hg:=(hg.to k4).to k5
 rcases hor with ⟨hf,rfl,m,b,rfl,hm,hb⟩ | ⟨hf,rfl,m,b,rfl,hm,hb⟩
 ·refine G8 rfl rfl hg rfl rfl hm.one hb.one ?_
  intro w6 k6 hg6
  repeat refine wW ?_
  exact bk7 rfl (o7 hg6 rfl) (D8 (by conv=>(lhs; whnf))) ⟨Keeps.past k' k6 (by omega),_,_,rfl,.inl ⟨hf,rfl,m,b,rfl,hm.wrT k6 hg (by decide),hb.wrT k6 hg (by decide)⟩⟩
 refine G8 rfl rfl hg rfl rfl hm.one hb.one ?_
 intro w6 k6 hg6
 repeat refine wW ?_
 exact bk7 rfl (o7 hg6 rfl) (D8 (by conv=>(lhs; whnf))) ⟨Keeps.past k' k6 (by omega),_,_,rfl,.inr ⟨hf,rfl,m,b,rfl,hm.wrT k6 hg (by decide),hb.wrT k6 hg (by decide)⟩⟩
theorem am5 {S : Nat → Prop} {w : World} {va vb : Value} {a b : Rat} (hS : Up S w) (ha : RatV S w va a) (hb : RatV S w vb b) (hla : rl a 400000000000) (hlb : rl b 400000000000) (hb0' : b.num ≠ 0) :
  Gives prog 71 [va,vb] w fun v' w'=>Ext w w' ∧ bm5 S w' v' (a / b):=by
 have ha0:=ha
 have hb0:=hb
 obtain ⟨ma,ba,rfl,hma,hba⟩:=ha
 obtain ⟨mb,bb,rfl,hmb,hbb⟩:=hb
 refine l7 func71 rfl rfl rfl ?_
 repeat refine wW ?_
 refine z8 (cs:=[.bool (tst (a.num < 0)),ma,ba]) rfl ?_
 intro w1 ga k1 hga hgsa
 skip
 refine z8 (cs:=[.bool (tst (b.num < 0)),mb,bb]) rfl ?_
 intro w2 gb k2 hgb hgsb
 skip
 refine r5 (cs:=[.bool false,.slice none 0 0,.slice none 0 0]) rfl ?_
 intro w3 g k3 hg hgs
 replace hga:=hga.to (k2.trans k3)
 replace hgb:=hgb.to k3
 have k:=(k1.trans k2).trans k3
 have hs:=(k1.trans k2).size
 replace ha0:=ha0.to k
 replace hb0:=hb0.to k
 replace hma:=hma.to k
 replace hmb:=hmb.to k
 replace hba:=hba.to k
 replace hbb:=hbb.to k
 replace hS:=hS.to k
 clear k1 k2 k3
 repeat (first | refine wW ?_ | refine d7 ?_)
 repeat (first | refine o5 rfl hgb rfl ?_)
 refine j1 (ck5 hb0) rfl ?_
 rintro v3 w3 ⟨rfl,k3⟩
 replace hS:=hS.to k3
 replace hga:=hga.to k3
 replace hgb:=hgb.to k3
 replace hg:=hg.to k3
 replace ha0:=ha0.to k3
 replace hb0:=hb0.to k3
 replace k:=k.trans k3
 have hsg : b.num.sign ≠ 0:=fun h=>hb0' (Int.sign_eq_zero_iff_zero.1 h)
 repeat (first | refine o5 rfl hga rfl ?_ | refine o5 rfl hgb rfl ?_ | refine wW ?_ | refine wp_skip ?_ | refine ac6 rfl rfl ?_ | refine bl9 rfl (by omega) ?_)
 refine j1 (dj2 hS ha0 hb0 hla hlb hb0') rfl ?_
 rintro v4 w4 ⟨k4,h4⟩
 repeat (first | refine ar5 ?_)
 refine j1 (am7 (hS.to k4) h4) rfl ?_
 rintro v5 w5 ⟨k5,r,e,rfl,hor⟩
 repeat (first | refine D6 rfl rfl ?_)
 have k':=(k.trans k4).trans k5
 replace hg:=(hg.to k4).to k5
 rcases hor with ⟨hf,rfl,m,b,rfl,hm,hb⟩ | ⟨hf,rfl,m,b,rfl,hm,hb⟩
 ·refine G8 rfl rfl hg rfl rfl hm.one hb.one ?_
  intro w6 k6 hg6
  repeat refine wW ?_
  exact bk7 rfl (o7 hg6 rfl) (D8 (by conv=>(lhs; whnf))) ⟨Keeps.past k' k6 (by omega),_,_,rfl,.inl ⟨hf,rfl,m,b,rfl,hm.wrT k6 hg (by decide),hb.wrT k6 hg (by decide)⟩⟩
 refine G8 rfl rfl hg rfl rfl hm.one hb.one ?_
 intro w6 k6 hg6
 repeat refine wW ?_
 exact bk7 rfl (o7 hg6 rfl) (D8 (by conv=>(lhs; whnf))) ⟨Keeps.past k' k6 (by omega),_,_,rfl,.inr ⟨hf,rfl,m,b,rfl,hm.wrT k6 hg (by decide),hb.wrT k6 hg (by decide)⟩⟩
def U8 (q : Rat) : List UInt8:=Lib.itoa q.num ++ (if q.den = 1 then [] else 47 :: Lib.decDigits q.den)
theorem M1 (a : Nat) {k : Nat} (h : dl a ≤ k) : Lib.nDigits a ≤ 9 * k + 1:=by
 by_cases h0 : a = 0
 ·subst h0; rw [Lib.nDigits_small (by decide)]; omega
 have:=az0 (n:=a) (by omega); omega
theorem ar4 (z : Int) : (Lib.itoa z).length ≤ Lib.nDigits z.natAbs + 1:=by
 unfold Lib.itoa
 split
 ·rw [List.length_cons,Lib.decDigits_length]; omega
 rw [Lib.decDigits_length,show z.toNat = z.natAbs by omega]; omega
theorem da8 {S : Nat → Prop} {w : World} {v : Value} {q : Rat} (ht : Tab w) (h : RatV S w v q) (hl : rl q 400000000000) :
  Gives prog 81 [v] w fun v' w'=>v' = G5 (U8 q) ∧ Ext w w':=by
 obtain ⟨m,b,rfl,hm,hb⟩:=h
 obtain ⟨hl1,hl2⟩:=hl
 have hbl : (dg (bot q)).length = 0 ↔ q.den = 1:=by
  have h1:=@K6 (bot q)
  unfold dl at h1
  rw [h1]
  unfold bot
  have:=q.den_pos
  split <;> omega
 have hn1:=ar4 q.num
 have hn2:=M1 q.num.natAbs hl1
 have hn3:=M1 q.den hl2
 refine l7 func81 rfl rfl rfl ?_
 repeat refine wW ?_
 refine z8 (cs:=[.bool (tst (q.num < 0)),m,b]) rfl ?_
 intro w1 g k1 hg hgs
 replace hb:=hb.to k1
 repeat (first | refine E5 rfl hg rfl rfl ?_ | refine wW ?_ | refine l6 rfl ?_)
 refine j1 (bj7 (a:=q.num) (ht.to k1) ⟨m,rfl,hm.to k1⟩ (by unfold zl; omega)) rfl ?_
 rintro v2 w2 ⟨rfl,k2⟩
 replace hg:=hg.to k2
 replace hb:=hb.to k2
 repeat (first | refine i1 rfl hg rfl ?_ | refine wW ?_ | refine d7 ?_ | refine B5 (by conv=>(lhs; whnf)) (by assumption) ?_ | refine Z3 rfl rfl ?_ | refine l6 rfl ?_)
 try refine i7 ?_
 refine j4 rfl ?_ ?_ <;> intro hc
 ·have hq : ¬ q.den = 1:=fun h=>by have:=hbl.2 h; omega
  have hbq : bot q = q.den:=by unfold bot; rw [if_neg hq]
  rw [hbq] at hb
  repeat (first | refine i1 rfl hg rfl ?_ | refine wW ?_ | refine l6 rfl ?_)
  refine j1 (cd9 ((ht.to k1).to k2) hb (by omega)) rfl ?_
  rintro v3 w3 ⟨rfl,k3⟩
  refine bq5 (a:=[47]) rfl rfl (by rw [Lib.decDigits_length]; simp; omega) ?_
  refine bq5 rfl rfl (by rw [List.length_append,Lib.decDigits_length]; simp; omega) ?_
  repeat refine wW ?_
  refine q5 rfl ⟨?_,(k1.trans k2).trans k3⟩
  unfold U8
  rw [if_neg hq]
  rfl
 have hq : q.den = 1:=hbl.1 (by omega)
 repeat (first | refine wW ?_ | refine wp_skip ?_)
 refine q5 rfl ⟨?_,k1.trans k2⟩
 unfold U8
 rw [if_pos hq,List.append_nil]
end Go.Proofs.YtmkhgjccoolfjaaGreatDoor
end

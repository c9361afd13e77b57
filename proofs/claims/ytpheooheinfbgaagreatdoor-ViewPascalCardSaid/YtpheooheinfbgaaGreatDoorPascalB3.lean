/- Try Vec Vec2 Pars Rdq New Fits StrR RefS Form Shelf2 IsDig IParse Cut RParse Take Ratio VP SymV SymE SymF SymG SymH SymI SymJ SymK -/
import Derived.Test.YtpheooheinfbgaaGreatDoorPascalB2
import Derived.Lib.ItoaNum
import Derived.Test.YtpheooheinfbgaaGreatDoorPascalB1
import Derived.Laws.IdiomStrings
import Derived.Shelf.Strings.Builder1
import Derived.Shelf.Strings.Builder2
import Derived.Shelf.Strings.Trim
import Derived.Shelf.Small.Utf8
import Derived.Shelf.Small.Strs
import Derived.Shelf.Small.Wraps
import Derived.Shelf.Strings.BuilderF
import Derived.Shelf.Strings.BuilderK
import Derived.Shelf.Strings.Builder2Cap
import Derived.Shelf.Strconv.Atoi
import Derived.Shelf.Strconv.Itoa0
import Derived.Shelf.Strconv.Itoa1
import Derived.Shelf.LaysM
import Derived.Shelf.Strconv.Itoa2
import Derived.Shelf.Strconv.Itoa3
import Derived.Shelf.Strconv.AtoiErrFast
import Derived.Shelf.Strconv.ParseIntEmpty
import Derived.Shelf.Strconv.AtoiFail
import Derived.Shelf.Strconv.Clone
import Derived.Shelf.Strconv.SyntaxError
import Derived.Shelf.LaysC
import Derived.Shelf.Strconv.ToError
import Derived.Shelf.Strconv.AtoiErr
import Derived.Shelf.Strconv.ErrVar
import Derived.Shelf.Strconv.Lower
import Derived.Shelf.Strconv.ParseUint10
import Derived.Shelf.Strconv.ParseUint10Empty
import Derived.Shelf.Strconv.ParseUint10Any
import Derived.Shelf.Strconv.ParseInt10
import Derived.Shelf.Strconv.AtoiLong
import Derived.Shelf.Strconv.AtoiInnerAll
import Derived.Shelf.Strconv.RangeError
import Derived.Shelf.Strconv.ToErrorRange
import Derived.Shelf.Strconv.AtoiAll
import Derived.Shelf.Strconv.ErrVarAll
import Derived.Shelf.Strconv.ParseUintEmpty
import Derived.Shelf.Strconv.ParseUint10b64
import Derived.Shelf.Strconv.ParseUint10b32
import Derived.Shelf.Strconv.ParseUint10b16
import Derived.Shelf.Strconv.ParseUint10b8
import Derived.Shelf.Strconv.ParseUint10At
import Derived.Shelf.Strconv.ParseInt10At64
import Derived.Shelf.Strconv.ParseInt10At32
import Derived.Shelf.Strconv.ParseInt10At16
import Derived.Shelf.Strconv.ParseInt10At8
import Derived.Shelf.Strconv.ParseInt10All
import Derived.Shelf.Strings.Search1
import Derived.Shelf.Strings.Search2
import Derived.Shelf.Strings.Cut
import Derived.Shelf.Strings.Shaped
import Derived.Shelf.Strings.Prefix
import Derived.Shelf.Unicode.Decode
import Derived.Shelf.Strings.Runes
import Derived.Shelf.Strings.AsciiSet
import Derived.Shelf.Bits.Mul64
import Derived.Shelf.Strings.Repeat
import Derived.Shelf.Unicode.DecodeSlow
import Derived.Shelf.Unicode.DecodeAny
import Derived.Shelf.Unicode.DecodeLast
import Derived.Shelf.Strings.BuilderCap
import Derived.Test.YtpheooheinfbgaaGreatDoorProg
import Derived.Shelf.Strings.SlTrimAscii
import Derived.Lib.IndexLaws
section
set_option linter.unusedVariables false
set_option linter.unusedSimpArgs false
namespace Go.Proofs.YtpheooheinfbgaaGreatDoor
open Go Go.RowKit
theorem GivesD.mono {P : Program} {f : FuncId} {args : List Value} {u : FrameMode} {w : World} {Φ Φ' : FrameMode → World → Prop} (h : GivesD P f args u w Φ) (k : ∀ u' w',Φ u' w' → Φ' u' w') : GivesD P f args u w Φ':=
 CallsD.mono h fun e u' w' ⟨he,hp⟩=>⟨he,k _ _ hp⟩
def Tried (S : Nat → Prop) (w : World) (v : Value) (q : Rat) : Prop:=
 ∃ r e,v = .tuple #[r,.int .i64 e] ∧ (Fits q ∧ e = 0 ∧ RatV S w r q ∨ ¬ Fits q ∧ e = 11 ∧ RatV S w r 0)
theorem R1 {S : Nat → Prop} {w : World} : RatV S w (.agg #[.bool false,.slice none 0 0,.slice none 0 0]) 0:=⟨_,_,by rw [j6 (by decide)],.nil,.nil⟩
theorem Y0 {S : Nat → Prop} {w : World} {v : Value} {q : Rat} (hS : Up S w) (h : RatV S w v q) :
  Gives Tryz.prog 97 [.func (.func 98) #[v] #[]] w fun v' w'=>Ext w w' ∧ Tried S w' v' q:=by
 refine M5 Tryz.func97 rfl rfl rfl ?_
 refine an6 ?_
 repeat (first | refine b8 ?_)
 refine p6 (cs:=[.bool false,.slice none 0 0,.slice none 0 0]) rfl ?_
 intro w1 g1 k1 hg1 hgs1
 skip
 refine p6 (cs:=[.int .i64 0]) rfl ?_
 intro w2 g2 k2 hg2 hgs2
 have hgl:=hg1.lt
 replace hg1:=hg1.to k2
 have k:=k1.trans k2
 have hk1:=k1.size
 repeat (first | refine b9 ?_ | refine d6 ?_)
 refine O5 ?_
 refine an2 ?_ (fun e a ρ w hm hq=>ah7 hm hq)
 repeat (first | refine a7 ?_ | refine b8 ?_ | refine d7 (by conv=>(lhs; whnf)) ?_)
 refine af0 (first:=[v]) (cap:=[]) rfl (cc3 (hS.to k) (h.to k)) rfl ?_ ?_
 ·rintro v3 w3 ⟨rfl,k3,hf⟩
  have h3:=h.to (k.trans k3)
  obtain ⟨m,b,hv,hm,hb⟩:=h3
  skip
  refine C6 rfl hv (hg1.to k3) rfl rfl hm.one hb.one ?_
  intro w4 k4 hg4
  have hg24:=(hg2.to k3).wr k4 (by omega)
  refine G4 (u:=.int .i64 0) rfl rfl hg24 (show 0 < 1 by decide) rfl ?_
  intro w5 k5 hg5
  have hg45:=hg4.wr k5 (by omega)
  repeat (first | refine b9 ?_ | refine d6 ?_ | refine wp_ret ?_)
  refine a40.mono ?_
  rintro u' w' ⟨rfl,rfl⟩
  refine ⟨rfl,[.agg #[.bool (tst (q.num < 0)),m,b],.int .i64 0],⟨_,_,n8 (by conv=>(lhs; whnf)) hg45 rfl,⟨_,_,J4 (by conv=>(lhs; whnf)) hg5,rfl,rfl⟩,rfl⟩,?_⟩
  exact ⟨((Keeps.past (k.trans k3) k4 (by omega)).past k5 (by omega)),_,_,rfl,.inl ⟨hf,rfl,m,b,rfl,(hm.wrT k4 (hg1.to k3) (by decide)).wrT k5 hg24 (by decide),(hb.wrT k4 (hg1.to k3) (by decide)).wrT k5 hg24 (by decide)⟩⟩
 ·rintro ch w3 ⟨rfl,k3,hf⟩
  refine G8 ?_
  refine (bb8 (hg1.to k3) rfl (hg2.to k3)).mono ?_
  rintro u' w' ⟨hu,k4,h1,h2⟩
  refine ⟨hu,[.agg #[.bool false,.slice none 0 0,.slice none 0 0],.int .i64 11],⟨_,_,n8 (by conv=>(lhs; whnf)) h1 rfl,⟨_,_,J4 (by conv=>(lhs; whnf)) h2,rfl,rfl⟩,rfl⟩,?_⟩
  exact ⟨Keeps.later (k.trans k3) k4 (fun i hi _=>⟨by omega,by omega⟩),_,_,rfl,.inr ⟨hf,rfl,R1⟩⟩
theorem ck3 {S : Nat → Prop} {w : World} {va vb : Value} {a b : Rat} (hS : Up S w) (ha : RatV S w va a) (hb : RatV S w vb b) (hla : rl a 400000000000) (hlb : rl b 400000000000) :
  Gives Tryz.prog 111 [va,vb] w fun v' w'=>Ext w w' ∧ Tried S w' v' (a + b):=by
 have ha0:=ha
 have hb0:=hb
 obtain ⟨ma,ba,rfl,hma,hba⟩:=ha
 obtain ⟨mb,bb,rfl,hmb,hbb⟩:=hb
 refine j7 Tryz.func111 rfl rfl rfl ?_
 repeat (first | refine a7 ?_ | refine b8 ?_)
 refine x9 (cs:=[.bool (tst (a.num < 0)),ma,ba]) (by conv=>(lhs; whnf)) rfl ?_
 intro w1 ga k1 hga hgsa
 skip
 refine x9 (cs:=[.bool (tst (b.num < 0)),mb,bb]) (by conv=>(lhs; whnf)) rfl ?_
 intro w2 gb k2 hgb hgsb
 skip
 refine p6 (cs:=[.bool false,.slice none 0 0,.slice none 0 0]) rfl ?_
 intro w3 g k3 hg hgs
 replace hga:=hga.to (k2.trans k3)
 replace hgb:=hgb.to k3
 have k:=(k1.trans k2).trans k3
 have hs:=(k1.trans k2).size
 replace ha0:=ha0.to k
 replace hb0:=hb0.to k
 replace hma:=hma.to k
 replace hmb:=hmb.to k
 replace hba:=hba.to k
 replace hbb:=hbb.to k
 replace hS:=hS.to k
 clear k1 k2 k3
 repeat (first | refine a7 ?_ | refine b8 ?_ | refine c7 (by conv=>(lhs; whnf)) ?_ | refine b9 ?_)
 repeat (first | refine n6 rfl hga rfl ?_ | refine n6 rfl hgb rfl ?_)
 refine i7 (cc1 hS ha0 hb0 hla hlb) rfl ?_
 rintro v4 w4 ⟨k4,h4⟩
 repeat (first | refine aa0 ?_)
 refine i7 (Y0 (hS.to k4) h4) rfl ?_
 rintro v5 w5 ⟨k5,r,e,rfl,hor⟩
 repeat (first | refine A4 rfl rfl ?_)
 have k':=(k.trans k4).trans k5
 replace hg:=(hg.to k4).to k5
 rcases hor with ⟨hf,rfl,m,b,rfl,hm,hb⟩ | ⟨hf,rfl,m,b,rfl,hm,hb⟩
 ·refine C6 rfl rfl hg rfl rfl hm.one hb.one ?_
  intro w6 k6 hg6
  repeat (first | refine c7 (by conv=>(lhs; whnf)) ?_ | refine b9 ?_ | refine d6 ?_ | refine wp_ret ?_)
  exact ar5 rfl (n8 (by conv=>(lhs; whnf)) hg6 rfl) (A2 (by conv=>(lhs; whnf))) ⟨Keeps.past k' k6 (by omega),_,_,rfl,.inl ⟨hf,rfl,m,b,rfl,hm.wrT k6 hg (by decide),hb.wrT k6 hg (by decide)⟩⟩
 ·refine C6 rfl rfl hg rfl rfl hm.one hb.one ?_
  intro w6 k6 hg6
  repeat (first | refine c7 (by conv=>(lhs; whnf)) ?_ | refine b9 ?_ | refine d6 ?_ | refine wp_ret ?_)
  exact ar5 rfl (n8 (by conv=>(lhs; whnf)) hg6 rfl) (A2 (by conv=>(lhs; whnf))) ⟨Keeps.past k' k6 (by omega),_,_,rfl,.inr ⟨hf,rfl,m,b,rfl,hm.wrT k6 hg (by decide),hb.wrT k6 hg (by decide)⟩⟩
theorem cg7 {S : Nat → Prop} {w : World} {va vb : Value} {a b : Rat} (hS : Up S w) (ha : RatV S w va a) (hb : RatV S w vb b) (hla : rl a 400000000000) (hlb : rl b 400000000000) :
  Gives Tryz.prog 105 [va,vb] w fun v' w'=>Ext w w' ∧ Tried S w' v' (a * b):=by
 have ha0:=ha
 have hb0:=hb
 obtain ⟨ma,ba,rfl,hma,hba⟩:=ha
 obtain ⟨mb,bb,rfl,hmb,hbb⟩:=hb
 refine j7 Tryz.func105 rfl rfl rfl ?_
 repeat (first | refine a7 ?_ | refine b8 ?_)
 refine x9 (cs:=[.bool (tst (a.num < 0)),ma,ba]) (by conv=>(lhs; whnf)) rfl ?_
 intro w1 ga k1 hga hgsa
 skip
 refine x9 (cs:=[.bool (tst (b.num < 0)),mb,bb]) (by conv=>(lhs; whnf)) rfl ?_
 intro w2 gb k2 hgb hgsb
 skip
 refine p6 (cs:=[.bool false,.slice none 0 0,.slice none 0 0]) rfl ?_
 intro w3 g k3 hg hgs
 replace hga:=hga.to (k2.trans k3)
 replace hgb:=hgb.to k3
 have k:=(k1.trans k2).trans k3
 have hs:=(k1.trans k2).size
 replace ha0:=ha0.to k
 replace hb0:=hb0.to k
 replace hma:=hma.to k
 replace hmb:=hmb.to k
 replace hba:=hba.to k
 replace hbb:=hbb.to k
 replace hS:=hS.to k
 clear k1 k2 k3
 repeat (first | refine a7 ?_ | refine b8 ?_ | refine c7 (by conv=>(lhs; whnf)) ?_ | refine b9 ?_)
 repeat (first | refine n6 rfl hga rfl ?_ | refine n6 rfl hgb rfl ?_)
 refine i7 (b27 hS ha0 hb0 hla hlb) rfl ?_
 rintro v4 w4 ⟨k4,h4⟩
 repeat (first | refine aa0 ?_)
 refine i7 (Y0 (hS.to k4) h4) rfl ?_
 rintro v5 w5 ⟨k5,r,e,rfl,hor⟩
 repeat (first | refine A4 rfl rfl ?_)
 have k':=(k.trans k4).trans k5
 replace hg:=(hg.to k4).to k5
 rcases hor with ⟨hf,rfl,m,b,rfl,hm,hb⟩ | ⟨hf,rfl,m,b,rfl,hm,hb⟩
 ·refine C6 rfl rfl hg rfl rfl hm.one hb.one ?_
  intro w6 k6 hg6
  repeat (first | refine c7 (by conv=>(lhs; whnf)) ?_ | refine b9 ?_ | refine d6 ?_ | refine wp_ret ?_)
  exact ar5 rfl (n8 (by conv=>(lhs; whnf)) hg6 rfl) (A2 (by conv=>(lhs; whnf))) ⟨Keeps.past k' k6 (by omega),_,_,rfl,.inl ⟨hf,rfl,m,b,rfl,hm.wrT k6 hg (by decide),hb.wrT k6 hg (by decide)⟩⟩
 ·refine C6 rfl rfl hg rfl rfl hm.one hb.one ?_
  intro w6 k6 hg6
  repeat (first | refine c7 (by conv=>(lhs; whnf)) ?_ | refine b9 ?_ | refine d6 ?_ | refine wp_ret ?_)
  exact ar5 rfl (n8 (by conv=>(lhs; whnf)) hg6 rfl) (A2 (by conv=>(lhs; whnf))) ⟨Keeps.past k' k6 (by omega),_,_,rfl,.inr ⟨hf,rfl,m,b,rfl,hm.wrT k6 hg (by decide),hb.wrT k6 hg (by decide)⟩⟩
theorem az6 {S : Nat → Prop} {w : World} {va vb : Value} {a b : Rat} (hS : Up S w) (ha : RatV S w va a) (hb : RatV S w vb b) (hla : rl a 400000000000) (hlb : rl b 400000000000) (hb0' : b.num ≠ 0) :
  Gives Tryz.prog 68 [va,vb] w fun v' w'=>Ext w w' ∧ Tried S w' v' (a / b):=by
 have ha0:=ha
 have hb0:=hb
 obtain ⟨ma,ba,rfl,hma,hba⟩:=ha
 obtain ⟨mb,bb,rfl,hmb,hbb⟩:=hb
 refine j7 Tryz.func68 rfl rfl rfl ?_
 repeat (first | refine a7 ?_ | refine b8 ?_)
 refine x9 (cs:=[.bool (tst (a.num < 0)),ma,ba]) (by conv=>(lhs; whnf)) rfl ?_
 intro w1 ga k1 hga hgsa
 skip
 refine x9 (cs:=[.bool (tst (b.num < 0)),mb,bb]) (by conv=>(lhs; whnf)) rfl ?_
 intro w2 gb k2 hgb hgsb
 skip
 refine p6 (cs:=[.bool false,.slice none 0 0,.slice none 0 0]) rfl ?_
 intro w3 g k3 hg hgs
 replace hga:=hga.to (k2.trans k3)
 replace hgb:=hgb.to k3
 have k:=(k1.trans k2).trans k3
 have hs:=(k1.trans k2).size
 replace ha0:=ha0.to k
 replace hb0:=hb0.to k
 replace hma:=hma.to k
 replace hmb:=hmb.to k
 replace hba:=hba.to k
 replace hbb:=hbb.to k
 replace hS:=hS.to k
 clear k1 k2 k3
 repeat (first | refine a7 ?_ | refine d8 ?_ | refine b8 ?_ | refine c7 (by conv=>(lhs; whnf)) ?_ | refine b9 ?_)
 repeat (first | refine n6 rfl hgb rfl ?_)
 refine i7 (af9 hb0) rfl ?_
 rintro v3 w3 ⟨rfl,k3⟩
 replace hS:=hS.to k3
 replace hga:=hga.to k3
 replace hgb:=hgb.to k3
 replace hg:=hg.to k3
 replace ha0:=ha0.to k3
 replace hb0:=hb0.to k3
 replace k:=k.trans k3
 have hsg : b.num.sign ≠ 0:=fun h=>hb0' (Int.sign_eq_zero_iff_zero.1 h)
 repeat (first | refine n6 rfl hga rfl ?_ | refine n6 rfl hgb rfl ?_ | refine a7 ?_ | refine b8 ?_ | refine b9 ?_ | refine d6 ?_ | refine wp_skip ?_ | refine P8 rfl rfl ?_ | refine aq9 rfl (by omega) ?_)
 refine i7 (cd1 hS ha0 hb0 hla hlb hb0') rfl ?_
 rintro v4 w4 ⟨k4,h4⟩
 repeat (first | refine aa0 ?_)
 refine i7 (Y0 (hS.to k4) h4) rfl ?_
 rintro v5 w5 ⟨k5,r,e,rfl,hor⟩
 repeat (first | refine A4 rfl rfl ?_)
 have k':=(k.trans k4).trans k5
 replace hg:=(hg.to k4).to k5
 rcases hor with ⟨hf,rfl,m,b,rfl,hm,hb⟩ | ⟨hf,rfl,m,b,rfl,hm,hb⟩
 ·refine C6 rfl rfl hg rfl rfl hm.one hb.one ?_
  intro w6 k6 hg6
  repeat (first | refine c7 (by conv=>(lhs; whnf)) ?_ | refine b9 ?_ | refine d6 ?_ | refine wp_ret ?_)
  exact ar5 rfl (n8 (by conv=>(lhs; whnf)) hg6 rfl) (A2 (by conv=>(lhs; whnf))) ⟨Keeps.past k' k6 (by omega),_,_,rfl,.inl ⟨hf,rfl,m,b,rfl,hm.wrT k6 hg (by decide),hb.wrT k6 hg (by decide)⟩⟩
 ·refine C6 rfl rfl hg rfl rfl hm.one hb.one ?_
  intro w6 k6 hg6
  repeat (first | refine c7 (by conv=>(lhs; whnf)) ?_ | refine b9 ?_ | refine d6 ?_ | refine wp_ret ?_)
  exact ar5 rfl (n8 (by conv=>(lhs; whnf)) hg6 rfl) (A2 (by conv=>(lhs; whnf))) ⟨Keeps.past k' k6 (by omega),_,_,rfl,.inr ⟨hf,rfl,m,b,rfl,hm.wrT k6 hg (by decide),hb.wrT k6 hg (by decide)⟩⟩
end Go.Proofs.YtpheooheinfbgaaGreatDoor
end
section
set_option linter.unusedVariables false
set_option linter.unusedSimpArgs false
namespace Go.Proofs.YtpheooheinfbgaaGreatDoor
open Go Go.RowKit
abbrev Tri:=Value × Value × Value
def flat : List Tri → List Value
 | []=>[]
 | (a,b,c) :: r=>a :: b :: c :: flat r
section rules
variable {P : Program} {n : Nat} {Q : Post} {ρ : Fr} {w : World} {all rest : List Oper} {d : Tmp} {ty : TypeId} {pos : String} {aft : Array Edge}
end rules
end Go.Proofs.YtpheooheinfbgaaGreatDoor
end
section
set_option linter.unusedVariables false
set_option linter.unusedSimpArgs false
namespace Go.Proofs.YtpheooheinfbgaaGreatDoor
open Go Go.RowKit
def rstr (q : Rat) : List UInt8:=Lib.itoa q.num ++ (if q.den = 1 then [] else 47 :: Lib.decDigits q.den)
theorem E9 (a : Nat) {k : Nat} (h : dl a ≤ k) : Lib.nDigits a ≤ 9 * k + 1:=by
 by_cases h0 : a = 0
 ·subst h0; rw [Lib.nDigits_small (by decide)]; omega
 ·have:=ad6 (n:=a) (by omega); omega
theorem aa4 (z : Int) : (Lib.itoa z).length ≤ Lib.nDigits z.natAbs + 1:=by
 unfold Lib.itoa
 split
 ·rw [List.length_cons,Lib.decDigits_length]; omega
 ·rw [Lib.decDigits_length,show z.toNat = z.natAbs by omega]; omega
theorem b47 {S : Nat → Prop} {w : World} {v : Value} {q : Rat} (ht : Tab w) (h : RatV S w v q) (hl : rl q 400000000000) :
  Gives Tryz.prog 36 [v] w fun v' w'=>v' = strV (rstr q) ∧ Ext w w':=by
 obtain ⟨m,b,rfl,hm,hb⟩:=h
 obtain ⟨hl1,hl2⟩:=hl
 have hbl : (dg (bot q)).length = 0 ↔ q.den = 1:=by
  have h1:=@E3 (bot q)
  unfold dl at h1
  rw [h1]
  unfold bot
  have:=q.den_pos
  split <;> omega
 have hn1:=aa4 q.num
 have hn2:=E9 q.num.natAbs hl1
 have hn3:=E9 q.den hl2
 refine j7 Tryz.func36 rfl rfl rfl ?_
 repeat (first | refine a7 ?_ | refine b8 ?_)
 refine x9 (cs:=[.bool (tst (q.num < 0)),m,b]) (by conv=>(lhs; whnf)) rfl ?_
 intro w1 g k1 hg hgs
 replace hb:=hb.to k1
 repeat (first | refine o7 rfl hg rfl rfl ?_ | refine a7 ?_ | refine b8 ?_ | refine c7 (by conv=>(lhs; whnf)) ?_ | refine b9 ?_ | refine j4 rfl ?_)
 refine i7 (aq7 (a:=q.num) (ht.to k1) ⟨m,rfl,hm.to k1⟩ (by unfold zl; omega)) rfl ?_
 rintro v2 w2 ⟨rfl,k2⟩
 replace hg:=hg.to k2
 replace hb:=hb.to k2
 repeat (first | refine f5 rfl hg rfl ?_ | refine a7 ?_ | refine d8 ?_ | refine b8 ?_ | refine c7 (by conv=>(lhs; whnf)) ?_ | refine b9 ?_ | refine d6 ?_ | refine r9 (by conv=>(lhs; whnf)) (by assumption) ?_ | refine N3 rfl rfl ?_ | refine j4 rfl ?_)
 try refine i6 ?_
 refine j3 rfl ?_ ?_ <;> intro hc
 ·have hq : ¬ q.den = 1:=fun h=>by have:=hbl.2 h; omega
  have hbq : bot q = q.den:=by unfold bot; rw [if_neg hq]
  rw [hbq] at hb
  repeat (first | refine f5 rfl hg rfl ?_ | refine b8 ?_ | refine d7 (by conv=>(lhs; whnf)) ?_ | refine j4 rfl ?_)
  refine i7 (bh7 ((ht.to k1).to k2) hb (by omega)) rfl ?_
  rintro v3 w3 ⟨rfl,k3⟩
  refine av3 (a:=[47]) rfl rfl (by rw [Lib.decDigits_length]; simp; omega) ?_
  refine av3 rfl rfl (by rw [List.length_append,Lib.decDigits_length]; simp; omega) ?_
  repeat (first | refine a7 ?_ | refine b8 ?_ | refine d7 (by conv=>(lhs; whnf)) ?_ | refine c7 (by conv=>(lhs; whnf)) ?_ | refine b9 ?_ | refine d6 ?_ | refine wp_ret ?_)
  refine m9 rfl (by conv=>(lhs; whnf)) ⟨?_,(k1.trans k2).trans k3⟩
  unfold rstr
  rw [if_neg hq]
  rfl
 ·have hq : q.den = 1:=hbl.1 (by omega)
  repeat (first | refine a7 ?_ | refine b8 ?_ | refine d7 (by conv=>(lhs; whnf)) ?_ | refine c7 (by conv=>(lhs; whnf)) ?_ | refine b9 ?_ | refine d6 ?_ | refine wp_ret ?_ | refine wp_skip ?_)
  refine m9 rfl (by conv=>(lhs; whnf)) ⟨?_,k1.trans k2⟩
  unfold rstr
  rw [if_pos hq,List.append_nil]
end Go.Proofs.YtpheooheinfbgaaGreatDoor
end
section
set_option linter.unusedVariables false
set_option linter.unusedSimpArgs false
namespace Go.Proofs.YtpheooheinfbgaaGreatDoor
open Go
def digV (l : List UInt8) : Nat:=l.foldl (fun a c=>10 * a + (c.toNat - 48)) 0
def Dig (c : UInt8) : Prop:=48 ≤ c.toNat ∧ c.toNat ≤ 57
def DecL (l : List UInt8) : Prop:=l ≠ [] ∧ (∀ c ∈ l,Dig c) ∧ (l.head? = some 48 → l.length = 1)
theorem ar9 : digV [] = 0:=rfl
theorem V3 (l : List UInt8) (c : UInt8) : digV (l ++ [c]) = 10 * digV l + (c.toNat - 48):=by
 unfold digV
 rw [List.foldl_append]
 rfl
theorem a52 (a b : List UInt8) : digV (a ++ b) = digV a * 10 ^ b.length + digV b:=by
 induction h : b.length generalizing b with
 | zero=>
  obtain rfl:=List.eq_nil_of_length_eq_zero h
  simp [ar9]
 | succ k ih=>
  have hne : b ≠ []:=by rintro rfl; simp at h
  have e:=List.dropLast_concat_getLast hne
  rw [← e,← List.append_assoc,V3,V3,ih b.dropLast (by rw [List.length_dropLast]; omega),Nat.pow_succ]
  rw [Nat.mul_add,Nat.add_assoc,Nat.mul_left_comm,Nat.mul_comm 10]
theorem bk1 {l : List UInt8} (h : ∀ c ∈ l,Dig c) : digV l < 10 ^ l.length:=by
 induction hl : l.length generalizing l with
 | zero=>
  obtain rfl:=List.eq_nil_of_length_eq_zero hl
  simp [ar9]
 | succ k ih=>
  have hne : l ≠ []:=by rintro rfl; simp at hl
  have e:=List.dropLast_concat_getLast hne
  have h1:=ih (l:=l.dropLast) (fun c hc=>h c (List.dropLast_subset _ hc)) (by rw [List.length_dropLast]; omega)
  have h2:=h _ (List.getLast_mem hne)
  rw [← e,V3,Nat.pow_succ]
  unfold Dig at h2
  omega
theorem J1 (n : Nat) : digV (Lib.decDigits n) = n:=by
 induction n using Nat.strongRecOn with
 | _ n ih=>
  rw [Lib.decDigits]
  by_cases h : n < 10
  ·rw [dif_pos h]
   show 10 * 0 + ((UInt8.ofNat (48 + n)).toNat - 48) = n
   rw [UInt8.toNat_ofNat']
   omega
  ·rw [dif_neg h,V3,ih _ (by omega),UInt8.toNat_ofNat']
   omega
theorem bv2 (n : Nat) : Lib.decDigits n ≠ []:=by
 intro h
 have h1:=Lib.decDigits_length n
 rw [h] at h1
 have:=Lib.nDigits_pos n
 simp at h1
 omega
theorem V5 (n : Nat) : DecL (Lib.decDigits n):=by
 refine ⟨bv2 n,?_,?_⟩
 ·induction n using Nat.strongRecOn with
  | _ n ih=>
   rw [Lib.decDigits]
   intro c hc
   by_cases h : n < 10
   ·rw [dif_pos h] at hc
    rw [List.mem_singleton.1 hc]
    unfold Dig
    rw [UInt8.toNat_ofNat']
    omega
   ·rw [dif_neg h] at hc
    rcases List.mem_append.1 hc with h1 | h1
    ·exact ih _ (by omega) c h1
    ·rw [List.mem_singleton.1 h1]
     unfold Dig
     rw [UInt8.toNat_ofNat']
     omega
 ·intro h
  by_cases hn : n < 10
  ·rw [Lib.decDigits_one hn]; rfl
  ·exfalso
   have hp : 0 < n:=by omega
   have h1:=as9 hp
   have h2:=bl3 (k:=Lib.nDigits n) (v:=n) (i:=Lib.nDigits n - 1) (by have:=Lib.nDigits_pos n; omega)
   rw [← an5] at h2
   have h3 : (Lib.decDigits n).reverse[Lib.nDigits n - 1]? = (Lib.decDigits n).head?:=by
    have hl:=Lib.decDigits_length n
    have hpos:=Lib.nDigits_pos n
    rw [List.getElem?_reverse (by omega),hl,show Lib.nDigits n - 1 - (Lib.nDigits n - 1) = 0 by omega,List.head?_eq_getElem?]
   rw [h3,h] at h2
   have h4:=congrArg UInt8.toNat (Option.some.inj h2)
   rw [UInt8.toNat_ofNat'] at h4
   have h5 : (48 : UInt8).toNat = 48:=rfl
   rw [h5] at h4
   omega
theorem P0 {l : List UInt8} (h : DecL l) : Lib.decDigits (digV l) = l:=by
 induction hl : l.length generalizing l with
 | zero=>exact absurd (List.eq_nil_of_length_eq_zero hl) h.1
 | succ k ih=>
  have e:=List.dropLast_concat_getLast h.1
  have h2:=h.2.1 _ (List.getLast_mem h.1)
  obtain ⟨c,hc⟩ : ∃ c,c = l.getLast h.1:=⟨_,rfl⟩
  obtain ⟨t,ht⟩ : ∃ t,t = l.dropLast:=⟨_,rfl⟩
  rw [← hc] at h2 e
  rw [← ht] at e
  have htl : t.length = k:=by rw [ht,List.length_dropLast]; omega
  rw [← e,V3]
  unfold Dig at h2
  rcases Nat.eq_zero_or_pos k with h0 | h0
  ·obtain rfl:=List.eq_nil_of_length_eq_zero (htl.trans h0)
   rw [ar9,Nat.mul_zero,Nat.zero_add,Lib.decDigits_one (by omega)]
   show [UInt8.ofNat (48 + (c.toNat - 48))] = [c]
   rw [show 48 + (c.toNat - 48) = c.toNat by omega,UInt8.ofNat_toNat]
  ·have hne : t ≠ []:=by rintro rfl; simp at htl; omega
   have hhd : l.head? = t.head?:=by rw [← e]; cases t with | nil=>exact absurd rfl hne | cons x r=>rfl
   have h48 : t.head? ≠ some 48:=by
    intro h3
    have:=h.2.2 (hhd.trans h3)
    omega
   have hT : DecL t:=⟨hne,fun x hx=>h.2.1 x (by rw [← e]; exact List.mem_append_left _ hx),fun h3=>absurd h3 h48⟩
   have hi:=ih hT htl
   have hpos : 0 < digV t:=by
    rcases Nat.eq_zero_or_pos (digV t) with h3 | h3
    ·rw [h3,Lib.decDigits_one (by decide)] at hi
     rw [← hi] at h48
     exact absurd rfl h48
    ·exact h3
   rw [Lib.decDigits,dif_neg (by omega),show (10 * digV t + (c.toNat - 48)) / 10 = digV t by omega,hi,show (10 * digV t + (c.toNat - 48)) % 10 = c.toNat - 48 by omega,show 48 + (c.toNat - 48) = c.toNat by omega,UInt8.ofNat_toNat]
theorem bt4 {l : List UInt8} : DecL l ↔ ∃ n,l = Lib.decDigits n:=⟨fun h=>⟨_,(P0 h).symm⟩,fun ⟨n,h⟩=>h ▸ V5 n⟩
theorem ap3 {a b : Int} (h : Lib.itoa a = Lib.itoa b) : a = b:=by
 have hd : ∀ n c,(Lib.decDigits n).head? = some c → 48 ≤ c.toNat:=fun n c hc=>((V5 n).2.1 c (List.mem_of_head? hc)).1
 have neg : ∀ n m : Nat,Lib.decDigits n = 45 :: Lib.decDigits m → False:=fun n m e=>by
  have:=hd n 45 (by rw [e]; rfl)
  exact absurd this (by decide)
 unfold Lib.itoa at h
 split at h <;> split at h
 ·have:=congrArg digV (List.cons.inj h).2
  rw [J1,J1] at this
  omega
 ·exact (neg _ _ h.symm).elim
 ·exact (neg _ _ h).elim
 ·have:=congrArg digV h
  rw [J1,J1] at this
  omega
theorem a05 {l : List UInt8} : (∃ z : Int,z < 0 ∧ 45 :: l = Lib.itoa z) ↔ DecL l ∧ l.head? ≠ some 48:=by
 constructor
 ·rintro ⟨z,hz,h⟩
  unfold Lib.itoa at h
  rw [if_pos hz] at h
  have hl:=(List.cons.inj h).2
  refine ⟨bt4.2 ⟨_,hl⟩,fun h48=>?_⟩
  have h1:=(V5 z.natAbs).2.2 (by rw [← hl]; exact h48)
  rw [hl] at h48
  rw [Lib.decDigits_length] at h1
  have h2 : z.natAbs < 10:=by
   have:=Lib.lt_pow_nDigits z.natAbs
   rw [h1] at this
   omega
  rw [Lib.decDigits_one h2] at h48
  have h3:=congrArg UInt8.toNat (Option.some.inj h48)
  rw [UInt8.toNat_ofNat'] at h3
  have h5 : (48 : UInt8).toNat = 48:=rfl
  rw [h5] at h3
  omega
 ·rintro ⟨h,h48⟩
  have hp : 0 < digV l:=by
   rcases Nat.eq_zero_or_pos (digV l) with h3 | h3
   ·have hi:=P0 h
    rw [h3,Lib.decDigits_one (by decide)] at hi
    rw [← hi] at h48
    exact absurd rfl h48
   ·exact h3
  refine ⟨-(digV l : Int),by omega,?_⟩
  unfold Lib.itoa
  rw [if_pos (by omega),show (-(digV l : Int)).natAbs = digV l by omega,P0 h]
theorem bu3 {l : List UInt8} (h : DecL l) : l = Lib.itoa (digV l : Int):=by
 unfold Lib.itoa
 rw [if_neg (by omega),show ((digV l : Int)).toNat = digV l from rfl,P0 h]
theorem be2 (z : Int) : (∃ l,Lib.itoa z = 45 :: l ∧ z < 0) ∨ DecL (Lib.itoa z):=by
 unfold Lib.itoa
 split
 ·rename_i h; exact .inl ⟨_,rfl,h⟩
 ·exact .inr (V5 _)
theorem ca4 {l : List UInt8} (h : DecL l) (h48 : l.head? ≠ some 48) : 0 < digV l:=by
 rcases Nat.eq_zero_or_pos (digV l) with h3 | h3
 ·have hi:=P0 h
  rw [h3,Lib.decDigits_one (by decide)] at hi
  rw [← hi] at h48
  exact absurd rfl h48
 ·exact h3
theorem bp5 {l : List UInt8} (h : DecL l) (h48 : l.head? ≠ some 48) : 45 :: l = Lib.itoa (-(digV l : Int)):=by
 have hp:=ca4 h h48
 unfold Lib.itoa
 rw [if_pos (by omega),show (-(digV l : Int)).natAbs = digV l by omega,P0 h]
def NegS (s : List UInt8) : Prop:=s.head? = some 45
instance dec_NegS (s : List UInt8) : Decidable (NegS s):=by unfold NegS; exact inferInstance
def Dgs (s : List UInt8) : List UInt8:=if NegS s then s.drop 1 else s
theorem bj7 {s : List UInt8} (h : NegS s) : s = 45 :: Dgs s:=by
 unfold Dgs
 rw [if_pos h]
 unfold NegS at h
 cases s with
 | nil=>cases h
 | cons c r=>simp at h; subst h; rfl
theorem bj3 {s : List UInt8} (h : ¬ NegS s) : Dgs s = s:=by unfold Dgs; rw [if_neg h]
theorem ch2 (s : List UInt8) : (Dgs s).length ≤ s.length:=by
 unfold Dgs
 split
 ·rw [List.length_drop]; omega
 ·exact Nat.le_refl _
def numV (s : List UInt8) : Int:=if NegS s then -(digV (Dgs s) : Int) else digV (Dgs s)
theorem ay9 {s : List UInt8} (h : DecL (Dgs s)) (h48 : NegS s → (Dgs s).head? ≠ some 48) : s = Lib.itoa (numV s):=by
 unfold numV
 by_cases hn : NegS s
 ·rw [if_pos hn,← bp5 h (h48 hn)]
  exact bj7 hn
 ·rw [if_neg hn,← bu3 h]
  exact (bj3 hn).symm
theorem az2 (s : List UInt8) : (∃ z,s = Lib.itoa z) ↔ DecL (Dgs s) ∧ (NegS s → (Dgs s).head? ≠ some 48):=by
 constructor
 ·rintro ⟨z,hz⟩
  rcases be2 z with ⟨l,hl,hneg⟩ | hd
  ·have hn : NegS s:=by unfold NegS; rw [hz,hl]; rfl
   have he:=bj7 hn
   have h1:=a05.1 ⟨z,hneg,hl.symm⟩
   rw [hz,hl] at he
   have e : Dgs s = l:=by rw [hz,hl]; exact (List.cons.inj he).2.symm
   rw [e]
   exact ⟨h1.1,fun _=>h1.2⟩
  ·rw [← hz] at hd
   have hn : ¬ NegS s:=by
    intro hn
    unfold NegS at hn
    have:=(hd.2.1 45 (List.mem_of_head? hn)).1
    exact absurd this (by decide)
   rw [bj3 hn]
   exact ⟨hd,fun h=>absurd h hn⟩
 ·rintro ⟨h,h48⟩
  exact ⟨_,ay9 h h48⟩
end Go.Proofs.YtpheooheinfbgaaGreatDoor
end
section
set_option linter.unusedVariables false
set_option linter.unusedSimpArgs false
namespace Go.Proofs.YtpheooheinfbgaaGreatDoor
open Go Go.RowKit
theorem a34 (n : Nat) : (47 : UInt8) ∉ Lib.decDigits n:=fun h=>by
 have:=(V5 n).2.1 _ h
 unfold Dig at this
 have h47 : (47 : UInt8).toNat = 47:=rfl
 omega
theorem ab7 (z : Int) : (47 : UInt8) ∉ Lib.itoa z:=by
 unfold Lib.itoa
 split
 ·intro h
  rcases List.mem_cons.1 h with h | h
  ·cases h
  ·exact a34 _ h
 ·exact a34 _
theorem b96 : ∀ {a b c d : List UInt8},(47 : UInt8) ∉ a → (47 : UInt8) ∉ c → a ++ 47 :: b = c ++ 47 :: d → a = c ∧ b = d:=by
 intro a
 induction a with
 | nil=>
  intro b c d _ hc h
  cases c with
  | nil=>simpa using h
  | cons y c=>
   simp only [List.nil_append,List.cons_append,List.cons.injEq] at h
   exact absurd (h.1 ▸ List.mem_cons_self ..) hc
 | cons x a ih=>
  intro b c d ha hc h
  cases c with
  | nil=>
   simp only [List.nil_append,List.cons_append,List.cons.injEq] at h
   exact absurd (h.1 ▸ List.mem_cons_self ..) ha
  | cons y c=>
   simp only [List.cons_append,List.cons.injEq] at h
   obtain ⟨h1,h2⟩:=ih (fun h=>ha (List.mem_cons_of_mem _ h)) (fun h=>hc (List.mem_cons_of_mem _ h)) h.2
   exact ⟨by rw [h.1,h1],h2⟩
theorem ag6 {q : Rat} (h : q.den = 1) : rstr q = Lib.itoa q.num:=by unfold rstr; rw [if_pos h,List.append_nil]
theorem ab4 {q : Rat} (h : q.den ≠ 1) : rstr q = Lib.itoa q.num ++ 47 :: Lib.decDigits q.den:=by unfold rstr; rw [if_neg h]
theorem aj3 {s : List UInt8} (hs : (47 : UInt8) ∉ s) (q : Rat) : s = rstr q ↔ q.den = 1 ∧ s = Lib.itoa q.num:=by
 by_cases h : q.den = 1
 ·rw [ag6 h]; exact ⟨fun h2=>⟨h,h2⟩,fun h2=>h2.2⟩
 ·constructor
  ·intro h2
   rw [ab4 h] at h2
   exact absurd (h2 ▸ List.mem_append_right _ (List.mem_cons_self ..)) hs
  ·exact fun h2=>absurd h2.1 h
theorem af3 {a b : List UInt8} (ha : (47 : UInt8) ∉ a) (q : Rat) : a ++ 47 :: b = rstr q ↔ q.den ≠ 1 ∧ a = Lib.itoa q.num ∧ b = Lib.decDigits q.den:=by
 by_cases h : q.den = 1
 ·constructor
  ·intro h2
   rw [ag6 h] at h2
   exact absurd (h2 ▸ List.mem_append_right _ (List.mem_cons_self ..)) (ab7 _)
  ·exact fun h2=>absurd h h2.1
 ·rw [ab4 h]
  constructor
  ·exact fun h2=>⟨h,b96 ha (ab7 _) h2⟩
  ·rintro ⟨_,rfl,rfl⟩; rfl
theorem cl9 (n : Int) {d : Nat} (hd : d ≠ 0) (hg : Nat.gcd n.natAbs d = 1) : ∃ q : Rat,q.num = n ∧ q.den = d:=⟨⟨n,d,hd,hg⟩,rfl,rfl⟩
theorem b79 (q : Rat) : Nat.gcd q.num.natAbs q.den = 1:=q.reduced
theorem bz6 {p q : Rat} (h : rstr p = rstr q) : p = q:=by
 by_cases hp : p.den = 1
 ·have h2:=(aj3 (ab7 p.num) q).1 ((ag6 hp).symm.trans h)
  exact Rat.ext (ap3 h2.2) (hp.trans h2.1.symm)
 ·have h2:=(af3 (ab7 p.num) q).1 ((ab4 hp).symm.trans h)
  refine Rat.ext (ap3 h2.2.1) ?_
  have h3:=congrArg digV h2.2.2
  rwa [J1,J1] at h3
theorem cb7 (q : Rat) : (Lib.itoa q.num).length ≤ (rstr q).length:=by unfold rstr; rw [List.length_append]; omega
theorem b83 (q : Rat) : Lib.nDigits q.den ≤ (rstr q).length:=by
 by_cases h : q.den = 1
 ·rw [h,Lib.nDigits_small (by decide),ag6 h]
  cases h2 : Lib.itoa q.num with
  | nil=>
   unfold Lib.itoa at h2
   split at h2
   ·cases h2
   ·exact absurd h2 (bv2 _)
  | cons x l=>simp
 ·rw [ab4 h,List.length_append,List.length_cons,Lib.decDigits_length]; omega
theorem at4 (k : Nat) : ∀ {n : Nat},10 ^ k ≤ n → Lib.nDigits n = Lib.nDigits (n / 10 ^ k) + k:=by
 induction k with
 | zero=>intro n _; simp
 | succ k ih=>
  intro n h
  have h10 : 10 ≤ n:=Nat.le_trans (Nat.le_self_pow (n:=k + 1) (by omega) 10) h
  rw [Lib.nDigits_big (by omega),ih (n:=n / 10) ((Nat.le_div_iff_mul_le (by omega)).2 (by rwa [← Nat.pow_succ])),Nat.div_div_eq_div_mul,show 10 * 10 ^ k = 10 ^ (k + 1) from (Nat.pow_succ').symm]
  omega
theorem bq7 : 10 ^ 30102 ≤ Big:=by
 rw [ay4]
 exact Nat.le_of_ble_eq_true (by kernel_rfl)
theorem am6 {i j : Nat} (h : i ≤ j) : 10 ^ i ≤ 10 ^ j:=Nat.pow_le_pow_right (by decide) h
theorem bh9 {n : Nat} (h : Lib.nDigits n ≤ 30102) : n < Big:=Nat.lt_of_lt_of_le (Lib.lt_pow_nDigits n) (Nat.le_trans (am6 h) bq7)
theorem ap7 (z : Int) : Lib.nDigits z.natAbs ≤ (Lib.itoa z).length:=by
 unfold Lib.itoa
 split
 ·rw [List.length_cons,Lib.decDigits_length]; omega
 ·rw [Lib.decDigits_length,show z.toNat = z.natAbs by omega]; exact Nat.le_refl _
theorem bz2 {q : Rat} (h : (rstr q).length ≤ 30102) : Fits q:=
 ⟨bh9 (Nat.le_trans (ap7 _) (Nat.le_trans (cb7 q) h)),bh9 (Nat.le_trans (b83 q) h)⟩
theorem bo7 {n k : Nat} (h : Lib.nDigits n ≤ 9 * k) : dl n ≤ k:=by
 refine F8 ?_
 rw [S7]
 exact Nat.lt_of_lt_of_le (Lib.lt_pow_nDigits n) (Nat.pow_le_pow_right (by omega) h)
end Go.Proofs.YtpheooheinfbgaaGreatDoor
end
section
set_option linter.unusedVariables false
set_option linter.unusedSimpArgs false
namespace Go.Proofs.YtpheooheinfbgaaGreatDoor
open Go Go.RowKit
section rules
variable {P : Program} {n : Nat} {Q : Post} {ρ : Fr} {w : World} {all rest : List Oper} {d d2 : Tmp} {ty ty2 ty3 ty4 : TypeId} {pos pos2 pos3 pos4 : String} {aft aft2 aft3 aft4 : Array Edge}
theorem co8 {T : TypeId} {s b : Nat} {z : Value} {agg : Bool} [ti : TyI P T s b z agg] {y : Operand} {us zs : List Value} {u : Value} (hz : z.cells = zs.toArray) (hy : ∀ g,ev (upd ρ d (.pointer (some ⟨g,0,none⟩))) y = u) (hc : u.cells = us.toArray)
  (hl : us.length = s) (h1 : ∀ v ∈ us,v.oneCell' = true) (h : ∀ w' g,Ext w w' → w.heap.size ≤ g → Blk w' g T us → WpR P n all Q rest (upd ρ d (.pointer (some ⟨g,0,none⟩))) w') :
  WpR P n all Q (⟨some d,.alloc T,ty,pos,aft,none⟩ :: ⟨none,.store T (.tmp d) y,ty2,pos2,aft2,none⟩ :: rest) ρ w:=by
 refine p6 hz ?_
 intro w1 g k1 hg hgs
 have hzl : zs.length = s:=by
  have:=ti.zsize
  rw [hz] at this
  simpa using this
 refine y6 (us:=us) (B7 _ _ _) (hy g) hc hl hg hzl h1 ?_
 intro w2 k2 hg2
 exact h w2 g (k1.past k2 hgs) hgs hg2
end rules
end Go.Proofs.YtpheooheinfbgaaGreatDoor
end
section
set_option linter.unusedVariables false
set_option linter.unusedSimpArgs false
namespace Go.Proofs.YtpheooheinfbgaaGreatDoor
open Go Go.RowKit
theorem bb2 {a : Nat} (h : 0 < (dg a).length) : 0 < (dg a).getD ((dg a).length - 1) 0 ∧ Lib.nDigits a = 9 * ((dg a).length - 1) + Lib.nDigits ((dg a).getD ((dg a).length - 1) 0) ∧ (dg a).getD ((dg a).length - 1) 0 < 1000000000:=by
 have h1 : 1000000000 ^ ((dg a).length - 1) ≤ a:=bd6 (a:=a) h
 have h2 : a < 1000000000 ^ (dg a).length:=y7 a
 have h3:=ap0 a ((dg a).length - 1)
 have hp : 0 < 1000000000 ^ ((dg a).length - 1):=Nat.pow_pos (by decide)
 have h4 : 1000000000 ^ (dg a).length = 1000000000 * 1000000000 ^ ((dg a).length - 1):=by
  rw [← Nat.pow_succ']
  congr 1
  omega
 rw [h4] at h2
 have h5 : a / 1000000000 ^ ((dg a).length - 1) < 1000000000:=(Nat.div_lt_iff_lt_mul hp).2 h2
 rw [Nat.mod_eq_of_lt h5] at h3
 rw [h3]
 refine ⟨Nat.div_pos h1 hp,?_,h5⟩
 rw [S7] at h1 ⊢
 rw [at4 _ h1]
 omega
theorem b65 {S : Nat → Prop} {w : World} {va : Value} {a : Nat} (ha : NatV S 3 .i64 w va a) (hla : dl a ≤ 16000000000000) :
  Gives Tryz.prog 102 [va] w fun v' w'=>v' = .int .i64 (Lib.nDigits a : Nat) ∧ Ext w w':=by
 have hml : (dg a).length ≤ 16000000000000:=hla
 have hz:=@E3 a
 unfold dl at hz
 refine j7 Tryz.func102 rfl rfl rfl ?_
 repeat (first | refine a7 ?_ | refine d8 ?_ | refine b8 ?_ | refine d7 (by conv=>(lhs; whnf)) ?_ | refine c7 (by conv=>(lhs; whnf)) ?_ | refine b9 ?_ | refine d6 ?_ | refine r9 (by conv=>(lhs; whnf)) (by assumption) ?_ | refine P8 rfl rfl ?_)
 try refine i6 ?_
 refine j3 rfl ?_ ?_ <;> intro h0
 ·have ha0 : a = 0:=hz.1 (by omega)
  repeat (first | refine a7 ?_ | refine b8 ?_ | refine c7 (by conv=>(lhs; whnf)) ?_ | refine b9 ?_ | refine d6 ?_ | refine wp_ret ?_ | refine p8 ?_)
  refine m9 rfl (by conv=>(lhs; whnf)) ⟨?_,.refl⟩
  rw [ha0,Lib.nDigits_small (by decide)]
  rfl
 ·obtain ⟨t1,t2,t3⟩:=bb2 (a:=a) (by omega)
  repeat (first | refine aj8 rfl rfl (by omega) (by omega) ?_ | refine r8 (i:=(dg a).length - 1) (by conv=>(lhs; whnf)) (by conv=>(lhs; whnf)) (by omega) ha (by omega) ?_ | refine p7 rfl ha (by omega) ?_ | refine a7 ?_ | refine d8 ?_ | refine b8 ?_ | refine d7 (by conv=>(lhs; whnf)) ?_ | refine c7 (by conv=>(lhs; whnf)) ?_ | refine b9 ?_ | refine d6 ?_ | refine wp_skip ?_ | refine r9 (by conv=>(lhs; whnf)) (by assumption) ?_ | refine A1 rfl rfl (by omega) (by omega) ?_)
  generalize (dg a).getD ((dg a).length - 1) 0 = t at *
  try refine m6 ?_
  refine C3 [(3,4),(18,23)] (fun v ρ w'=>w' = w ∧ ∃ m : Nat,ρ 4 = .int .i64 (v : Int) ∧ ρ 3 = .int .i64 (m : Int) ∧ v ≤ t ∧ m + (if v = 0 then 0 else Lib.nDigits v) = Lib.nDigits a ∧ m ≤ Lib.nDigits a) t ?_ ?_
  ·exact ⟨rfl,9 * ((dg a).length - 1),rfl,congrArg (Value.int .i64) (by omega),Nat.le_refl _,by rw [if_neg (by omega)]; omega,by omega⟩
  rintro v u w1 ⟨rfl,m,h4,h3,hvt,hm,hma⟩
  refine j5 4 h4 (j5 3 h3 ?_)
  clear h4 h3
  have hmax : Lib.nDigits a ≤ 9 * ((dg a).length - 1) + 9:=by have:=W7 t3; omega
  repeat (first | refine a7 ?_ | refine d8 ?_ | refine b8 ?_ | refine d7 (by conv=>(lhs; whnf)) ?_ | refine b9 ?_ | refine d6 ?_ | refine N3 rfl rfl ?_)
  try refine i6 ?_
  refine j3 rfl ?_ ?_ <;> intro hc
  ·have hv0 : 0 < v:=by omega
   rw [if_neg (by omega)] at hm
   have hpos:=Lib.nDigits_pos v
   repeat (first | refine R2 ?_ | refine b8 ?_ | refine d7 (by conv=>(lhs; whnf)) ?_ | refine c7 (by conv=>(lhs; whnf)) ?_ | refine b9 ?_ | refine d6 ?_ | refine F9 ?_ | refine wp_skip ?_ | refine A9 rfl rfl (by omega) (by omega) ?_ | refine X2 rfl rfl (by omega) (by omega) (by omega) ?_)
   refine ⟨by (repeat (first | refine j0 rfl ?_ | exact f3 | refine j1 rfl ?_ | exact d9 | refine l7 rfl ?_ | refine j8 rfl ?_)),v / 10,by omega,rfl,m + 1,by rfl,congrArg (Value.int .i64) (by omega),by omega,?_,by omega⟩
   by_cases h10 : v < 10
   ·rw [if_pos (by omega)]
    rw [Lib.nDigits_small h10] at hm
    omega
   ·rw [if_neg (by omega)]
    rw [Lib.nDigits_big h10] at hm
    omega
  ·obtain rfl : v = 0:=by omega
   rw [if_pos rfl] at hm
   repeat (first | refine a7 ?_ | refine b8 ?_ | refine d7 (by conv=>(lhs; whnf)) ?_ | refine c7 (by conv=>(lhs; whnf)) ?_ | refine b9 ?_ | refine d6 ?_ | refine wp_ret ?_ | refine wp_exit ?_)
   refine m9 rfl (by conv=>(lhs; whnf)) ⟨congrArg (Value.int .i64) (by omega),.refl⟩
end Go.Proofs.YtpheooheinfbgaaGreatDoor
end
section
set_option linter.unusedVariables false
set_option linter.unusedSimpArgs false
namespace Go.Proofs.YtpheooheinfbgaaGreatDoor
open Go Go.RowKit
section rules
variable {P : Program} {n : Nat} {Q : Post} {ρ : Fr} {w : World} {all rest : List Oper} {d : Tmp} {ty : TypeId} {pos : String} {aft : Array Edge}
theorem V1 (l : List UInt8) : (⟨l.toArray⟩ : ByteArray).size = l.length:=by show l.toArray.size = _; simp
theorem b78 (l : List UInt8) (i : Nat) : (⟨l.toArray⟩ : ByteArray)[i]? = l[i]?:=by
 by_cases h : i < l.length
 ·have h2 : i < (⟨l.toArray⟩ : ByteArray).size:=by rw [V1]; exact h
  rw [getElem?_pos _ i h2,List.getElem?_eq_getElem h]
  rfl
 ·rw [getElem?_neg _ i (by rw [V1]; exact h),List.getElem?_eq_none (by omega)]
theorem am0 (l : List UInt8) (a b : Nat) (hb : b ≤ l.length) : (⟨l.toArray⟩ : ByteArray).extract a b = ⟨((l.take b).drop a).toArray⟩:=by
 apply ByteArray.ext
 rw [ByteArray.data_extract]
 simp [List.drop_take]
theorem a59 {t : TypeId} [st : StrT P t] {x ix : Operand} {l : List UInt8} {k : IntKind} {I : Int} {c : UInt8} (i : Nat) (hx : ev ρ x = strV l) (hi : ev ρ ix = .int k I) (hI : I = (i : Int)) (hc : l[i]? = some c)
  (h : WpR P n all Q rest (upd ρ d (.int .u8 (c.toNat : Nat))) w) : WpR P n all Q (⟨some d,.index t x ix,ty,pos,aft,none⟩ :: rest) ρ w:=by
 subst hI
 refine C2 rfl rfl ?_ h
 have h1 : (⟨l.toArray⟩ : ByteArray)[i]? = some c:=by rw [b78]; exact hc
 simp [execOp,hx,hi,Instr.index,asIntOf,run_underlying st.und,h1]
theorem ae3 {t : TypeId} [st : StrT P t] {x lo : Operand} {l : List UInt8} {k : IntKind} {I : Int} (i : Nat) (hx : ev ρ x = strV l) (hi : ev ρ lo = .int k I) (hI : I = (i : Int)) (hl : i ≤ l.length)
  (h : WpR P n all Q rest (upd ρ d (strV (l.drop i))) w) : WpR P n all Q (⟨some d,.slice t x (some lo) none none,ty,pos,aft,none⟩ :: rest) ρ w:=by
 subst hI
 refine C2 rfl rfl ?_ h
 have h1:=V1 l
 have h2:=am0 l i l.length (Nat.le_refl _)
 rw [List.take_of_length_le (Nat.le_refl _)] at h2
 simp [execOp,hx,hi,Instr.sliceAt,Instr.slice,Instr.sliceBounds,Instr.sliceBound,asIntOf,run_underlying st.und,h1,hl,h2]
theorem ac5 {t : TypeId} [st : StrT P t] {x hi : Operand} {l : List UInt8} {k : IntKind} {I : Int} (i : Nat) (hx : ev ρ x = strV l) (hi' : ev ρ hi = .int k I) (hI : I = (i : Int)) (hl : i ≤ l.length)
  (h : WpR P n all Q rest (upd ρ d (strV (l.take i))) w) : WpR P n all Q (⟨some d,.slice t x none (some hi) none,ty,pos,aft,none⟩ :: rest) ρ w:=by
 subst hI
 refine C2 rfl rfl ?_ h
 have h1:=V1 l
 have h2:=am0 l 0 i hl
 rw [List.drop_zero] at h2
 simp [execOp,hx,hi',Instr.sliceAt,Instr.slice,Instr.sliceBounds,Instr.sliceBound,asIntOf,run_underlying st.und,h1,hl,h2]
end rules
end Go.Proofs.YtpheooheinfbgaaGreatDoor
end
section
set_option linter.unusedVariables false
set_option linter.unusedSimpArgs false
namespace Go.Proofs.YtpheooheinfbgaaGreatDoor
open Go Go.RowKit
theorem au1 {base : Nat} {T : TypeId} {w : World} {v : Value} {m : Nat} {xs : List Value} (h : Own base T 1 w v m xs) (hm : 0 < m) :
  ∃ g cap cs,v = .slice (some ⟨g,0,none⟩) m cap ∧ base ≤ g ∧ Blk w g T cs ∧ cs.take m = xs ∧ m ≤ cs.length ∧ m ≤ cap ∧ cap ≤ maxLen ∧ cap = cs.length:=by
 rcases h.2 with ⟨h1,h2⟩ | ⟨g,cap,cur,rfl,hb,hg,h1,h2,h3,h4⟩
 ·omega
 ·refine ⟨g,cap,cur.toList,rfl,hb,?_,by simpa using h4,?_,h1,h2,?_⟩
  ·unfold Blk
   rw [hg]
  ·simp at h3 ⊢; omega
  ·simp at h3 ⊢; omega
section rules
variable {P : Program} {n : Nat} {Q : Post} {ρ : Fr} {w : World} {all rest : List Oper} {d : Tmp} {ty : TypeId} {pos : String} {aft : Array Edge}
theorem a57 {t T : TypeId} [st : SlT P t T] {b : Nat} {z : Value} {agg : Bool} [ti : TyI P T 1 b z agg] {x hi : Operand} {base : Nat} {v : Value} {m : Nat} {xs : List Value} {k : Nat} {i : Int}
  (hv : ev ρ x = v) (ho : Own base T 1 w v m xs) (hh : ev ρ hi = .int .i64 i) (hik : i = (k : Int)) (hk : k ≤ m) (hm : 0 < m)
  (h : ∀ v',Own base T 1 w v' k (xs.take k) → WpR P n all Q rest (upd ρ d v') w) : WpR P n all Q (⟨some d,.slice t x none (some hi) none,ty,pos,aft,none⟩ :: rest) ρ w:=by
 subst hik
 obtain ⟨g,cap,cs,rfl,hb,hg,h1,h2,h3,h4,h5⟩:=au1 ho hm
 refine C2 (v:=.slice (some ⟨g,0,none⟩) k cap) rfl rfl ?_ (h _ ⟨by rw [← h1]; simp; omega,.inr ⟨g,cap,cs.toArray,rfl,hb,hg,by omega,h4,by simp; omega,?_⟩⟩)
 ·have hk2 : k ≤ cap:=by omega
  simp [execOp,hv,hh,Instr.sliceAt,Instr.slice,run_underlying st.und,Instr.sliceBounds,Instr.sliceBound,asIntOf,hk2,ti.runSize w,Addr.add,show ¬ cap = 0 by omega]
 ·rw [← h1,List.take_take]
  simp
  omega
end rules
theorem b49 {m v j : Nat} (h : j ≤ m) : (low m v).take j = low j v:=by
 obtain ⟨k,rfl⟩ : ∃ k,m = j + k:=⟨m - j,by omega⟩
 rw [X8,List.take_left' (R7 j v)]
abbrev byt (l : List UInt8) : List Value:=Lib.byteCells l
theorem as3 (a b : List UInt8) : byt (a ++ b) = byt a ++ byt b:=by simp [Lib.byteCells]
theorem bd7 (a : List UInt8) : (byt a).length = a.length:=by simp [Lib.byteCells]
theorem bu4 (a : List UInt8) (k : Nat) : (byt a).take k = byt (a.take k):=by simp [Lib.byteCells,List.map_take]
theorem av7 {x : Nat} (h : x < 10) : Value.int .u8 (48 + (x : Int)) = .int .u8 ((UInt8.ofNat (48 + x)).toNat : Int):=by
 congr 1
 rw [UInt8.toNat_ofNat']
 omega
theorem by9 (z : Int) : (Lib.itoa z).reverse = low (Lib.nDigits z.natAbs) z.natAbs ++ (if z < 0 then [45] else []):=by
 unfold Lib.itoa
 split
 ·rw [← an5]; simp
 ·rw [← an5,show z.natAbs = z.toNat by omega]; simp
set_option maxHeartbeats 2000000 in
theorem be4 {S : Nat → Prop} {w : World} {v : Value} {z : Int} (h : ZV S w v z) (hl : zl z ≤ 1099511627000) :
  Gives Tryz.prog 81 [v] w fun v' w'=>v' = strV (Lib.itoa z) ∧ Ext w w':=by
 obtain ⟨m,rfl,hm⟩:=h
 obtain ⟨n,hn⟩ : ∃ n,n = z.natAbs:=⟨_,rfl⟩
 rw [← hn] at hm
 have hln : (dg n).length ≤ 1099511627000:=by rw [hn]; exact hl
 have hdl : (dg n).length = dl n:=rfl
 refine j7 Tryz.func81 rfl rfl rfl ?_
 repeat (first | refine a7 ?_ | refine b8 ?_)
 refine x9 (cs:=[.bool (tst (z < 0)),m]) (by conv=>(lhs; whnf)) rfl ?_
 intro w1 g k1 hg hgs
 have hm1:=hm.to k1
 have hgl:=hg.lt
 clear hm
 repeat (first | refine f5 rfl hg rfl ?_ | refine a7 ?_ | refine d8 ?_ | refine b8 ?_ | refine c7 (by conv=>(lhs; whnf)) ?_ | refine b9 ?_ | refine d6 ?_ | refine r9 (by conv=>(lhs; whnf)) (by assumption) ?_ | refine P8 rfl rfl ?_ | refine j4 rfl ?_)
 try refine i6 ?_
 refine j3 rfl ?_ ?_ <;> intro hc
 ·repeat (first | refine a7 ?_ | refine b8 ?_ | refine c7 (by conv=>(lhs; whnf)) ?_ | refine b9 ?_ | refine d6 ?_ | refine wp_ret ?_ | refine p8 ?_)
  refine m9 rfl (by conv=>(lhs; whnf)) ⟨?_,k1⟩
  have h0 : n = 0:=E3.1 (by omega)
  have hz : z = 0:=by omega
  subst hz
  unfold Lib.itoa
  rw [if_neg (by decide),show (0 : Int).toNat = 0 from rfl,Lib.decDigits_one (by decide)]
  rfl
 ·have hn0 : 0 < n:=Nat.pos_of_ne_zero fun e=>hc (by have:=E3.2 e; omega)
  have hD:=ad6 hn0
  repeat (first | refine a7 ?_ | refine d8 ?_ | refine b8 ?_ | refine c7 (by conv=>(lhs; whnf)) ?_ | refine b9 ?_ | refine d6 ?_ | refine wp_skip ?_)
  try refine m6 ?_
  refine C3 [(3,6),(14,38)] (fun k ρ w'=>∃ (i : Nat) (v : Value),k + i = (dg n).length ∧ ρ 4 = .int .i64 (i : Int) ∧ ρ 3 = v ∧ Own w1.heap.size 5 1 w' v (9 * i) (byt (low (9 * i) n)) ∧ Ext w1 w') (dg n).length
   ⟨0,_,by omega,rfl,rfl,W2,.refl⟩ ?_
  ·rintro k u w2 ⟨i,v,hki,h4,h3,ho,k2⟩
   refine j5 4 h4 (j5 3 h3 ?_)
   clear h4 h3
   have hg2:=hg.to k2
   have hm2:=hm1.to k2
   have hdd:=F0 n i
   repeat (first | refine f5 rfl hg2 rfl ?_ | refine a7 ?_ | refine d8 ?_ | refine b8 ?_ | refine d7 (by conv=>(lhs; whnf)) ?_ | refine b9 ?_ | refine d6 ?_ | refine r9 (by conv=>(lhs; whnf)) (by assumption) ?_ | refine G3 rfl rfl ?_ | refine j4 rfl ?_)
   try refine i6 ?_
   refine j3 rfl ?_ ?_ <;> intro hlt
   ·repeat (first | refine f5 rfl hg2 rfl ?_ | refine r8 (i:=i) (by conv=>(lhs; whnf)) rfl rfl hm2 (by omega) ?_ | refine p7 rfl hm2 (by omega) ?_ | refine a7 ?_ | refine r7 ?_ | refine b8 ?_ | refine d7 (by conv=>(lhs; whnf)) ?_ | refine c7 (by conv=>(lhs; whnf)) ?_ | refine b9 ?_ | refine d6 ?_ | refine o6 ?_ | refine wp_skip ?_ | refine j4 rfl ?_)
    obtain ⟨d,hd⟩ : ∃ d,d = (dg n).getD i 0:=⟨_,rfl⟩
    rw [← hd] at hdd ⊢
    try refine m6 ?_
    refine C3 [(3,3),(5,6),(26,38)] (fun k ρ w'=>∃ (j : Nat) (v : Value),k + j = 9 ∧ ρ 6 = .int .i64 (j : Int) ∧ ρ 5 = .int .i64 ((d / 10 ^ j : Nat) : Int) ∧ ρ 3 = v ∧ Own w1.heap.size 5 1 w' v (9 * i + j) (byt (low (9 * i) n ++ low j d)) ∧ Ext w1 w') 9
     ⟨0,v,by omega,rfl,by simp; rfl,rfl,by simpa [low] using ho,k2⟩ ?_
    rintro k' u2 w3 ⟨j,v3,hkj,h6,h5,h3,ho3,k3⟩
    refine j5 6 h6 (j5 5 h5 (j5 3 h3 ?_))
    clear h6 h5 h3
    have hdj : d / 10 ^ j ≤ d:=Nat.div_le_self ..
    have hdj2 : d / 10 ^ j / 10 = d / 10 ^ (j + 1):=by rw [Nat.div_div_eq_div_mul,Nat.pow_succ]
    have hls:=bw2 j d
    obtain ⟨y,hy⟩ : ∃ y,y = d / 10 ^ j:=⟨_,rfl⟩
    rw [← hy] at hdj hdj2 hls ⊢
    repeat (first | refine a7 ?_ | refine d8 ?_ | refine b8 ?_ | refine d7 (by conv=>(lhs; whnf)) ?_ | refine b9 ?_ | refine d6 ?_ | refine G3 rfl rfl ?_)
    try refine i6 ?_
    refine j3 rfl ?_ ?_ <;> intro hj9
    ·repeat (first | refine a7 ?_ | refine r7 ?_ | refine b8 ?_ | refine d7 (by conv=>(lhs; whnf)) ?_ | refine o6 ?_ | refine wp_skip ?_ | refine A9 rfl rfl (by omega) (by omega) ?_ | refine aa1 rfl rfl (by omega) (by omega) ?_)
     refine J6 rfl (ca8 (by omega) (by omega)) ?_
     have hb : Value.int .u8 (48 + (y : Int) % 10) = .int .u8 ((UInt8.ofNat (48 + y % 10)).toNat : Int):=av7 (x:=y % 10) (by omega)
     refine Q1 rfl rfl ?_
     intro w4 g4 k4 hg4 hgs4
     rw [hb] at hg4
     refine K8 (by conv=>(lhs; whnf)) (Q0 ho3 k4) rfl hg4 (by omega) rfl (fun u hu=>by rw [List.mem_singleton.1 hu]; rfl) (by unfold maxLen; omega) (by omega) (by have:=k3.size; have:=k4.size; omega) ?_
     intro v5 w5 ho5 k5
     repeat (first | refine b8 ?_ | refine d7 (by conv=>(lhs; whnf)) ?_ | refine c7 (by conv=>(lhs; whnf)) ?_ | refine b9 ?_ | refine d6 ?_ | refine A9 rfl rfl (by omega) (by omega) ?_ | refine X2 rfl rfl (by omega) (by omega) (by omega) ?_)
     refine ⟨by (repeat (first | refine j0 rfl ?_ | exact f3 | refine j1 rfl ?_ | exact d9 | refine l7 rfl ?_ | refine j8 rfl ?_)),8 - j,by omega,j + 1,v5,by omega,rfl,?_,rfl,?_,?_⟩
     ·rw [← hdj2]; exact congrArg (Value.int .i64) (by omega)
     ·rw [hls,← List.append_assoc,as3]
      exact ho5
     ·exact Keeps.later (k3.trans k4) k5 fun i hi _ e=>by have:=(ho3.lt i e.symm).1; omega
    ·have hj : j = 9:=by omega
     subst hj
     repeat (first | refine b8 ?_ | refine d7 (by conv=>(lhs; whnf)) ?_ | refine c7 (by conv=>(lhs; whnf)) ?_ | refine b9 ?_ | refine d6 ?_ | refine wp_exit ?_ | refine A9 rfl rfl (by omega) (by omega) ?_)
     refine ⟨by (repeat (first | refine j0 rfl ?_ | exact f3 | refine j1 rfl ?_ | exact d9 | refine l7 rfl ?_ | refine j8 rfl ?_)),k - 1,by omega,i + 1,v3,by omega,rfl,rfl,?_,k3⟩
     rw [bt1,← hd]
     exact ho3
   ·have hi : i = (dg n).length:=by omega
    subst hi
    rw [hdl] at ho
    repeat (first | refine d6 ?_ | refine wp_exit ?_ | refine K9 ?_ | refine H5 rfl ?_)
    try refine m6 ?_
    refine C3 ((3,3) :: [(3,3),(39,50)]) (fun k ρ w'=>w' = w2 ∧ ∃ (v : Value),ρ 3 = v ∧ Lib.nDigits n ≤ k ∧ k ≤ 9 * dl n ∧ Own w1.heap.size 5 1 w2 v k (byt (low k n))) (9 * dl n)
     ⟨rfl,v,rfl,hD,Nat.le_refl _,ho⟩ ?_
    rintro M u3 w3 ⟨rfl,v3,h3,hMl,hMh,ho3⟩
    refine j5 3 h3 ?_
    clear h3 ho
    have hDp:=Lib.nDigits_pos n
    have hr3 : Row All 5 1 w3 v3 M (byt (low M n)):=Row.of_own ho3 Up.all
    have hget : (byt (low M n))[M - 1]? = some (.int .u8 (48 + ((n / 10 ^ (M - 1) % 10 : Nat) : Int))):=by
     rw [av7 (by omega)]
     unfold byt Lib.byteCells
     rw [List.getElem?_map,bl3 (by omega)]
     rfl
    repeat (first | refine r9 (by conv=>(lhs; whnf)) hr3 ?_ | refine r8 (i:=M - 1) (by conv=>(lhs; whnf)) rfl (by omega) hr3 (by omega) ?_ | refine a7 ?_ | refine d8 ?_ | refine b8 ?_ | refine d7 (by conv=>(lhs; whnf)) ?_ | refine A1 rfl rfl (by omega) (by omega) ?_)
    refine ao8 rfl hr3 hget ?_
    repeat (first | refine b9 ?_ | refine d6 ?_ | refine P8 rfl rfl ?_)
    try refine i6 ?_
    refine j3 rfl ?_ ?_ <;> intro hz
    ·have hMD : Lib.nDigits n ≤ M - 1:=by
      rcases Nat.lt_or_ge (Lib.nDigits n) M with h | h
      ·omega
      ·exfalso
       have:=as9 hn0
       rw [show Lib.nDigits n - 1 = M - 1 by omega] at this
       omega
     repeat (first | refine r9 (by conv=>(lhs; whnf)) hr3 ?_ | refine b8 ?_ | refine d7 (by conv=>(lhs; whnf)) ?_ | refine d6 ?_ | refine F9 ?_ | refine wp_skip ?_ | refine A1 rfl rfl (by omega) (by omega) ?_)
     refine a57 (k:=M - 1) (by conv=>(lhs; whnf)) ho3 rfl (by omega) (by omega) (by omega) ?_
     intro v4 ho4
     rw [bu4,b49 (by omega)] at ho4
     repeat (first | refine c7 (by conv=>(lhs; whnf)) ?_ | refine b9 ?_ | refine d6 ?_ | refine Q6 ?_)
     exact ⟨by (repeat (first | refine j0 rfl ?_ | exact f3 | refine j1 rfl ?_ | exact d9 | refine l7 rfl ?_ | refine j8 rfl ?_)),M - 1,by omega,rfl,v4,rfl,hMD,by omega,ho4⟩
    ·have hMD : M = Lib.nDigits n:=by
      rcases Nat.lt_or_ge (Lib.nDigits n) M with h | h
      ·exact absurd (by have:=a97 (n:=n) (k:=M - 1) (by omega); omega) hz
      ·omega
     subst hMD
     have hg3:=hg.to k2
     have hrev:=by9 z
     rw [← hn] at hrev
     repeat (first | refine f5 rfl hg3 rfl ?_ | refine a7 ?_ | refine d8 ?_ | refine b8 ?_ | refine b9 ?_ | refine d6 ?_ | refine wp_exit ?_ | refine j4 rfl ?_)
     first | refine i6 ?_ | refine C4 ?_ | refine B6 ?_ | skip
     refine H3 [(3,3),(53,55)] (fun ρ w'=>∃ v,ρ 3 = v ∧ Own w1.heap.size 5 1 w' v (Lib.itoa z).length (byt (Lib.itoa z).reverse) ∧ Ext w1 w') rfl ?_ ?_ ?_
     ·intro hneg
      rw [if_pos hneg] at hrev
      have hlen : (Lib.itoa z).length = Lib.nDigits n + 1:=by
       have:=congrArg List.length hrev
       simpa [R7] using this
      rw [hrev,hlen,as3]
      repeat (first | refine b8 ?_ | refine d7 (by conv=>(lhs; whnf)) ?_)
      refine Q1 rfl rfl ?_
      intro w4 g4 k4 hg4 hgs4
      refine K8 (by conv=>(lhs; whnf)) (Q0 ho3 k4) rfl hg4 (by omega) rfl (fun u hu=>by rw [List.mem_singleton.1 hu]; rfl) (by unfold maxLen; omega) (by omega) (by have:=k2.size; have:=k4.size; omega) ?_
      intro v5 w5 ho5 k5
      repeat (first | refine c7 (by conv=>(lhs; whnf)) ?_ | refine b9 ?_ | refine d6 ?_)
      refine ⟨by (repeat (first | refine j0 rfl ?_ | exact f3 | refine j1 rfl ?_ | exact d9 | refine l7 rfl ?_ | refine j8 rfl ?_)),v5,rfl,ho5,?_⟩
      exact Keeps.later (k2.trans k4) k5 fun i hi _ e=>by have:=(ho3.lt i e.symm).1; omega
     ·intro hneg
      rw [if_neg hneg,List.append_nil] at hrev
      have hlen : (Lib.itoa z).length = Lib.nDigits n:=by
       have:=congrArg List.length hrev
       simpa [R7] using this
      rw [hrev,hlen]
      repeat (first | refine d6 ?_ | refine wp_skip ?_)
      exact ⟨by (repeat (first | refine j0 rfl ?_ | exact f3 | refine j1 rfl ?_ | exact d9 | refine l7 rfl ?_ | refine j8 rfl ?_)),v3,rfl,ho3,k2⟩
     rintro u4 w4 ⟨v4,h4,ho4,k4⟩
     refine j5 3 h4 ?_
     clear h4 ho3 hr3 hget
     obtain ⟨X,hX⟩ : ∃ X,X = Lib.itoa z:=⟨_,rfl⟩
     rw [← hX] at ho4 ⊢
     have hX0 : 0 < X.length:=by
      have:=congrArg List.length hrev
      rw [← hX] at this
      simp [R7] at this
      omega
     have hXb : X.length ≤ 9 * dl n + 1:=by
      have:=congrArg List.length hrev
      rw [← hX] at this
      simp [R7] at this
      split at this <;> simp at this <;> omega
     obtain ⟨gb,cap,cs,rfl,hgb,hb4,htk,hcl,hcap,hmx,hce⟩:=au1 ho4 hX0
     have hc0 : ∀ p,p < X.length → cs[p]? = (byt X)[X.length - 1 - p]?:=by
      intro p hp
      have h1 : cs[p]? = (cs.take X.length)[p]?:=by rw [List.getElem?_take,if_pos hp]
      rw [h1,htk]
      unfold byt Lib.byteCells
      rw [List.getElem?_map,List.getElem?_map,List.getElem?_reverse hp]
     repeat (first | refine a7 ?_ | refine d8 ?_ | refine b8 ?_ | refine d7 (by conv=>(lhs; whnf)) ?_ | refine c7 (by conv=>(lhs; whnf)) ?_ | refine b9 ?_ | refine d6 ?_ | refine bs5 rfl ?_ | refine A1 rfl rfl (by omega) (by omega) ?_)
     try refine m6 ?_
     refine C3 [(7,9),(59,80)] (fun k ρ w'=>∃ (i : Nat) (cs' : List Value),k + i = X.length ∧ ρ 7 = .int .i64 (i : Int) ∧ ρ 8 = .int .i64 ((X.length : Int) - 1 - i) ∧ 2 * i ≤ X.length + 1 ∧ cs'.length = cs.length ∧
       (∀ p,p < X.length → cs'[p]? = if p < i ∨ X.length ≤ p + i then (byt X)[p]? else (byt X)[X.length - 1 - p]?) ∧ Blk w' gb 5 cs' ∧ Keeps (fun k=>k ≠ gb) w4 w') X.length
      ⟨0,cs,by omega,rfl,congrArg (Value.int .i64) (by omega),by omega,rfl,fun p hp=>by rw [if_neg (by omega)]; exact hc0 p hp,hb4,.refl⟩ ?_
     rintro k5 u5 w5 ⟨i,cs',hki5,h7,h8,hii,hcl',hcs',hb5,k5b⟩
     refine j5 7 h7 (j5 8 h8 ?_)
     clear h7 h8 hb4
     repeat (first | refine a7 ?_ | refine d8 ?_ | refine b8 ?_ | refine d7 (by conv=>(lhs; whnf)) ?_ | refine b9 ?_ | refine d6 ?_ | refine G3 rfl rfl ?_)
     try refine i6 ?_
     refine j3 rfl ?_ ?_ <;> intro hij
     ·obtain ⟨j,hj⟩ : ∃ j,j + i + 1 = X.length:=⟨X.length - 1 - i,by omega⟩
      have hxl : (byt X).length = X.length:=bd7 X
      have hei : cs'[i]? = some ((byt X)[j]'(by omega)):=by
       rw [hcs' i (by omega),if_neg (by omega),show X.length - 1 - i = j by omega,List.getElem?_eq_getElem]
      have hej : cs'[j]? = some ((byt X)[i]'(by omega)):=by
       rw [hcs' j (by omega),if_neg (by omega),show X.length - 1 - j = i by omega,List.getElem?_eq_getElem]
      have one : ∀ q (hq : q < (byt X).length),((byt X)[q]).oneCell' = true:=by
       intro q hq
       simp [Lib.byteCells,Value.oneCell']
      repeat (first | refine D7 (i:=i) rfl rfl rfl (by omega) ?_ | refine a7 ?_ | refine r7 ?_ | refine b8 ?_ | refine d7 (by conv=>(lhs; whnf)) ?_ | refine o6 ?_ | refine wp_skip ?_)
      refine f5 rfl hb5 hei ?_
      repeat (first | refine D7 (i:=i) rfl rfl rfl (by omega) ?_ | refine D7 (i:=j) rfl rfl (by omega) (by omega) ?_ | refine f5 rfl hb5 hej ?_ | refine a7 ?_ | refine b8 ?_ | refine d7 (by conv=>(lhs; whnf)) ?_ | refine c7 (by conv=>(lhs; whnf)) ?_ | refine b9 ?_)
      refine G4 rfl rfl hb5 (by omega) (one _ _) ?_
      intro w6 k6 hb6
      repeat (first | refine D7 (i:=j) rfl rfl (by omega) (by omega) ?_ | refine b8 ?_ | refine d7 (by conv=>(lhs; whnf)) ?_ | refine b9 ?_)
      refine G4 rfl rfl hb6 (by simp; omega) (one _ _) ?_
      intro w7 k7 hb7
      repeat (first | refine b8 ?_ | refine d7 (by conv=>(lhs; whnf)) ?_ | refine c7 (by conv=>(lhs; whnf)) ?_ | refine b9 ?_ | refine d6 ?_ | refine A9 rfl rfl (by omega) (by omega) ?_ | refine A1 rfl rfl (by omega) (by omega) ?_)
      refine ⟨by (repeat (first | refine j0 rfl ?_ | exact f3 | refine j1 rfl ?_ | exact d9 | refine l7 rfl ?_ | refine j8 rfl ?_)),k5 - 1,by omega,i + 1,_,by omega,rfl,congrArg (Value.int .i64) (by omega),by omega,by simpa using hcl',fun p hp=>?_,hb7,(k5b.trans k6).trans k7⟩
      by_cases e1 : p = j
      ·subst e1
       rw [List.getElem?_set_self (by simp; omega),if_pos (by omega)]
       exact (List.getElem?_eq_getElem (by omega)).symm
      ·rw [List.getElem?_set_ne (by omega)]
       by_cases e2 : p = i
       ·subst e2
        rw [List.getElem?_set_self (by omega),if_pos (by omega)]
        exact (List.getElem?_eq_getElem (by omega)).symm
       ·rw [List.getElem?_set_ne (by omega),hcs' p hp]
        by_cases e3 : p < i ∨ X.length ≤ p + i
        ·rw [if_pos e3,if_pos (by omega)]
        ·rw [if_neg e3,if_neg (by omega)]
     ·repeat (first | refine a7 ?_ | refine b8 ?_ | refine d7 (by conv=>(lhs; whnf)) ?_ | refine wp_exit ?_)
      refine ax1 (v:=strV X) (by conv=>(lhs; whnf)) (run_convert_bytes_back _ _ _ 5 _ _ X (inferInstance : SlT Tryz.prog _ 5).und (inferInstance : IntT Tryz.prog 5 _).und (inferInstance : StrT Tryz.prog _).und ?_) ?_
      ·intro p hp
       have h9:=hcs' p hp
       have h10 : cs'[p]? = (byt X)[p]?:=by
        rw [h9]
        split
        ·rfl
        ·congr 1; omega
       have ha : (⟨gb,0,none⟩ : Addr).add p = ⟨gb,p,none⟩:=by
        unfold Addr.add
        split <;> simp_all
       rw [ha]
       refine hb5.cell ?_
       rw [h10]
       unfold byt Lib.byteCells
       rw [List.getElem?_map,List.getElem?_eq_getElem hp]
       rfl
      ·repeat (first | refine c7 (by conv=>(lhs; whnf)) ?_ | refine b9 ?_ | refine d6 ?_ | refine wp_ret ?_)
       refine m9 rfl (by conv=>(lhs; whnf)) ⟨rfl,?_⟩
       exact k1.trans (Keeps.later k4 k5b fun i hi _=>by omega)
end Go.Proofs.YtpheooheinfbgaaGreatDoor
end
section
set_option linter.unusedVariables false
set_option linter.unusedSimpArgs false
namespace Go.Proofs.YtpheooheinfbgaaGreatDoor
open Go Go.RowKit
theorem ap9 (n : Nat) : Lib.itoa (n : Int) = Lib.decDigits n:=by
 unfold Lib.itoa
 rw [if_neg (by omega),show ((n : Int)).toNat = n from rfl]
theorem b90 {S : Nat → Prop} {w : World} {v : Value} {q : Rat} (hS : Up S w) (h : QV S w v q) (hl : rl q 400000000000) :
  Gives Tryz.prog 48 [v] w fun v' w'=>v' = strV (rstr q) ∧ Ext w w':=by
 obtain ⟨m,b,rfl,hm,hb⟩:=h
 obtain ⟨hl1,hl2⟩:=hl
 have hz : zl (q.den : Int) ≤ 400000000000:=by unfold zl; rw [Int.natAbs_natCast]; exact hl2
 have hn1:=E9 _ hl1
 have hn2:=E9 _ hl2
 have hi:=aa4 q.num
 refine j7 Tryz.func48 rfl rfl rfl ?_
 repeat (first | refine a7 ?_ | refine b8 ?_)
 refine x9 (cs:=[.bool (tst (q.num < 0)),m,.bool (tst ((q.den : Int) < 0)),b]) (by conv=>(lhs; whnf)) rfl ?_
 intro w1 g k1 hg hgs
 replace hm:=hm.to k1
 replace hb:=hb.to k1
 replace hS:=hS.to k1
 repeat (first | refine a7 ?_ | refine d8 ?_ | refine c7 (by conv=>(lhs; whnf)) ?_ | refine b9 ?_)
 refine s7 4 (by kernel_rfl) (by kernel_rfl) ?_
 apply c8
 ·intro x w1 k1 hd
  refine j4 rfl ?_
  refine b9 ?_
  exact j2
 apply c8
 ·intro x w1 k1 hd
  refine o7 rfl (hg.to k1) rfl rfl ?_
  refine b9 ?_
  exact j2
 refine c8 (e:=zE S 1) ?_ ?_
 ·intro x w1 k1 hd
  refine i7 (bv6 (z:=1) (hS.to k1) (by decide) (by decide)) rfl ?_
  rintro v2 w2 ⟨k2,h2⟩
  exact b9 (s8 k2 h2)
 refine c8 (e:=Ent.eq (.int .i64 ((q.den : Int) - 1).sign)) ?_ ?_
 ·intro x w1 k1 hd
  refine i7 (ck4 (a:=(q.den : Int)) (b:=1) (hS.to k1) ⟨b,rfl,hb.to k1⟩ hd.1 (by omega) (Nat.le_trans (F8 (k:=1) (by decide)) (by decide))) rfl ?_
  rintro v2 w2 ⟨rfl,k2⟩
  exact b9 (ag7 k2)
 refine C5 (D6 ?_)
 intro x w2 k2 _
 replace hm:=hm.to k2
 replace hb:=hb.to k2
 replace hg:=hg.to k2
 have k:=k1.trans k2
 have hd1 : q.den = 1 ↔ ((q.den : Int) - 1).sign = 0:=by rw [Int.sign_eq_zero_iff_zero]; omega
 clear k1 k2
 repeat (first | refine b9 ?_ | refine d6 ?_ | refine P8 rfl rfl ?_)
 try refine i6 ?_
 refine j3 rfl ?_ ?_ <;> intro hc
 ·repeat (first | refine o7 rfl hg rfl rfl ?_ | refine a7 ?_ | refine b8 ?_ | refine j4 rfl ?_)
  refine i7 (be4 (z:=q.num) ⟨m,rfl,hm⟩ (by unfold zl; omega)) rfl ?_
  rintro v3 w3 ⟨rfl,k3⟩
  repeat (first | refine c7 (by conv=>(lhs; whnf)) ?_ | refine b9 ?_ | refine d6 ?_ | refine wp_ret ?_ | refine p8 ?_)
  refine m9 rfl (by conv=>(lhs; whnf)) ⟨?_,k.trans k3⟩
  unfold rstr
  rw [if_pos (hd1.2 hc),List.append_nil]
 ·repeat (first | refine a7 ?_ | refine wp_skip ?_)
  refine s7 8 (by kernel_rfl) (by kernel_rfl) ?_
  apply c8
  ·intro x w1 k1 hd
   refine j4 rfl ?_
   refine b9 ?_
   exact j2
  apply c8
  ·intro x w1 k1 hd
   refine o7 rfl (hg.to k1) rfl rfl ?_
   refine b9 ?_
   exact j2
  refine c8 (e:=Ent.eq (strV (Lib.itoa q.num))) ?_ ?_
  ·intro x w1 k1 hd
   refine i7 (be4 (z:=q.num) ⟨m,rfl,hm.to k1⟩ (by unfold zl; omega)) rfl ?_
   rintro v2 w2 ⟨rfl,k2⟩
   exact b9 (ag7 k2)
  apply c8
  ·intro x w1 k1 hd
   refine av3 (b:=[47]) rfl rfl (by simp; omega) ?_
   refine b9 ?_
   exact j2
  apply c8
  ·intro x w1 k1 hd
   refine j4 rfl ?_
   refine b9 ?_
   exact j2
  apply c8
  ·intro x w1 k1 hd
   refine o7 rfl (hg.to k1) rfl rfl ?_
   refine b9 ?_
   exact j2
  refine c8 (e:=Ent.eq (strV (Lib.itoa (q.den : Int)))) ?_ ?_
  ·intro x w1 k1 hd
   refine i7 (be4 (z:=(q.den : Int)) ⟨b,rfl,hb.to k1⟩ (by omega)) rfl ?_
   rintro v2 w2 ⟨rfl,k2⟩
   exact b9 (ag7 k2)
  apply c8
  ·intro x w1 k1 hd
   refine av3 rfl rfl (by rw [ap9,Lib.decDigits_length]; simp; omega) ?_
   refine b9 ?_
   exact j2
  refine C5 (D6 ?_)
  intro x3 w3 k3 _
  repeat (first | refine c7 (by conv=>(lhs; whnf)) ?_ | refine b9 ?_ | refine d6 ?_ | refine wp_ret ?_)
  refine m9 rfl (by conv=>(lhs; whnf)) ⟨?_,k.trans k3⟩
  unfold rstr
  rw [if_neg (fun h=>hc (hd1.1 h)),ap9,List.append_assoc]
  rfl
end Go.Proofs.YtpheooheinfbgaaGreatDoor
end
section
namespace Go.Proofs
open Go.Shelf
def Tryz.lays160_ren : Go.Shelf.Ren:=⟨fun | 160=>120 | 232=>151 | 231=>150 | 227=>152 | 234=>154 | 233=>153 | 236=>156 | 235=>155 | 228=>177 | 271=>180 | 151=>179 | 197=>178 | 120=>200 | 152=>199 | 260=>198 | 137=>210 | 119=>211 | 224=>175 | 225=>174 | 217=>173 | 266=>196 | n=>n,fun | 9=>9 | 4=>4 | 3=>3 | 5=>5 | 117=>189 | 116=>188 | 0=>0 | 124=>192 | 21=>21 | 105=>209 | 46=>36 | 119=>239 | 139=>242 | 138=>241 | n=>n,fun | 3=>4 | 4=>5 | n=>n⟩
theorem Tryz.lays160 : Go.Proofs.Lays.n160 Tryz.prog Tryz.lays160_ren:={
 mixed:=by kernel_rfl
 f119:=Tryz.func211.trans (congrArg some (by kernel_rfl))
 f120:=Tryz.func200.trans (congrArg some (by kernel_rfl))
 f137:=Tryz.func210.trans (congrArg some (by kernel_rfl))
 f151:=Tryz.func179.trans (congrArg some (by kernel_rfl))
 f152:=Tryz.func199.trans (congrArg some (by kernel_rfl))
 f160:=Tryz.func120.trans (congrArg some (by kernel_rfl))
 f197:=Tryz.func178.trans (congrArg some (by kernel_rfl))
 f217:=Tryz.func173.trans (congrArg some (by kernel_rfl))
 f224:=Tryz.func175.trans (congrArg some (by kernel_rfl))
 f225:=Tryz.func174.trans (congrArg some (by kernel_rfl))
 f227:=Tryz.func152.trans (congrArg some (by kernel_rfl))
 f228:=Tryz.func177.trans (congrArg some (by kernel_rfl))
 f231:=Tryz.func150.trans (congrArg some (by kernel_rfl))
 f232:=Tryz.func151.trans (congrArg some (by kernel_rfl))
 f233:=Tryz.func153.trans (congrArg some (by kernel_rfl))
 f234:=Tryz.func154.trans (congrArg some (by kernel_rfl))
 f235:=Tryz.func155.trans (congrArg some (by kernel_rfl))
 f236:=Tryz.func156.trans (congrArg some (by kernel_rfl))
 f260:=Tryz.func198.trans (congrArg some (by kernel_rfl))
 f266:=Tryz.func196.trans (congrArg some (by kernel_rfl))
 f271:=Tryz.func180.trans (congrArg some (by kernel_rfl))
 t0:=Tryz.underlying0
 a0:=Tryz.isAgg0
 z0:=Tryz.sizeOf0
 v0:=Tryz.zeroValue0
 t3:=Tryz.underlying3
 a3:=Tryz.isAgg3
 z3:=Tryz.sizeOf3
 v3:=Tryz.zeroValue3
 t4:=Tryz.underlying4
 a4:=Tryz.isAgg4
 z4:=Tryz.sizeOf4
 v4:=Tryz.zeroValue4
 t5:=Tryz.underlying5
 a5:=Tryz.isAgg5
 z5:=Tryz.sizeOf5
 v5:=Tryz.zeroValue5
 t9:=Tryz.underlying9
 a9:=Tryz.isAgg9
 z9:=Tryz.sizeOf9
 v9:=Tryz.zeroValue9
 t21:=Tryz.underlying21
 a21:=Tryz.isAgg21
 z21:=Tryz.sizeOf21
 v21:=Tryz.zeroValue21
 t46:=Tryz.underlying36
 a46:=Tryz.isAgg36
 z46:=Tryz.sizeOf36
 v46:=Tryz.zeroValue36
 t105:=Tryz.underlying209
 a105:=Tryz.isAgg209
 z105:=Tryz.sizeOf209
 v105:=Tryz.zeroValue209
 t116:=Tryz.underlying188
 a116:=Tryz.isAgg188
 z116:=Tryz.sizeOf188
 t117:=Tryz.underlying189
 a117:=Tryz.isAgg189
 z117:=Tryz.sizeOf189
 v117:=Tryz.zeroValue189
 t119:=Tryz.underlying239
 a119:=Tryz.isAgg239
 z119:=Tryz.sizeOf239
 t124:=Tryz.underlying192
 a124:=Tryz.isAgg192
 z124:=Tryz.sizeOf192
 v124:=Tryz.zeroValue192
 t138:=Tryz.underlying241
 a138:=Tryz.isAgg241
 z138:=Tryz.sizeOf241
 v138:=Tryz.zeroValue241
 t139:=Tryz.underlying242
 a139:=Tryz.isAgg242
 z139:=Tryz.sizeOf242
 v139:=Tryz.zeroValue242
 g3:=by kernel_rfl
 g4:=by kernel_rfl }
def Tryz.lays103_ren : Go.Shelf.Ren:=⟨fun | 103=>90 | 210=>119 | 206=>149 | n=>n,fun | 9=>9 | 4=>4 | 24=>136 | 3=>3 | n=>n,fun | n=>n⟩
theorem Tryz.lays103 : Go.Proofs.Lays.n103 Tryz.prog Tryz.lays103_ren:={
 mixed:=by kernel_rfl
 f103:=Tryz.func90.trans (congrArg some (by kernel_rfl))
 f206:=Tryz.func149.trans (congrArg some (by kernel_rfl))
 f210:=Tryz.func119.trans (congrArg some (by kernel_rfl))
 t3:=Tryz.underlying3
 a3:=Tryz.isAgg3
 z3:=Tryz.sizeOf3
 v3:=Tryz.zeroValue3
 t4:=Tryz.underlying4
 a4:=Tryz.isAgg4
 z4:=Tryz.sizeOf4
 v4:=Tryz.zeroValue4
 t9:=Tryz.underlying9
 a9:=Tryz.isAgg9
 z9:=Tryz.sizeOf9
 v9:=Tryz.zeroValue9
 t24:=Tryz.underlying136
 a24:=Tryz.isAgg136
 z24:=Tryz.sizeOf136
 v24:=Tryz.zeroValue136 }
open Go.RowKit in
theorem Tryz.strings_CutPrefix (s p : ByteArray) (w : World) :
  Calls Tryz.prog 90 #[.string s,.string p] w fun e w'=>e = .returned (.tuple #[.string ⟨(Lib.trimPrefix s.data.toList p.data.toList).toArray⟩,.bool (Lib.hasPrefix s.data.toList p.data.toList)]) ∧ w' = w:=Any.strings_CutPrefix Tryz.lays103 s p w
def Tryz.lays172_ren : Go.Shelf.Ren:=⟨fun | 172=>121 | 244=>157 | 245=>158 | 247=>181 | 279=>182 | 280=>183 | 281=>184 | 282=>185 | 287=>201 | 316=>202 | 171=>108 | 205=>203 | 321=>212 | 322=>213 | 243=>135 | 246=>167 | 283=>190 | 284=>191 | 285=>192 | 286=>193 | 129=>205 | 317=>204 | 318=>206 | 319=>207 | 320=>208 | 337=>214 | 338=>215 | n=>n,fun | 9=>9 | 3=>3 | 75=>153 | 76=>154 | 4=>4 | 5=>5 | 167=>212 | 37=>149 | 0=>0 | 85=>213 | 2=>2 | 168=>215 | 53=>132 | 175=>228 | 46=>36 | 210=>232 | 127=>179 | 145=>247 | 143=>245 | 21=>21 | 171=>220 | 173=>223 | 212=>235 | 51=>157 | 20=>20 | 213=>236 | 232=>249 | 233=>250 | 80=>87 | n=>n,fun | 15=>1 | 16=>2 | 17=>3 | 18=>6 | 19=>7 | n=>n⟩
theorem Tryz.lays172 : Go.Proofs.Lays.n172 Tryz.prog Tryz.lays172_ren:={
 mixed:=by kernel_rfl
 f129:=Tryz.func205.trans (congrArg some (by kernel_rfl))
 f171:=Tryz.func108.trans (congrArg some (by kernel_rfl))
 f172:=Tryz.func121.trans (congrArg some (by kernel_rfl))
 f205:=Tryz.func203.trans (congrArg some (by kernel_rfl))
 f243:=Tryz.func135.trans (congrArg some (by kernel_rfl))
 f244:=Tryz.func157.trans (congrArg some (by kernel_rfl))
 f245:=Tryz.func158.trans (congrArg some (by kernel_rfl))
 f246:=Tryz.func167.trans (congrArg some (by kernel_rfl))
 f247:=Tryz.func181.trans (congrArg some (by kernel_rfl))
 f279:=Tryz.func182.trans (congrArg some (by kernel_rfl))
 f280:=Tryz.func183.trans (congrArg some (by kernel_rfl))
 f281:=Tryz.func184.trans (congrArg some (by kernel_rfl))
 f282:=Tryz.func185.trans (congrArg some (by kernel_rfl))
 f283:=Tryz.func190.trans (congrArg some (by kernel_rfl))
 f284:=Tryz.func191.trans (congrArg some (by kernel_rfl))
 f285:=Tryz.func192.trans (congrArg some (by kernel_rfl))
 f286:=Tryz.func193.trans (congrArg some (by kernel_rfl))
 f287:=Tryz.func201.trans (congrArg some (by kernel_rfl))
 f316:=Tryz.func202.trans (congrArg some (by kernel_rfl))
 f317:=Tryz.func204.trans (congrArg some (by kernel_rfl))
 f318:=Tryz.func206.trans (congrArg some (by kernel_rfl))
 f319:=Tryz.func207.trans (congrArg some (by kernel_rfl))
 f320:=Tryz.func208.trans (congrArg some (by kernel_rfl))
 f321:=Tryz.func212.trans (congrArg some (by kernel_rfl))
 f322:=Tryz.func213.trans (congrArg some (by kernel_rfl))
 f337:=Tryz.func214.trans (congrArg some (by kernel_rfl))
 f338:=Tryz.func215.trans (congrArg some (by kernel_rfl))
 t0:=Tryz.underlying0
 a0:=Tryz.isAgg0
 z0:=Tryz.sizeOf0
 v0:=Tryz.zeroValue0
 t2:=Tryz.underlying2
 a2:=Tryz.isAgg2
 z2:=Tryz.sizeOf2
 v2:=Tryz.zeroValue2
 t3:=Tryz.underlying3
 a3:=Tryz.isAgg3
 z3:=Tryz.sizeOf3
 v3:=Tryz.zeroValue3
 t4:=Tryz.underlying4
 a4:=Tryz.isAgg4
 z4:=Tryz.sizeOf4
 v4:=Tryz.zeroValue4
 t5:=Tryz.underlying5
 a5:=Tryz.isAgg5
 z5:=Tryz.sizeOf5
 v5:=Tryz.zeroValue5
 t9:=Tryz.underlying9
 a9:=Tryz.isAgg9
 z9:=Tryz.sizeOf9
 v9:=Tryz.zeroValue9
 t20:=Tryz.underlying20
 a20:=Tryz.isAgg20
 z20:=Tryz.sizeOf20
 v20:=Tryz.zeroValue20
 t21:=Tryz.underlying21
 a21:=Tryz.isAgg21
 z21:=Tryz.sizeOf21
 v21:=Tryz.zeroValue21
 t37:=Tryz.underlying149
 a37:=Tryz.isAgg149
 z37:=Tryz.sizeOf149
 v37:=Tryz.zeroValue149
 t46:=Tryz.underlying36
 a46:=Tryz.isAgg36
 z46:=Tryz.sizeOf36
 v46:=Tryz.zeroValue36
 t51:=Tryz.underlying157
 a51:=Tryz.isAgg157
 z51:=Tryz.sizeOf157
 v51:=Tryz.zeroValue157
 t53:=Tryz.underlying132
 a53:=Tryz.isAgg132
 z53:=Tryz.sizeOf132
 v53:=Tryz.zeroValue132
 t75:=Tryz.underlying153
 a75:=Tryz.isAgg153
 z75:=Tryz.sizeOf153
 v75:=Tryz.zeroValue153
 t76:=Tryz.underlying154
 a76:=Tryz.isAgg154
 z76:=Tryz.sizeOf154
 v76:=Tryz.zeroValue154
 t85:=Tryz.underlying213
 a85:=Tryz.isAgg213
 z85:=Tryz.sizeOf213
 v85:=Tryz.zeroValue213
 t127:=Tryz.underlying179
 a127:=Tryz.isAgg179
 z127:=Tryz.sizeOf179
 v127:=Tryz.zeroValue179
 t143:=Tryz.underlying245
 a143:=Tryz.isAgg245
 z143:=Tryz.sizeOf245
 v143:=Tryz.zeroValue245
 t145:=Tryz.underlying247
 a145:=Tryz.isAgg247
 z145:=Tryz.sizeOf247
 v145:=Tryz.zeroValue247
 t167:=Tryz.underlying212
 a167:=Tryz.isAgg212
 z167:=Tryz.sizeOf212
 v167:=Tryz.zeroValue212
 t168:=Tryz.underlying215
 a168:=Tryz.isAgg215
 z168:=Tryz.sizeOf215
 v168:=Tryz.zeroValue215
 t171:=Tryz.underlying220
 a171:=Tryz.isAgg220
 z171:=Tryz.sizeOf220
 v171:=Tryz.zeroValue220
 t173:=Tryz.underlying223
 a173:=Tryz.isAgg223
 z173:=Tryz.sizeOf223
 v173:=Tryz.zeroValue223
 t175:=Tryz.underlying228
 a175:=Tryz.isAgg228
 z175:=Tryz.sizeOf228
 v175:=Tryz.zeroValue228
 t210:=Tryz.underlying232
 a210:=Tryz.isAgg232
 z210:=Tryz.sizeOf232
 v210:=Tryz.zeroValue232
 t212:=Tryz.underlying235
 a212:=Tryz.isAgg235
 z212:=Tryz.sizeOf235
 v212:=Tryz.zeroValue235
 t213:=Tryz.underlying236
 a213:=Tryz.isAgg236
 z213:=Tryz.sizeOf236
 t232:=Tryz.underlying249
 a232:=Tryz.isAgg249
 z232:=Tryz.sizeOf249
 v232:=Tryz.zeroValue249
 t233:=Tryz.underlying250
 a233:=Tryz.isAgg250
 z233:=Tryz.sizeOf250
 v233:=Tryz.zeroValue250
 g15:=by kernel_rfl
 g16:=by kernel_rfl
 g17:=by kernel_rfl
 g18:=by kernel_rfl
 g19:=by kernel_rfl }
open Go.RowKit in
theorem Tryz.strconv_Atoi (s : ByteArray) (n : Int) (hl : s.size ≤ 18) (h : Lib.atoi s.data.toList = some n) (w : World) :
  Calls Tryz.prog 121 #[.string s] w fun e w'=>e = .returned (.tuple #[.int .i64 n,.nilIface]) ∧ ∃ t,w' = Lib.bytesWorld w 5 t:=Any.strconv_Atoi Tryz.lays172 s n hl h w
def Tryz.lays217_ren : Go.Shelf.Ren:=⟨fun | 217=>173 | 266=>196 | n=>n,fun | 9=>9 | 5=>5 | 3=>3 | n=>n,fun | n=>n⟩
theorem Tryz.lays217 : Go.Proofs.Lays.n217 Tryz.prog Tryz.lays217_ren:={
 mixed:=by kernel_rfl
 f217:=Tryz.func173.trans (congrArg some (by kernel_rfl))
 f266:=Tryz.func196.trans (congrArg some (by kernel_rfl))
 t3:=Tryz.underlying3
 a3:=Tryz.isAgg3
 z3:=Tryz.sizeOf3
 v3:=Tryz.zeroValue3
 t5:=Tryz.underlying5
 a5:=Tryz.isAgg5
 z5:=Tryz.sizeOf5
 v5:=Tryz.zeroValue5
 t9:=Tryz.underlying9
 a9:=Tryz.isAgg9
 z9:=Tryz.sizeOf9
 v9:=Tryz.zeroValue9 }
open Go.RowKit Go.Lib in
theorem Tryz.stringslite_IndexByte (s : ByteArray) (c : Int) (w : World) :
  Calls Tryz.prog 173 #[.string s,.int .u8 c] w fun e w'=>e = .returned (.int .i64 (Lib.indexByte s.data.toList c.toNat.toUInt8)) ∧ w' = w:=Any.stringslite_IndexByte Tryz.lays217 s c w
end Go.Proofs
end
section
set_option linter.unusedVariables false
set_option linter.unusedSimpArgs false
namespace Go.Proofs.YtpheooheinfbgaaGreatDoor
open Go Go.RowKit
abbrev tenDigits : List UInt8:=[48,49,50,51,52,53,54,55,56,57]
theorem Q7 (c : UInt8) : tenDigits.contains c = true ↔ Dig c:=by
 have h:=c.toNat_lt
 constructor
 ·intro h
  simp only [List.contains_eq_mem,decide_eq_true_eq,List.mem_cons,List.not_mem_nil,or_false] at h
  rcases h with rfl | rfl | rfl | rfl | rfl | rfl | rfl | rfl | rfl | rfl <;> exact ⟨by decide,by decide⟩
 ·rintro ⟨h1,h2⟩
  simp only [List.contains_eq_mem,decide_eq_true_eq,List.mem_cons,List.not_mem_nil,or_false]
  have e : ∀ k : UInt8,c.toNat = k.toNat → c = k:=fun k hk=>UInt8.toNat_inj.1 hk
  have : c.toNat = 48 ∨ c.toNat = 49 ∨ c.toNat = 50 ∨ c.toNat = 51 ∨ c.toNat = 52 ∨ c.toNat = 53 ∨ c.toNat = 54 ∨ c.toNat = 55 ∨ c.toNat = 56 ∨ c.toNat = 57:=by omega
  rcases this with h | h | h | h | h | h | h | h | h | h
  ·exact .inl (e 48 h)
  ·exact .inr (.inl (e 49 h))
  ·exact .inr (.inr (.inl (e 50 h)))
  ·exact .inr (.inr (.inr (.inl (e 51 h))))
  ·exact .inr (.inr (.inr (.inr (.inl (e 52 h)))))
  ·exact .inr (.inr (.inr (.inr (.inr (.inl (e 53 h))))))
  ·exact .inr (.inr (.inr (.inr (.inr (.inr (.inl (e 54 h)))))))
  ·exact .inr (.inr (.inr (.inr (.inr (.inr (.inr (.inl (e 55 h))))))))
  ·exact .inr (.inr (.inr (.inr (.inr (.inr (.inr (.inr (.inl (e 56 h)))))))))
  ·exact .inr (.inr (.inr (.inr (.inr (.inr (.inr (.inr (.inr (e 57 h)))))))))
theorem ak1 {p : UInt8 → Bool} : ∀ {l : List UInt8},l.dropWhile p = [] ↔ ∀ x ∈ l,p x = true
 | []=>by simp
 | c :: r=>by
  rw [List.dropWhile_cons]
  split
  ·rename_i h
   rw [ak1]
   simp [h]
  ·rename_i h
   constructor
   ·intro e; cases e
   ·intro e; exact absurd (e c (List.mem_cons_self ..)) h
theorem by8 (s : List UInt8) : Lib.trimS s tenDigits = [] ↔ ∀ c ∈ s,Dig c:=by
 unfold Lib.trimS Lib.trimLeftS Lib.trimRightS
 rw [ak1]
 constructor
 ·intro h
  have h2 : ∀ c ∈ s.reverse.dropWhile (tenDigits.contains ·),Dig c:=fun c hc=>(Q7 c).1 (h c (List.mem_reverse.2 hc))
  have h3 : s.reverse.dropWhile (tenDigits.contains ·) = []:=by
   cases hd : s.reverse.dropWhile (tenDigits.contains ·) with
   | nil=>rfl
   | cons c r=>
    exfalso
    have h4 : tenDigits.contains c = true:=(Q7 c).2 (h2 c (by rw [hd]; exact List.mem_cons_self ..))
    have h5:=List.head?_dropWhile_not (tenDigits.contains ·) s.reverse
    rw [hd] at h5
    simp only [List.head?_cons] at h5
    rw [h4] at h5
    cases h5
  intro c hc
  exact (Q7 c).1 (ak1.1 h3 c (List.mem_reverse.2 hc))
 ·intro h c hc
  have h1:=List.mem_reverse.1 hc
  exact (Q7 c).2 (h c (List.mem_reverse.1 ((List.dropWhile_sublist _).subset h1)))
theorem bq5 {w : World} {s : List UInt8} (hl : s.length ≤ 9223372036854775807) :
  Gives Tryz.prog 120 [strV s,strV tenDigits] w fun v' w'=>v' = strV (Lib.trimS s tenDigits) ∧ Ext w w':=
 Calls.mono (Any.strings_Trim_laid Tryz.lays160 (by kernel_rfl) ⟨s.toArray⟩ ⟨tenDigits.toArray⟩ w (by rw [V1]; exact hl) (by decide) (ascii_of_all (by decide))) fun e w' ⟨he,hw⟩=>⟨_,he,rfl,.of_below hw⟩
theorem ac6 {w : World} {s : List UInt8} (hl : s.length ≤ 9223372036854775807) :
  Gives Tryz.prog 91 [strV s] w fun v' w'=>v' = .bool (tst (DecL s)) ∧ Ext w w':=by
 have hbd : ¬ (s = [] ∨ (s.head? = some 48 ∧ 1 < s.length)) → (DecL s ↔ ∀ c ∈ s,Dig c):=by
  intro h
  refine ⟨fun h2=>h2.2.1,fun h2=>⟨fun e=>h (.inl e),h2,fun h3=>?_⟩⟩
  have h4 : ¬ 1 < s.length:=fun h4=>h (.inr ⟨h3,h4⟩)
  have h5 : s ≠ []:=fun e=>h (.inl e)
  have:=List.length_pos_iff.2 h5
  omega
 refine j7 Tryz.func91 rfl rfl rfl ?_
 repeat (first | refine a7 ?_ | refine d8 ?_ | refine b8 ?_ | refine d7 (by conv=>(lhs; whnf)) ?_ | refine c7 (by conv=>(lhs; whnf)) ?_ | refine b9 ?_)
 refine X1 (b:=[]) rfl rfl ?_
 repeat (first | refine d7 (by conv=>(lhs; whnf)) ?_)
 refine a55 [(5,14)] (fun ρ w'=>ρ 14 = .bool (tst (s = [] ∨ (s.head? = some 48 ∧ 1 < s.length))) ∧ w' = w) ?_ ?_
 ·refine B9 rfl rfl ?_ ?_ <;> intro hnil
  ·repeat (first | refine b9 ?_ | refine d6 ?_ | refine q6 rfl rfl rfl ?_ | refine H0 rfl rfl ?_ | refine r6 rfl (by conv=>(lhs; whnf)) ?_)
   exact ⟨by (repeat (first | refine j0 rfl ?_ | exact f3 | refine j1 rfl ?_ | exact d9 | refine l7 rfl ?_ | refine j8 rfl ?_)),by rw [l9 (Or.inl hnil)]; rfl,rfl⟩
  ·obtain ⟨c,hc⟩ : ∃ c,s[0]? = some c:=⟨s[0]'(List.length_pos_iff.2 hnil),List.getElem?_eq_getElem _⟩
   have hc48 : (c.toNat : Int) = 48 ↔ s.head? = some 48:=by
    rw [List.head?_eq_getElem?,hc]
    constructor
    ·intro h
     congr 1
     apply UInt8.toNat_inj.1
     show c.toNat = 48
     omega
    ·intro h
     have:=Option.some.inj h
     subst this
     rfl
   repeat (first | refine a59 0 rfl rfl rfl hc ?_ | refine d7 (by conv=>(lhs; whnf)) ?_ | refine n9 rfl rfl ?_ | refine P8 rfl rfl ?_)
   refine B9 rfl rfl ?_ ?_ <;> intro h48
   ·repeat (first | refine al2 rfl ?_ | refine d7 (by conv=>(lhs; whnf)) ?_ | refine b9 ?_ | refine d6 ?_ | refine n9 rfl rfl ?_ | refine r6 rfl (by conv=>(lhs; whnf)) ?_ | refine o9 rfl (by conv=>(lhs; whnf)) ?_ | refine N3 rfl rfl ?_)
    refine ⟨by (repeat (first | refine j0 rfl ?_ | exact f3 | refine j1 rfl ?_ | exact d9 | refine l7 rfl ?_ | refine j8 rfl ?_)),congrArg Value.bool (H1 ?_),rfl⟩
    exact ⟨fun h=>Or.inr ⟨hc48.1 h48,by omega⟩,fun h=>h.elim (fun h=>absurd h hnil) fun h=>by omega⟩
   ·repeat (first | refine b9 ?_ | refine d6 ?_ | refine n9 rfl rfl ?_ | refine q6 rfl rfl rfl ?_ | refine o9 rfl (by conv=>(lhs; whnf)) ?_)
    refine ⟨by (repeat (first | refine j0 rfl ?_ | exact f3 | refine j1 rfl ?_ | exact d9 | refine l7 rfl ?_ | refine j8 rfl ?_)),?_,rfl⟩
    rw [j6 (show ¬ (s = [] ∨ (s.head? = some 48 ∧ 1 < s.length)) from fun h=>h.elim hnil fun h=>h48 (hc48.2 h.1))]
    rfl
 rintro u1 w1 ⟨h14,rfl⟩
 refine j5 14 h14 ?_
 clear h14
 skip
 try refine i6 ?_
 refine j3 rfl ?_ ?_ <;> intro hbad
 ·repeat (first | refine a7 ?_ | refine b8 ?_ | refine c7 (by conv=>(lhs; whnf)) ?_ | refine b9 ?_ | refine d6 ?_ | refine wp_ret ?_ | refine p8 ?_)
  refine m9 rfl (by conv=>(lhs; whnf)) ⟨?_,.refl⟩
  rw [j6]
  rintro ⟨h1,h2,h3⟩
  rcases hbad with h | h
  ·exact h1 h
  ·have:=h3 h.1; omega
 ·repeat (first | refine a7 ?_ | refine b8 ?_ | refine d7 (by conv=>(lhs; whnf)) ?_ | refine wp_skip ?_)
  refine i7 (bq5 hl) rfl ?_
  rintro v2 w2 ⟨rfl,k2⟩
  refine X1 (b:=[]) rfl rfl ?_
  repeat (first | refine c7 (by conv=>(lhs; whnf)) ?_ | refine b9 ?_ | refine d6 ?_ | refine wp_ret ?_)
  refine m9 rfl (by conv=>(lhs; whnf)) ⟨?_,k2⟩
  rw [H1 (by8 s),← H1 (hbd hbad)]
theorem af5 : ∀ {l : List UInt8} {a : Nat},(∀ c ∈ l,Dig c) → Lib.decFrom a l = some (l.foldl (fun a c=>10 * a + (c.toNat - 48)) a)
 | [],a,_=>rfl
 | c :: r,a,h=>by
  have h1:=h c (List.mem_cons_self ..)
  unfold Dig at h1
  have h2:=af5 (l:=r) (a:=a * 10 + (c.toNat - 48)) fun x hx=>h x (List.mem_cons_of_mem _ hx)
  unfold Lib.decFrom Lib.digitVal
  rw [if_pos h1]
  simp only [List.foldl_cons]
  rw [h2,Nat.mul_comm a]
theorem bn0 {l : List UInt8} (hne : l ≠ []) (h : ∀ c ∈ l,Dig c) : Lib.atoi l = some (digV l : Int):=by
 cases l with
 | nil=>exact absurd rfl hne
 | cons c r=>
  have h1:=h c (List.mem_cons_self ..)
  unfold Dig at h1
  have e45 : (c == 45) = false:=by
   rw [beq_eq_false_iff_ne]
   rintro rfl
   exact absurd h1.1 (by decide)
  have e43 : (c == 43) = false:=by
   rw [beq_eq_false_iff_ne]
   rintro rfl
   exact absurd h1.1 (by decide)
  have e : Lib.atoi (c :: r) = if (c == 45) = true then (Lib.decNat r).map fun (m : Nat)=>-(m : Int) else if (c == 43) = true then (Lib.decNat r).map fun (m : Nat)=>(m : Int) else (Lib.decNat (c :: r)).map fun (m : Nat)=>(m : Int):=rfl
  have e2 : Lib.decNat (c :: r) = Lib.decFrom 0 (c :: r):=rfl
  rw [e,e45,e43,e2,af5 h]
  rfl
theorem bo6 {w : World} {T : TypeId} {t : ByteArray} : Ext w (Lib.bytesWorld w T t):=.of_below (Lib.bytesWorld_below w T t)
theorem cm3 {w : World} {l : List UInt8} (hne : l ≠ []) (h : ∀ c ∈ l,Dig c) (hl : l.length ≤ 18) :
  Gives Tryz.prog 121 [strV l] w fun v' w'=>v' = .tuple #[.int .i64 (digV l : Int),.nilIface] ∧ Ext w w':=
 Calls.mono (Tryz.strconv_Atoi ⟨l.toArray⟩ (digV l : Int) (by rw [V1]; exact hl) (bn0 hne h) w) fun e w' ⟨he,t,hw⟩=>⟨_,he,rfl,hw ▸ bo6⟩
end Go.Proofs.YtpheooheinfbgaaGreatDoor
end
section
set_option linter.unusedVariables false
set_option linter.unusedSimpArgs false
namespace Go.Proofs.YtpheooheinfbgaaGreatDoor
open Go Go.RowKit
theorem a27 {S : Nat → Prop} {w : World} {s : List UInt8} (hS : Up S w) (hd : ∀ c ∈ s,Dig c) (hl : s.length ≤ 1000000) :
  Gives Tryz.prog 93 [strV s] w fun v' w'=>Ext w w' ∧ NatV S 157 .u32 w' v' (digV s):=by
 refine j7 Tryz.func93 rfl rfl rfl ?_
 repeat (first | refine a7 ?_ | refine b8 ?_ | refine c7 (by conv=>(lhs; whnf)) ?_ | refine b9 ?_ | refine d6 ?_)
 try refine m6 ?_
 refine C3 ((0,0) :: [(0,0),(3,28)]) (fun k ρ w'=>∃ (L : List Nat) (v : Value),k ≤ s.length ∧ ρ 0 = strV (s.take k) ∧ ρ 3 = v ∧ (0 < k → 9 * L.length + k = s.length) ∧ L.length ≤ s.length ∧ digV (s.drop k) = nval L ∧ Digs L ∧ Ext w w' ∧ Own w.heap.size 157 1 w' v L.length (L.map fun d : Nat=>.int .u32 d)) s.length ?_ ?_
 ·exact ⟨[],_,Nat.le_refl _,by rw [List.take_of_length_le (Nat.le_refl _)]; rfl,rfl,by simp,by simp,by rw [List.drop_of_length_le (Nat.le_refl _)]; rfl,J3,.refl,W2⟩
 rintro k u w1 ⟨L,v,hk,h0,h3,hcnt,hLl,hval,hLd,k1,ho⟩
 refine j5 0 h0 (j5 3 h3 ?_)
 clear h0 h3
 have htk : (s.take k).length = k:=by rw [List.length_take]; omega
 repeat (first | refine al2 rfl ?_ | refine a7 ?_ | refine d8 ?_ | refine b8 ?_ | refine d7 (by conv=>(lhs; whnf)) ?_ | refine b9 ?_ | refine d6 ?_ | refine N3 rfl rfl ?_)
 try refine i6 ?_
 refine j3 rfl ?_ ?_ <;> intro hc
 ·obtain ⟨cut,hcut⟩ : ∃ cut,cut = k - 9:=⟨_,rfl⟩
  have hmax : max (0 : Int) (((s.take k).length : Int) - 9) = (cut : Int):=by omega
  obtain ⟨ch,hch⟩ : ∃ ch,ch = (s.take k).drop cut:=⟨_,rfl⟩
  have hchl : ch.length = k - cut:=by rw [hch,List.length_drop,htk]
  have hchd : ∀ c ∈ ch,Dig c:=fun c hc=>hd c (List.mem_of_mem_take (List.mem_of_mem_drop (hch ▸ hc)))
  have hchne : ch ≠ []:=by intro e; rw [e] at hchl; simp at hchl; omega
  have hdv:=bk1 hchd
  have hdv9 : digV ch < 1000000000:=by
   have : 10 ^ ch.length ≤ 10 ^ 9:=Nat.pow_le_pow_right (by omega) (by omega)
   omega
  have hsd : s.drop cut = ch ++ s.drop k:=by
   rw [hch]
   conv=>lhs; rw [← List.take_append_drop k s]
   rw [List.drop_append_of_le_length (by omega)]
  repeat (first | refine al2 rfl ?_ | refine a7 ?_ | refine b8 ?_ | refine d7 (by conv=>(lhs; whnf)) ?_ | refine c7 (by conv=>(lhs; whnf)) ?_ | refine b9 ?_ | refine d6 ?_ | refine o6 ?_ | refine wp_skip ?_ | refine A1 rfl rfl (by omega) (by omega) ?_ | refine bt7 rfl rfl ?_)
  rw [hmax]
  repeat (first | refine ae3 cut rfl rfl rfl (by omega) ?_)
  rw [← hch]
  refine i7 (cm3 hchne hchd (by omega)) rfl ?_
  rintro v2 w2 ⟨rfl,k2⟩
  repeat (first | refine a7 ?_ | refine b8 ?_ | refine d7 (by conv=>(lhs; whnf)) ?_ | refine c7 (by conv=>(lhs; whnf)) ?_ | refine b9 ?_ | refine A4 rfl rfl ?_ | refine J6 rfl (V6 (by omega) (by omega)) ?_)
  refine Q1 (by conv=>(lhs; whnf)) rfl ?_
  intro w3 g k3 hg hgs
  refine K8 (by conv=>(lhs; whnf)) (Q0 (Q0 ho k2) k3) rfl hg (by omega) rfl (fun u hu=>by rw [List.mem_singleton.1 hu]; rfl) (by unfold maxLen; omega) (by omega) (by have:=k1.size; have:=k2.size; have:=k3.size; omega) ?_
  intro v4 w4 ho4 k4
  have hlen : (L ++ [digV ch]).length = L.length + 1:=by rw [List.length_append]; rfl
  repeat (first | refine ac5 cut rfl rfl rfl (by omega) ?_ | refine b8 ?_ | refine d7 (by conv=>(lhs; whnf)) ?_ | refine c7 (by conv=>(lhs; whnf)) ?_ | refine b9 ?_ | refine d6 ?_ | refine Q6 ?_)
  refine ⟨by (repeat (first | refine j0 rfl ?_ | exact f3 | refine j1 rfl ?_ | exact d9 | refine l7 rfl ?_ | refine j8 rfl ?_)),cut,by omega,L ++ [digV ch],v4,by omega,?_,rfl,by rw [hlen]; omega,by rw [hlen]; omega,?_,hLd.append (Digs.cons hdv9 J3),?_,by simpa using ho4⟩
  ·show strV ((s.take k).take cut) = _
   rw [List.take_take,Nat.min_eq_left (by omega)]
  ·rw [hsd,a52,hval,V0,List.length_drop,show s.length - k = 9 * L.length by have:=hcnt (by omega); omega,← S7,Nat.mul_comm (digV ch)]
   omega
  ·exact Keeps.later ((k1.trans k2).trans k3) k4 fun i hi _ e=>by have:=(ho.lt i e.symm).1; omega
 ·obtain rfl : k = 0:=by omega
  rw [List.drop_zero] at hval
  repeat (first | refine a7 ?_ | refine b8 ?_ | refine d7 (by conv=>(lhs; whnf)) ?_ | refine wp_exit ?_)
  refine i7 (aq2 (S:=S) (v:=v) (l:=L) (Row.of_own ho hS) hLd) rfl ?_
  rintro v2 w2 ⟨rfl,h2⟩
  repeat (first | refine c7 (by conv=>(lhs; whnf)) ?_ | refine b9 ?_ | refine d6 ?_ | refine wp_ret ?_)
  refine m9 rfl (by conv=>(lhs; whnf)) ⟨k1,?_⟩
  rw [hval]
  exact h2
theorem bj8 (s : List UInt8) : Lib.hasPrefix s [45] = tst (NegS s):=by
 unfold Lib.hasPrefix NegS
 cases s with
 | nil=>rw [j6 (by simp)]; rfl
 | cons c r=>
  by_cases h : c = 45
  ·subst h
   rw [l9 (by rfl)]
   simp [List.isPrefixOf]
  ·rw [j6 (by simpa using h)]
   simp [List.isPrefixOf]
   exact fun e=>h e.symm
theorem b37 (s : List UInt8) : Lib.trimPrefix s [45] = Dgs s:=by
 unfold Lib.trimPrefix Dgs
 rw [bj8]
 by_cases h : NegS s
 ·rw [l9 h,if_pos h]; rfl
 ·rw [j6 h,if_neg h]; rfl
theorem a86 {w : World} {s : List UInt8} :
  Gives Tryz.prog 90 [strV s,strV [45]] w fun v' w'=>v' = .tuple #[strV (Dgs s),.bool (tst (NegS s))] ∧ w' = w:=
 Calls.mono (Tryz.strings_CutPrefix ⟨s.toArray⟩ ⟨[45].toArray⟩ w) fun e w' ⟨he,hw⟩=>⟨_,he,by
  show Value.tuple #[.string ⟨(Lib.trimPrefix s [45]).toArray⟩,.bool (Lib.hasPrefix s [45])] = _
  rw [b37,bj8],hw⟩
end Go.Proofs.YtpheooheinfbgaaGreatDoor
end
section
set_option linter.unusedVariables false
set_option linter.unusedSimpArgs false
namespace Go.Proofs.YtpheooheinfbgaaGreatDoor
open Go Go.RowKit
theorem cd4 (l : List UInt8) (c : UInt8) : (Lib.indexByte l c = -1 ∧ c ∉ l) ∨ ∃ a b,l = a ++ c :: b ∧ c ∉ a ∧ Lib.indexByte l c = (a.length : Int):=by
 induction l with
 | nil=>exact .inl ⟨rfl,by simp⟩
 | cons x l ih=>
  unfold Lib.indexByte
  by_cases hx : x = c
  ·subst hx
   exact .inr ⟨[],l,rfl,by simp,by simp⟩
  ·have hb : (x == c) = false:=by simpa using hx
   rcases ih with ⟨h1,h2⟩ | ⟨a,b,rfl,h2,h3⟩
   ·refine .inl ⟨by simp [hb,h1],?_⟩
    intro h
    rcases List.mem_cons.1 h with h | h
    ·exact hx h.symm
    ·exact h2 h
   ·refine .inr ⟨x :: a,b,rfl,?_,?_⟩
    ·intro h
     rcases List.mem_cons.1 h with h | h
     ·exact hx h.symm
     ·exact h2 h
    ·rw [h3]
     have : ((a.length : Int) == -1) = false:=by simp
     simp [hb,this]
theorem bv9 {P : Program} {n : Nat} {Q : Post} {ρ : Fr} {w : World} {all rest : List Oper} {d : Tmp} {ty : TypeId} {pos : String} {aft : Array Edge} {t : TypeId} [st : StrT P t] {x : Operand} {l : List UInt8} (m : Int) (hv : ev ρ x = strV l) (hm : (l.length : Int) = m)
  (h : WpR P n all Q rest (upd ρ d (.int .i64 m)) w) : WpR P n all Q (⟨some d,.call ⟨.builtin .len,#[x],#[t]⟩,ty,pos,aft,none⟩ :: rest) ρ w:=al2 hv (by rw [hm]; exact h)
theorem a83 {w : World} {s : List UInt8} :
  Gives Tryz.prog 173 [strV s,.int .u8 47] w fun v' w'=>v' = .int .i64 (Lib.indexByte s 47) ∧ w' = w:=
 Calls.mono (Tryz.stringslite_IndexByte ⟨s.toArray⟩ 47 w) fun e w' ⟨he,hw⟩=>⟨_,he,rfl,hw⟩
theorem bu9 {w : World} {s : List UInt8} (hl : s.length ≤ 9223372036854775806) :
  Gives Tryz.prog 148 [strV s,strV [47]] w fun v' w'=>v' = .int .i64 (Lib.indexByte s 47) ∧ w' = w:=by
 refine j7 Tryz.func148 rfl rfl rfl ?_
 repeat (first | refine bv9 1 rfl rfl ?_ | refine a7 ?_ | refine r7 ?_ | refine b8 ?_ | refine d7 (by conv=>(lhs; whnf)) ?_ | refine c7 (by conv=>(lhs; whnf)) ?_ | refine b9 ?_ | refine o6 ?_ | refine n9 rfl rfl ?_ | refine P8 rfl rfl ?_ | refine bh0 rfl rfl (by omega) ?_)
 refine X1 (a:=[47]) (b:=s) rfl rfl ?_
 repeat (first | refine c7 (by conv=>(lhs; whnf)) ?_ | refine b9 ?_ | refine d6 ?_ | refine o9 rfl (by conv=>(lhs; whnf)) ?_)
 try refine i6 ?_
 refine j3 rfl ?_ ?_ <;> intro hc
 ·have h47 : s = [47]:=by simpa using hc.symm
  subst h47
  repeat (first | refine a7 ?_ | refine b8 ?_ | refine c7 (by conv=>(lhs; whnf)) ?_ | refine b9 ?_ | refine d6 ?_ | refine wp_ret ?_ | refine p8 ?_ | refine G2 ?_)
  exact m9 rfl (by conv=>(lhs; whnf)) ⟨by rw [show Lib.indexByte [47] 47 = 0 from by simp [Lib.indexByte]],rfl⟩
 ·repeat (first | refine a59 0 rfl rfl rfl (c:=47) rfl ?_ | refine a7 ?_ | refine b8 ?_ | refine d7 (by conv=>(lhs; whnf)) ?_ | refine c7 (by conv=>(lhs; whnf)) ?_ | refine b9 ?_ | refine d6 ?_ | refine P8 rfl rfl ?_ | refine am3 rfl (by omega) ?_)
  refine i7 (a83 (s:=s)) rfl ?_
  rintro v2 w2 ⟨rfl,rfl⟩
  repeat (first | refine c7 (by conv=>(lhs; whnf)) ?_ | refine b9 ?_ | refine d6 ?_ | refine wp_ret ?_ | refine p8 ?_ | refine G2 ?_)
  exact m9 rfl (by conv=>(lhs; whnf)) ⟨rfl,rfl⟩
def CutR (v : Value) (s : List UInt8) : Prop:=((47 : UInt8) ∉ s ∧ v = .tuple #[strV s,strV [],.bool false]) ∨ ∃ a b,s = a ++ 47 :: b ∧ (47 : UInt8) ∉ a ∧ v = .tuple #[strV a,strV b,.bool true]
theorem ce7 {w : World} {s : List UInt8} (hl : s.length ≤ 9223372036854775806) :
  Gives Tryz.prog 118 [strV s,strV [47]] w fun v' w'=>Ext w w' ∧ CutR v' s:=by
 refine j7 Tryz.func118 rfl rfl rfl ?_
 repeat (first | refine a7 ?_ | refine d8 ?_ | refine b8 ?_ | refine d7 (by conv=>(lhs; whnf)) ?_ | refine c7 (by conv=>(lhs; whnf)) ?_ | refine b9 ?_)
 refine i7 (bu9 hl) rfl ?_
 rintro v1 w1 ⟨rfl,rfl⟩
 repeat (first | refine a7 ?_ | refine b8 ?_ | refine d7 (by conv=>(lhs; whnf)) ?_ | refine c7 (by conv=>(lhs; whnf)) ?_ | refine b9 ?_ | refine d6 ?_ | refine U4 rfl rfl ?_)
 rcases cd4 s 47 with ⟨h1,h2⟩ | ⟨a,b,rfl,h2,h3⟩
 ·rw [h1]
  repeat (first | refine a7 ?_ | refine b8 ?_ | refine d7 (by conv=>(lhs; whnf)) ?_ | refine c7 (by conv=>(lhs; whnf)) ?_ | refine b9 ?_ | refine d6 ?_ | refine wp_ret ?_ | refine wp_skip ?_ | refine aq9 rfl (by omega) ?_)
  exact bv1 rfl (A2 (by conv=>(lhs; whnf))) (A2 (by conv=>(lhs; whnf))) (A2 (by conv=>(lhs; whnf))) ⟨.refl,.inl ⟨h2,rfl⟩⟩
 ·rw [h3]
  have hla : a.length + 1 ≤ (a ++ 47 :: b).length:=by simp
  repeat (first | refine a7 ?_ | refine am3 rfl (by omega) ?_)
  refine s7 10 (by kernel_rfl) (by kernel_rfl) ?_
  apply c8
  ·intro x w1 k1 hd
   refine d7 (by conv=>(lhs; whnf)) ?_
   refine b9 ?_
   exact j2
  apply c8
  ·intro x w1 k1 hd
   refine d7 (by conv=>(lhs; whnf)) ?_
   refine b9 ?_
   exact j2
  apply c8
  ·intro x w1 k1 hd
   refine ac5 a.length rfl rfl rfl (by omega) ?_
   refine b9 ?_
   exact j2
  apply c8
  ·intro x w1 k1 hd
   refine d7 (by conv=>(lhs; whnf)) ?_
   refine b9 ?_
   exact j2
  apply c8
  ·intro x w1 k1 hd
   refine d7 (by conv=>(lhs; whnf)) ?_
   refine b9 ?_
   exact j2
  apply c8
  ·intro x w1 k1 hd
   refine d7 (by conv=>(lhs; whnf)) ?_
   refine b9 ?_
   exact j2
  apply c8
  ·intro x w1 k1 hd
   refine bv9 1 rfl rfl ?_
   refine b9 ?_
   exact j2
  apply c8
  ·intro x w1 k1 hd
   refine A9 rfl rfl (by omega) (by omega) ?_
   refine b9 ?_
   exact j2
  apply c8
  ·intro x w1 k1 hd
   refine ae3 (a.length + 1) rfl rfl rfl (by omega) ?_
   refine b9 ?_
   exact j2
  apply c8
  ·intro x w1 k1 hd
   refine c7 (by conv=>(lhs; whnf)) ?_
   refine b9 ?_
   exact j2
  refine C5 (D6 ?_)
  intro x w2 k2 _
  repeat (first | refine c7 (by conv=>(lhs; whnf)) ?_ | refine b9 ?_ | refine d6 ?_ | refine wp_ret ?_ | refine p8 ?_)
  refine bv1 rfl (A2 (by conv=>(lhs; whnf))) (A2 (by conv=>(lhs; whnf))) (A2 (by conv=>(lhs; whnf))) ⟨k2,.inr ⟨a,b,rfl,h2,?_⟩⟩
  rw [List.take_left' rfl,show a ++ 47 :: b = (a ++ [47]) ++ b by simp,List.drop_left' (by simp)]
theorem cn9 {w : World} {s : List UInt8} (hl : s.length ≤ 9223372036854775806) :
  Gives Tryz.prog 89 [strV s,strV [47]] w fun v' w'=>Ext w w' ∧ CutR v' s:=by
 refine j7 Tryz.func89 rfl rfl rfl ?_
 repeat (first | refine a7 ?_ | refine b8 ?_ | refine d7 (by conv=>(lhs; whnf)) ?_ | refine c7 (by conv=>(lhs; whnf)) ?_ | refine b9 ?_)
 refine i7 (ce7 hl) rfl ?_
 rintro v1 w1 ⟨k1,h1⟩
 rcases h1 with ⟨h1,rfl⟩ | ⟨a,b,h1,h2,rfl⟩
 ·repeat (first | refine c7 (by conv=>(lhs; whnf)) ?_ | refine b9 ?_ | refine d6 ?_ | refine wp_ret ?_ | refine A4 rfl rfl ?_)
  exact bv1 rfl (A2 (by conv=>(lhs; whnf))) (A2 (by conv=>(lhs; whnf))) (A2 (by conv=>(lhs; whnf))) ⟨k1,.inl ⟨h1,rfl⟩⟩
 ·repeat (first | refine c7 (by conv=>(lhs; whnf)) ?_ | refine b9 ?_ | refine d6 ?_ | refine wp_ret ?_ | refine A4 rfl rfl ?_)
  exact bv1 rfl (A2 (by conv=>(lhs; whnf))) (A2 (by conv=>(lhs; whnf))) (A2 (by conv=>(lhs; whnf))) ⟨k1,.inr ⟨a,b,h1,h2,rfl⟩⟩
end Go.Proofs.YtpheooheinfbgaaGreatDoor
end
section
set_option linter.unusedVariables false
set_option linter.unusedSimpArgs false
namespace Go.Proofs.YtpheooheinfbgaaGreatDoor
open Go Go.RowKit
def Parts (s : List UInt8) (n : Int) (d : Nat) : Prop:=
 (d = 0 ∧ (47 : UInt8) ∉ s ∧ s = Lib.itoa n) ∨ (2 ≤ d ∧ ∃ a,(47 : UInt8) ∉ a ∧ s = a ++ 47 :: Lib.decDigits d ∧ a = Lib.itoa n)
def denK (d : Nat) : Nat:=if d = 0 then 1 else d
theorem bg7 {s : List UInt8} {n : Int} {d : Nat} (h : Parts s n d) (hg : Nat.gcd (denK d) n.natAbs = 1) : ∃ q : Rat,q.num = n ∧ bot q = d ∧ s = rstr q:=by
 unfold denK at hg
 rcases h with ⟨rfl,h1,h2⟩ | ⟨h0,a,h1,rfl,h2⟩
 ·exact ⟨(n : Rat),rfl,cb9 n,(aj3 h1 _).2 ⟨rfl,h2⟩⟩
 ·rw [if_neg (by omega),Nat.gcd_comm] at hg
  obtain ⟨q,h3,h4⟩:=cl9 n (d:=d) (by omega) hg
  refine ⟨q,h3,?_,(af3 h1 q).2 ⟨by omega,by rw [h3]; exact h2,by rw [h4]⟩⟩
  unfold bot
  rw [if_neg (by omega),h4]
theorem br3 {s : List UInt8} {n : Int} {d : Nat} (h : Parts s n d) (hg : Nat.gcd (denK d) n.natAbs ≠ 1) : ∀ q,s ≠ rstr q:=fun q hq=>by
 unfold denK at hg
 rcases h with ⟨rfl,h1,h2⟩ | ⟨h0,a,h1,rfl,h2⟩
 ·rw [if_pos rfl,Nat.gcd_one_left] at hg
  exact hg rfl
 ·rw [if_neg (by omega),Nat.gcd_comm] at hg
  obtain ⟨h3,h4,h5⟩:=(af3 h1 q).1 hq
  have h6:=congrArg digV h5
  rw [J1,J1] at h6
  rw [h2] at h4
  have h7:=ap3 h4
  subst h6 h7
  exact hg (b79 q)
theorem bz8 {n j k : Nat} (h : n < 10 ^ j) (hj : j ≤ 9 * k) : dl n ≤ k:=by
 refine F8 ?_
 rw [S7]
 exact Nat.lt_of_lt_of_le h (am6 hj)
theorem b35 {z : Int} {s : List UInt8} (h : s = Lib.itoa z) {k : Nat} (hl : s.length ≤ 9 * k) : zl z ≤ k:=bo7 (Nat.le_trans (ap7 z) (h ▸ hl))
theorem cg2 {S : Nat → Prop} {w : World} {x m b : Value} {d : Nat} (hS : Up S w) (h1 : x.oneCell' = true) (h2 : m.oneCell' = true) (hb : NatV S 157 .u32 w b d) :
  Gives Tryz.prog 95 [.agg #[x,m,b]] w fun v' w'=>Ext w w' ∧ NatV S 157 .u32 w' v' (denK d):=by
 have hl:=@E3 d
 unfold dl at hl
 unfold denK
 refine j7 Tryz.func95 rfl rfl rfl ?_
 have k : Ext w w:=.refl
 repeat (first | refine a7 ?_ | refine b8 ?_)
 refine x9 (cs:=[x,m,b]) (by conv=>(lhs; whnf)) rfl ?_
 intro w_1 g k_1 hg hs_1
 have hsg : w.heap.size ≤ g:=Nat.le_trans k.size hs_1
 clear hs_1
 replace hS:=hS.to k_1
 replace hb:=hb.to k_1
 replace k:=k.trans k_1
 clear k_1
 repeat (first | refine f5 rfl hg rfl ?_ | refine a7 ?_ | refine d8 ?_ | refine b8 ?_ | refine c7 (by conv=>(lhs; whnf)) ?_ | refine b9 ?_ | refine d6 ?_ | refine r9 (by conv=>(lhs; whnf)) (by assumption) ?_ | refine P8 rfl rfl ?_ | refine j4 rfl ?_)
 try refine i6 ?_
 refine j3 rfl ?_ ?_ <;> intro hc
 ·repeat (first | refine a7 ?_ | refine b8 ?_)
  refine i7 (b52 hS) rfl ?_
  rintro v_2 w_2 ⟨k_2,h3⟩
  replace hS:=hS.to k_2
  replace hb:=hb.to k_2
  replace hg:=hg.to k_2
  replace k:=k.trans k_2
  clear k_2
  repeat (first | refine c7 (by conv=>(lhs; whnf)) ?_ | refine b9 ?_ | refine d6 ?_ | refine wp_ret ?_ | refine p8 ?_)
  refine m9 rfl (by conv=>(lhs; whnf)) ⟨k,?_⟩
  rw [if_pos (hl.1 (by omega))]
  exact h3
 ·repeat (first | refine f5 rfl hg rfl ?_ | refine a7 ?_ | refine b8 ?_ | refine c7 (by conv=>(lhs; whnf)) ?_ | refine b9 ?_ | refine d6 ?_ | refine wp_ret ?_ | refine wp_skip ?_ | refine j4 rfl ?_)
  refine m9 rfl (by conv=>(lhs; whnf)) ⟨k,?_⟩
  rw [if_neg (fun h=>hc (by have:=hl.2 h; omega))]
  exact hb
theorem cb6 {S : Nat → Prop} {w : World} {va : Value} {a : Nat} (ha : NatV S 157 .u32 w va a) :
  Gives Tryz.prog 96 [va] w fun v' w'=>v' = .bool (tst (a = 1)) ∧ Ext w w':=(a00 ha).mono fun _ _ ⟨h,e⟩=>⟨h,e ▸ .refl⟩
theorem cd5 (s : List UInt8) : (¬ DecL (Dgs s) ∨ (NegS s ∧ Dgs s = [48])) ↔ ∀ z,s ≠ Lib.itoa z:=by
 constructor
 ·rintro (h | ⟨h1,h2⟩) z hz
  ·exact h ((az2 s).1 ⟨z,hz⟩).1
  ·exact ((az2 s).1 ⟨z,hz⟩).2 h1 (by rw [h2]; rfl)
 ·intro h
  by_cases hd : DecL (Dgs s)
  ·right
   have h2 : ¬ (NegS s → (Dgs s).head? ≠ some 48):=fun h2=>h _ (ay9 hd h2)
   by_cases hn : NegS s
   ·refine ⟨hn,?_⟩
    have h3 : (Dgs s).head? = some 48:=Classical.byContradiction fun h3=>h2 fun _=>h3
    have h4:=hd.2.2 h3
    match hds : Dgs s,h3,h4 with
    | [c],h3,_=>simp at h3; rw [h3]
   ·exact absurd (fun h3=>absurd h3 hn) h2
  ·exact .inl hd
theorem b80 {b : List UInt8} (h : DecL b) (h0 : b ≠ [48]) (h1 : b ≠ [49]) : 2 ≤ digV b:=by
 have h2:=P0 h
 rcases Nat.lt_or_ge (digV b) 2 with h3 | h3
 ·exfalso
  have h4 : digV b = 0 ∨ digV b = 1:=by omega
  rcases h4 with h4 | h4
  ·rw [h4,Lib.decDigits_one (by decide)] at h2; exact h0 h2.symm
  ·rw [h4,Lib.decDigits_one (by decide)] at h2; exact h1 h2.symm
 ·exact h3
theorem b24 {b : List UInt8} (h : ¬ (DecL b ∧ b ≠ [48] ∧ b ≠ [49])) {d : Nat} (hd : 2 ≤ d) : b ≠ Lib.decDigits d:=by
 rintro rfl
 refine h ⟨V5 d,fun e=>?_,fun e=>?_⟩
 ·have:=congrArg digV e; rw [J1,show digV [48] = 0 from rfl] at this; omega
 ·have:=congrArg digV e; rw [J1,show digV [49] = 1 from rfl] at this; omega
theorem bd5 (s : List UInt8) : (numV s).natAbs = digV (Dgs s) ∧ (numV s < 0 ↔ NegS s ∧ 0 < digV (Dgs s)):=by
 unfold numV
 split
 ·rename_i h; exact ⟨by omega,⟨fun h2=>⟨h,by omega⟩,fun h2=>by omega⟩⟩
 ·rename_i h; exact ⟨by omega,⟨fun h2=>by omega,fun h2=>absurd h2.1 h⟩⟩
def Form2 (s a b : List UInt8) (has : Bool) : Prop:=(has = false ∧ (47 : UInt8) ∉ s ∧ a = s ∧ b = []) ∨ (has = true ∧ s = a ++ 47 :: b ∧ (47 : UInt8) ∉ a)
theorem b03 {s a b : List UInt8} {has : Bool} (h : Form2 s a b has) (hb : (∀ z,a ≠ Lib.itoa z) ∨ (has = true ∧ ¬ (DecL b ∧ b ≠ [48] ∧ b ≠ [49]))) : ∀ q,s ≠ rstr q:=fun q hq=>by
 rcases h with ⟨rfl,h1,rfl,rfl⟩ | ⟨rfl,rfl,h1⟩
 ·rcases hb with hb | ⟨hb,_⟩
  ·exact hb _ ((aj3 h1 q).1 hq).2
  ·cases hb
 ·obtain ⟨h2,h3,h4⟩:=(af3 h1 q).1 hq
  rcases hb with hb | ⟨_,hb⟩
  ·exact hb _ h3
  ·have:=q.den_pos
   exact b24 hb (d:=q.den) (by omega) h4
set_option maxHeartbeats 2000000 in
theorem bu6 {S : Nat → Prop} {w : World} {s : List UInt8} (hS : Up S w) (hl : s.length ≤ 140737488351232) :
  Gives Tryz.prog 58 [strV s] w fun v' w'=>Ext w w' ∧
   ((70000 < s.length ∧ v' = .tuple #[.agg #[.bool false,.slice none 0 0,.slice none 0 0],.int .i64 2]) ∨ (s.length ≤ 70000 ∧ (∀ q,s ≠ rstr q) ∧ v' = .tuple #[.agg #[.bool false,.slice none 0 0,.slice none 0 0],.int .i64 10]) ∨ (s.length ≤ 70000 ∧ ∃ q,s = rstr q ∧ Tried S w' v' q)):=by
 refine j7 Tryz.func58 rfl rfl rfl ?_
 have k : Ext w w:=.refl
 repeat (first | refine a7 ?_ | refine b8 ?_)
 refine p6 (cs:=[.bool false,.slice none 0 0,.slice none 0 0]) rfl ?_
 intro w_1 g k_1 hg hs_1
 have hsg : w.heap.size ≤ g:=Nat.le_trans k.size hs_1
 clear hs_1
 replace hS:=hS.to k_1
 replace k:=k.trans k_1
 clear k_1
 repeat (first | refine al2 rfl ?_ | refine a7 ?_ | refine d8 ?_ | refine b8 ?_ | refine d7 (by conv=>(lhs; whnf)) ?_ | refine c7 (by conv=>(lhs; whnf)) ?_ | refine b9 ?_ | refine d6 ?_ | refine N3 rfl rfl ?_)
 try refine i6 ?_
 refine j3 rfl ?_ ?_ <;> intro hlong
 ·repeat (first | refine a7 ?_ | refine b8 ?_)
  refine ag2 (cs:=[.bool false,.slice none 0 0,.slice none 0 0]) rfl ?_
  refine C6 rfl (by conv=>(lhs; whnf)) hg rfl rfl rfl rfl ?_
  intro w_2 k_2 h_2
  replace hS:=hS.to k_2
  replace k : Ext w w_2:=k.past k_2 hsg
  replace hg:=h_2
  clear h_2 k_2
  repeat (first | refine c7 (by conv=>(lhs; whnf)) ?_ | refine b9 ?_ | refine d6 ?_ | refine wp_ret ?_ | refine p8 ?_)
  exact ar5 rfl (n8 (by conv=>(lhs; whnf)) hg rfl) (A2 (by conv=>(lhs; whnf))) ⟨k,.inl ⟨by omega,rfl⟩⟩
 ·repeat (first | refine a7 ?_ | refine b8 ?_ | refine d7 (by conv=>(lhs; whnf)) ?_ | refine wp_skip ?_)
  refine i7 (cn9 (s:=s) (by omega)) rfl ?_
  rintro v_2 w_2 ⟨k_2,c1⟩
  replace hS:=hS.to k_2
  replace hg:=hg.to k_2
  replace k:=k.trans k_2
  clear k_2
  obtain ⟨a,b,has,rfl,hf⟩ : ∃ a b has,v_2 = .tuple #[strV a,strV b,.bool has] ∧ Form2 s a b has:=by
   rcases c1 with ⟨h1,rfl⟩ | ⟨a,b,rfl,h1,rfl⟩
   ·exact ⟨s,[],false,rfl,.inl ⟨rfl,h1,rfl,rfl⟩⟩
   ·exact ⟨a,b,true,rfl,.inr ⟨rfl,rfl,h1⟩⟩
  have hal : a.length ≤ 70000 ∧ b.length ≤ 70000:=by
   rcases hf with ⟨_,_,rfl,rfl⟩ | ⟨_,rfl,_⟩
   ·exact ⟨by omega,by simp⟩
   ·simp at hlong; exact ⟨by omega,by omega⟩
  clear c1
  have hDl:=ch2 a
  repeat (first | refine a7 ?_ | refine b8 ?_ | refine d7 (by conv=>(lhs; whnf)) ?_ | refine c7 (by conv=>(lhs; whnf)) ?_ | refine b9 ?_ | refine A4 rfl rfl ?_)
  refine i7 (a86 (s:=a)) rfl ?_
  rintro v3 w3 ⟨rfl,rfl⟩
  repeat (first | refine a7 ?_ | refine d8 ?_ | refine b8 ?_ | refine d7 (by conv=>(lhs; whnf)) ?_ | refine c7 (by conv=>(lhs; whnf)) ?_ | refine b9 ?_ | refine A4 rfl rfl ?_)
  refine i7 (ac6 (s:=Dgs a) (by omega)) rfl ?_
  rintro v_3 w_3 ⟨rfl,k_3⟩
  replace hS:=hS.to k_3
  replace hg:=hg.to k_3
  replace k:=k.trans k_3
  clear k_3
  repeat (first | refine d7 (by conv=>(lhs; whnf)) ?_ | refine ak0 rfl ?_)
  have hba:=cd5 a
  have hgd : ¬ (∀ z,a ≠ Lib.itoa z) → DecL (Dgs a):=fun hbad=>Classical.byContradiction fun h=>hbad (hba.1 (.inl h))
  refine a55 [(27,50)] (fun ρ w'=>ρ 50 = .bool (tst ((∀ z,a ≠ Lib.itoa z) ∨ (has = true ∧ ¬ (DecL b ∧ b ≠ [48] ∧ b ≠ [49])))) ∧ Ext w_3 w') ?_ ?_
  ·by_cases hbad : ∀ z,a ≠ Lib.itoa z
   ·by_cases hd : DecL (Dgs a)
    ·rcases hba.2 hbad with h | ⟨h1,h2⟩
     ·exact absurd hd h
     ·rw [j6 (show ¬ ¬ DecL (Dgs a) from fun h=>h hd),l9 h1]
      repeat (first | refine d7 (by conv=>(lhs; whnf)) ?_ | refine n9 rfl rfl ?_)
      refine X1 (b:=[48]) rfl rfl ?_
      rw [l9 h2]
      repeat (first | refine d7 (by conv=>(lhs; whnf)) ?_ | refine b9 ?_ | refine d6 ?_ | refine n9 rfl rfl ?_ | refine q6 rfl rfl rfl ?_ | refine H0 rfl rfl ?_ | refine r6 rfl (by conv=>(lhs; whnf)) ?_ | refine o9 rfl (by conv=>(lhs; whnf)) ?_)
      exact ⟨by (repeat (first | refine j0 rfl ?_ | exact f3 | refine j1 rfl ?_ | exact d9 | refine l7 rfl ?_ | refine j8 rfl ?_)),by rw [l9 (Or.inl hbad)]; rfl,.refl⟩
    ·rw [l9 hd]
     repeat (first | refine d7 (by conv=>(lhs; whnf)) ?_ | refine b9 ?_ | refine d6 ?_ | refine q6 rfl rfl rfl ?_ | refine H0 rfl rfl ?_ | refine r6 rfl (by conv=>(lhs; whnf)) ?_)
     exact ⟨by (repeat (first | refine j0 rfl ?_ | exact f3 | refine j1 rfl ?_ | exact d9 | refine l7 rfl ?_ | refine j8 rfl ?_)),by rw [l9 (Or.inl hbad)]; rfl,.refl⟩
   ·rw [j6 (show ¬ ¬ DecL (Dgs a) from fun h=>h (hgd hbad))]
    by_cases hn : NegS a
    ·have h48 : ¬ Dgs a = [48]:=fun h=>hbad (hba.1 (.inr ⟨hn,h⟩))
     rw [l9 hn]
     repeat (first | refine d7 (by conv=>(lhs; whnf)) ?_ | refine n9 rfl rfl ?_)
     refine X1 (b:=[48]) rfl rfl ?_
     rw [j6 h48]
     cases has
     ·repeat (first | refine d7 (by conv=>(lhs; whnf)) ?_ | refine b9 ?_ | refine d6 ?_ | refine n9 rfl rfl ?_ | refine q6 rfl rfl rfl ?_ | refine H0 rfl rfl ?_ | refine r6 rfl (by conv=>(lhs; whnf)) ?_ | refine o9 rfl (by conv=>(lhs; whnf)) ?_)
      exact ⟨by (repeat (first | refine j0 rfl ?_ | exact f3 | refine j1 rfl ?_ | exact d9 | refine l7 rfl ?_ | refine j8 rfl ?_)),congrArg Value.bool (j6 (fun h=>h.elim hbad fun h2=>Bool.noConfusion h2.1)).symm,.refl⟩
     ·repeat (first | refine d7 (by conv=>(lhs; whnf)) ?_ | refine n9 rfl rfl ?_ | refine r6 rfl (by conv=>(lhs; whnf)) ?_ | refine o9 rfl (by conv=>(lhs; whnf)) ?_)
      refine i7 (ac6 (s:=b) (by omega)) rfl ?_
      rintro v5 w5 ⟨rfl,k5⟩
      by_cases hd : DecL b
      ·rw [l9 hd]
       repeat (first | refine d7 (by conv=>(lhs; whnf)) ?_ | refine n9 rfl rfl ?_ | refine af8 rfl ?_)
       refine X1 (b:=[48]) rfl rfl ?_
       by_cases h0 : b = [48]
       ·rw [l9 h0]
        repeat (first | refine d7 (by conv=>(lhs; whnf)) ?_ | refine b9 ?_ | refine d6 ?_ | refine n9 rfl rfl ?_ | refine q6 rfl rfl rfl ?_ | refine r6 rfl (by conv=>(lhs; whnf)) ?_ | refine o9 rfl (by conv=>(lhs; whnf)) ?_)
        exact ⟨by (repeat (first | refine j0 rfl ?_ | exact f3 | refine j1 rfl ?_ | exact d9 | refine l7 rfl ?_ | refine j8 rfl ?_)),congrArg Value.bool (l9 (Or.inr ⟨rfl,fun h=>h.2.1 h0⟩)).symm,k5⟩
       ·rw [j6 h0]
        repeat (first | refine d7 (by conv=>(lhs; whnf)) ?_ | refine n9 rfl rfl ?_ | refine o9 rfl (by conv=>(lhs; whnf)) ?_)
        refine X1 (b:=[49]) rfl rfl ?_
        repeat (first | refine b9 ?_ | refine d6 ?_ | refine n9 rfl rfl ?_ | refine r6 rfl (by conv=>(lhs; whnf)) ?_ | refine o9 rfl (by conv=>(lhs; whnf)) ?_)
        refine ⟨by (repeat (first | refine j0 rfl ?_ | exact f3 | refine j1 rfl ?_ | exact d9 | refine l7 rfl ?_ | refine j8 rfl ?_)),congrArg Value.bool (H1 ?_),k5⟩
        exact ⟨fun h=>Or.inr ⟨rfl,fun h2=>h2.2.2 h⟩,fun h=>Classical.byContradiction fun h2=>h.elim hbad fun h=>h.2 ⟨hd,h0,h2⟩⟩
      ·rw [j6 hd]
       repeat (first | refine d7 (by conv=>(lhs; whnf)) ?_ | refine b9 ?_ | refine d6 ?_ | refine n9 rfl rfl ?_ | refine q6 rfl rfl rfl ?_ | refine r6 rfl (by conv=>(lhs; whnf)) ?_ | refine o9 rfl (by conv=>(lhs; whnf)) ?_ | refine af8 rfl ?_)
       exact ⟨by (repeat (first | refine j0 rfl ?_ | exact f3 | refine j1 rfl ?_ | exact d9 | refine l7 rfl ?_ | refine j8 rfl ?_)),congrArg Value.bool (l9 (Or.inr ⟨rfl,fun h=>hd h.1⟩)).symm,k5⟩
    ·rw [j6 hn]
     cases has
     ·repeat (first | refine d7 (by conv=>(lhs; whnf)) ?_ | refine b9 ?_ | refine d6 ?_ | refine n9 rfl rfl ?_ | refine q6 rfl rfl rfl ?_ | refine H0 rfl rfl ?_ | refine o9 rfl (by conv=>(lhs; whnf)) ?_)
      exact ⟨by (repeat (first | refine j0 rfl ?_ | exact f3 | refine j1 rfl ?_ | exact d9 | refine l7 rfl ?_ | refine j8 rfl ?_)),congrArg Value.bool (j6 (fun h=>h.elim hbad fun h2=>Bool.noConfusion h2.1)).symm,.refl⟩
     ·repeat (first | refine d7 (by conv=>(lhs; whnf)) ?_ | refine n9 rfl rfl ?_ | refine q6 rfl rfl rfl ?_ | refine o9 rfl (by conv=>(lhs; whnf)) ?_)
      refine i7 (ac6 (s:=b) (by omega)) rfl ?_
      rintro v5 w5 ⟨rfl,k5⟩
      by_cases hd : DecL b
      ·rw [l9 hd]
       repeat (first | refine d7 (by conv=>(lhs; whnf)) ?_ | refine n9 rfl rfl ?_ | refine af8 rfl ?_)
       refine X1 (b:=[48]) rfl rfl ?_
       by_cases h0 : b = [48]
       ·rw [l9 h0]
        repeat (first | refine d7 (by conv=>(lhs; whnf)) ?_ | refine b9 ?_ | refine d6 ?_ | refine n9 rfl rfl ?_ | refine q6 rfl rfl rfl ?_ | refine r6 rfl (by conv=>(lhs; whnf)) ?_ | refine o9 rfl (by conv=>(lhs; whnf)) ?_)
        exact ⟨by (repeat (first | refine j0 rfl ?_ | exact f3 | refine j1 rfl ?_ | exact d9 | refine l7 rfl ?_ | refine j8 rfl ?_)),congrArg Value.bool (l9 (Or.inr ⟨rfl,fun h=>h.2.1 h0⟩)).symm,k5⟩
       ·rw [j6 h0]
        repeat (first | refine d7 (by conv=>(lhs; whnf)) ?_ | refine n9 rfl rfl ?_ | refine o9 rfl (by conv=>(lhs; whnf)) ?_)
        refine X1 (b:=[49]) rfl rfl ?_
        repeat (first | refine b9 ?_ | refine d6 ?_ | refine n9 rfl rfl ?_ | refine r6 rfl (by conv=>(lhs; whnf)) ?_ | refine o9 rfl (by conv=>(lhs; whnf)) ?_)
        refine ⟨by (repeat (first | refine j0 rfl ?_ | exact f3 | refine j1 rfl ?_ | exact d9 | refine l7 rfl ?_ | refine j8 rfl ?_)),congrArg Value.bool (H1 ?_),k5⟩
        exact ⟨fun h=>Or.inr ⟨rfl,fun h2=>h2.2.2 h⟩,fun h=>Classical.byContradiction fun h2=>h.elim hbad fun h=>h.2 ⟨hd,h0,h2⟩⟩
      ·rw [j6 hd]
       repeat (first | refine d7 (by conv=>(lhs; whnf)) ?_ | refine b9 ?_ | refine d6 ?_ | refine n9 rfl rfl ?_ | refine q6 rfl rfl rfl ?_ | refine r6 rfl (by conv=>(lhs; whnf)) ?_ | refine o9 rfl (by conv=>(lhs; whnf)) ?_ | refine af8 rfl ?_)
       exact ⟨by (repeat (first | refine j0 rfl ?_ | exact f3 | refine j1 rfl ?_ | exact d9 | refine l7 rfl ?_ | refine j8 rfl ?_)),congrArg Value.bool (l9 (Or.inr ⟨rfl,fun h=>hd h.1⟩)).symm,k5⟩
  rintro u5 w5 ⟨h50,k5⟩
  refine j5 50 h50 ?_
  clear h50
  replace hS:=hS.to k5
  replace hg:=hg.to k5
  replace k:=k.trans k5
  clear k5
  skip
  refine j3 rfl ?_ ?_ <;> intro hb0
  ·have hq:=b03 hf hb0
   repeat (first | refine a7 ?_ | refine b8 ?_)
   refine ag2 (cs:=[.bool false,.slice none 0 0,.slice none 0 0]) rfl ?_
   refine C6 rfl (by conv=>(lhs; whnf)) hg rfl rfl rfl rfl ?_
   intro w_5 k_5 h_5
   replace hS:=hS.to k_5
   replace k : Ext w w_5:=k.past k_5 hsg
   replace hg:=h_5
   clear h_5 k_5
   repeat (first | refine c7 (by conv=>(lhs; whnf)) ?_ | refine b9 ?_ | refine d6 ?_ | refine wp_ret ?_ | refine p8 ?_)
   exact ar5 rfl (n8 (by conv=>(lhs; whnf)) hg rfl) (A2 (by conv=>(lhs; whnf))) ⟨k,.inr (.inl ⟨by omega,hq,rfl⟩)⟩
  ·have hbad : ¬ ∀ z,a ≠ Lib.itoa z:=fun h=>hb0 (.inl h)
   have hb2 : ¬ (has = true ∧ ¬ (DecL b ∧ b ≠ [48] ∧ b ≠ [49])):=fun h=>hb0 (.inr h)
   have hgood : DecL (Dgs a) ∧ (NegS a → (Dgs a).head? ≠ some 48):=(az2 a).1 (Classical.byContradiction fun h=>hbad fun z hz=>h ⟨z,hz⟩)
   have hav : a = Lib.itoa (numV a):=ay9 hgood.1 hgood.2
   obtain ⟨hnv1,hnv2⟩:=bd5 a
   obtain ⟨d,hd⟩ : ∃ d,d = if has = true then digV b else 0:=⟨_,rfl⟩
   have hparts : Parts s (numV a) d:=by
    rcases hf with ⟨rfl,h1,rfl,rfl⟩ | ⟨rfl,rfl,h1⟩
    ·exact .inl ⟨by rw [hd,if_neg (by decide)],h1,hav⟩
    ·have h2 : DecL b ∧ b ≠ [48] ∧ b ≠ [49]:=Classical.byContradiction fun h=>hb2 ⟨rfl,h⟩
     rw [if_pos rfl] at hd
     refine .inr ⟨by rw [hd]; exact b80 h2.1 h2.2.1 h2.2.2,a,h1,?_,hav⟩
     rw [hd,P0 h2.1]
   have hbd : has = true → ∀ c ∈ b,Dig c:=fun h=>(Classical.byContradiction (p:=DecL b) fun h2=>hb2 ⟨h,fun h3=>h2 h3.1⟩).2.1
   have hls : dl d ≤ 7778:=by
    rw [hd]
    split
    ·rename_i h
     exact bz8 (bk1 (hbd h)) (by omega)
    ·rw [ca7]
     omega
   have hln : zl (numV a) ≤ 7778:=b35 hav (by omega)
   have hlk : dl (denK d) ≤ 7778:=by
    unfold denK
    split
    ·exact Nat.le_trans (F8 (k:=1) (by decide)) (by decide)
    ·exact hls
   repeat (first | refine a7 ?_ | refine b8 ?_ | refine d7 (by conv=>(lhs; whnf)) ?_ | refine wp_skip ?_)
   refine i7 (a27 hS hgood.1.2.1 (by omega)) rfl ?_
   rintro v_5 w_5 ⟨k_5,h1⟩
   replace hS:=hS.to k_5
   replace hg:=hg.to k_5
   replace k:=k.trans k_5
   clear k_5
   refine i7 (M6 (p:=NegS a) (n:=digV (Dgs a)) (numV a) h1 hnv1 hnv2) rfl ?_
   rintro v_6 w_6 ⟨k_6,m,rfl,h2⟩
   replace hS:=hS.to k_6
   replace hg:=hg.to k_6
   replace h1:=h1.to k_6
   replace k:=k.trans k_6
   clear k_6
   refine ba2 (by conv=>(lhs; whnf)) ?_
   skip
   refine co8 (zs:=[.bool false,.slice none 0 0,.slice none 0 0]) (us:=[.bool (tst (numV a < 0)),m,.slice none 0 0]) rfl (fun _=>rfl) rfl rfl (b63 rfl h2.one rfl) ?_
   intro w_7 g9 k_7 hs_7 hg9
   have hsg9 : w.heap.size ≤ g9:=Nat.le_trans k.size hs_7
   have ne_g_g9 : g ≠ g9:=fun e=>by have:=hg.lt; omega
   clear hs_7
   replace hS:=hS.to k_7
   replace hg:=hg.to k_7
   replace h2:=h2.to k_7
   replace k:=k.trans k_7
   clear k_7
   have hgg : g ≠ g9:=ne_g_g9
   repeat (first | refine a7 ?_ | refine d8 ?_ | refine b8 ?_ | refine d7 (by conv=>(lhs; whnf)) ?_ | refine b9 ?_ | refine d6 ?_)
   first | refine m6 ?_ | refine C4 ?_ | refine B6 ?_ | skip
   refine Z5 [(58,60)] (fun ρ w'=>∃ bt,Up S w' ∧ Ext w w' ∧ Blk w' g 42 [.bool false,.slice none 0 0,.slice none 0 0] ∧ Blk w' g9 42 [.bool (tst (numV a < 0)),m,bt] ∧ NatV S 157 .u32 w' m (numV a).natAbs ∧ NatV S 157 .u32 w' bt d) ?_ ?_
   ·cases has
    ·rw [if_neg (by decide)] at hd
     subst hd
     repeat (first | refine d6 ?_ | refine wp_skip ?_ | refine wp_cond_false rfl ?_)
     exact ⟨by (repeat (first | refine j0 rfl ?_ | exact f3 | refine j1 rfl ?_ | exact d9 | refine l7 rfl ?_ | refine j8 rfl ?_)),_,hS,k,hg,hg9,h2,.nil⟩
    ·rw [if_pos rfl] at hd
     subst hd
     repeat (first | refine b8 ?_ | refine d7 (by conv=>(lhs; whnf)) ?_ | refine wp_cond_true rfl ?_)
     refine i7 (a27 hS (hbd rfl) (by omega)) rfl ?_
     rintro v_8 w_8 ⟨k_8,h3⟩
     replace hS:=hS.to k_8
     replace hg:=hg.to k_8
     replace h2:=h2.to k_8
     replace hg9:=hg9.to k_8
     replace k:=k.trans k_8
     clear k_8
     repeat (first | refine j4 rfl ?_)
     refine G4 rfl rfl hg9 (show 0 + 2 < 3 by omega) h3.one ?_
     intro w_9 k_9 h_9
     replace hS:=hS.to k_9
     replace hg:=hg.wr k_9 (by omega)
     replace h2:=h2.wrT k_9 hg9 (by decide)
     replace h3:=h3.wrT k_9 hg9 (by decide)
     replace k : Ext w w_9:=k.past k_9 hsg9
     replace hg9:=h_9
     clear h_9 k_9
     repeat (first | refine b9 ?_ | refine d6 ?_)
     exact ⟨by (repeat (first | refine j0 rfl ?_ | exact f3 | refine j1 rfl ?_ | exact d9 | refine l7 rfl ?_ | refine j8 rfl ?_)),_,hS,k,hg,hg9,h2,h3⟩
   rintro u6 w6 ⟨bt,hS,k,hg,hg9,h2,h3⟩
   have hm1:=h2.one
   have hb1:=h3.one
   repeat (first | refine a7 ?_ | refine d8 ?_)
   refine s7 7 (by kernel_rfl) (by kernel_rfl) ?_
   apply c8
   ·intro x w1 k1 hd
    refine n6 rfl (hg9.to k1) rfl ?_
    refine b9 ?_
    exact j2
   refine c8 (e:=natE S 157 .u32 (denK d)) ?_ ?_
   ·intro x w1 k1 hd
    refine i7 (cg2 (x:=.bool (tst (numV a < 0))) (m:=m) (b:=bt) (hS.to k1) rfl hm1 (h3.to k1)) rfl ?_
    rintro v2 w2 ⟨k2,h2⟩
    exact b9 (s8 k2 h2)
   apply c8
   ·intro x w1 k1 hd
    refine j4 rfl ?_
    refine b9 ?_
    exact j2
   apply c8
   ·intro x w1 k1 hd
    refine j4 rfl ?_
    refine b9 ?_
    exact j2
   apply c8
   ·intro x w1 k1 hd
    refine f5 rfl (hg9.to k1) rfl ?_
    refine b9 ?_
    exact j2
   refine c8 (e:=natE S 157 .u32 (Nat.gcd (denK d) (numV a).natAbs)) ?_ ?_
   ·intro x w1 k1 hd
    refine i7 (cf0 (hS.to k1) hd.2.2.2.1 (h2.to k1) (by omega) (Nat.le_trans hln (by decide))) rfl ?_
    rintro v2 w2 ⟨k2,h2⟩
    exact b9 (s8 k2 h2)
   refine c8 (e:=Ent.eq (.bool (tst (Nat.gcd (denK d) (numV a).natAbs = 1)))) ?_ ?_
   ·intro x w1 k1 hd
    refine i7 (cb6 (S:=S) hd.1) rfl ?_
    rintro v2 w2 ⟨rfl,k2⟩
    exact b9 (cm5 (rfl) k2)
   refine C5 (D6 ?_)
   intro x w7 k7 _
   replace hS:=hS.to k7
   replace hg:=hg.to k7
   replace hg9:=hg9.to k7
   replace h2:=h2.to k7
   replace h3:=h3.to k7
   replace k:=k.trans k7
   clear k7
   repeat (first | refine b9 ?_ | refine d6 ?_ | refine ak0 rfl ?_)
   refine j3 rfl ?_ ?_ <;> intro hgc
   ·have hq:=br3 hparts hgc
    repeat (first | refine a7 ?_ | refine b8 ?_)
    refine ag2 (cs:=[.bool false,.slice none 0 0,.slice none 0 0]) rfl ?_
    refine C6 rfl (by conv=>(lhs; whnf)) hg rfl rfl rfl rfl ?_
    intro w_9 k_9 h_9
    replace hS:=hS.to k_9
    replace hg9:=hg9.wr k_9 (by omega)
    replace h2:=h2.wrT k_9 hg (by decide)
    replace h3:=h3.wrT k_9 hg (by decide)
    replace k : Ext w w_9:=k.past k_9 hsg
    replace hg:=h_9
    clear h_9 k_9
    repeat (first | refine c7 (by conv=>(lhs; whnf)) ?_ | refine b9 ?_ | refine d6 ?_ | refine wp_ret ?_ | refine p8 ?_)
    exact ar5 rfl (n8 (by conv=>(lhs; whnf)) hg rfl) (A2 (by conv=>(lhs; whnf))) ⟨k,.inr (.inl ⟨by omega,hq,rfl⟩)⟩
   ·obtain ⟨q,hq1,hq2,hq3⟩:=bg7 hparts (Classical.not_not.1 hgc)
    have hq : RatV S w7 (.agg #[.bool (tst (numV a < 0)),m,bt]) q:=by
     rw [← hq1]
     refine ⟨m,bt,rfl,?_,?_⟩
     ·rw [hq1]; exact h2
     ·rw [hq2]; exact h3
    repeat (first | refine n6 rfl hg9 rfl ?_ | refine a7 ?_ | refine b8 ?_ | refine wp_skip ?_ | refine aa0 ?_)
    refine i7 (Y0 hS hq) rfl ?_
    rintro v_9 w_9 ⟨k_9,r,e,rfl,hor⟩
    replace hS:=hS.to k_9
    replace hg:=hg.to k_9
    replace k:=k.trans k_9
    clear k_9
    rcases hor with ⟨hf,rfl,mr,br,rfl,hm,hb⟩ | ⟨hf,rfl,mr,br,rfl,hm,hb⟩
    ·skip
     repeat (first | refine A4 rfl rfl ?_)
     refine C6 rfl rfl hg rfl rfl hm.one hb.one ?_
     intro w_10 k_10 h_10
     replace hS:=hS.to k_10
     replace hm:=hm.wrT k_10 hg (by decide)
     replace hb:=hb.wrT k_10 hg (by decide)
     replace k : Ext w w_10:=k.past k_10 hsg
     replace hg:=h_10
     clear h_10 k_10
     repeat (first | refine c7 (by conv=>(lhs; whnf)) ?_ | refine b9 ?_ | refine d6 ?_ | refine wp_ret ?_)
     exact ar5 rfl (n8 (by conv=>(lhs; whnf)) hg rfl) (A2 (by conv=>(lhs; whnf))) ⟨k,.inr (.inr ⟨by omega,q,hq3,_,_,rfl,.inl ⟨hf,rfl,mr,br,rfl,hm,hb⟩⟩)⟩
    ·skip
     repeat (first | refine A4 rfl rfl ?_)
     refine C6 rfl rfl hg rfl rfl hm.one hb.one ?_
     intro w_10 k_10 h_10
     replace hS:=hS.to k_10
     replace hm:=hm.wrT k_10 hg (by decide)
     replace hb:=hb.wrT k_10 hg (by decide)
     replace k : Ext w w_10:=k.past k_10 hsg
     replace hg:=h_10
     clear h_10 k_10
     repeat (first | refine c7 (by conv=>(lhs; whnf)) ?_ | refine b9 ?_ | refine d6 ?_ | refine wp_ret ?_)
     exact ar5 rfl (n8 (by conv=>(lhs; whnf)) hg rfl) (A2 (by conv=>(lhs; whnf))) ⟨k,.inr (.inr ⟨by omega,q,hq3,_,_,rfl,.inr ⟨hf,rfl,mr,br,rfl,hm,hb⟩⟩)⟩
end Go.Proofs.YtpheooheinfbgaaGreatDoor
end
section
set_option linter.unusedVariables false
set_option linter.unusedSimpArgs false
namespace Go.Proofs.YtpheooheinfbgaaGreatDoor
open Go Go.RowKit
theorem l7 {W : List (Nat × Nat)} {ρ ρ' : Fr} {d : Nat} {v : Value} (hd : inW W d = true) (h : Agree W ρ ρ') : Agree W (upd ρ d v) ρ':=by
 intro i hi
 rw [h i hi,H7]
 cases hb : Nat.beq i d with
 | false=>rfl
 | true=>rw [Nat.eq_of_beq_eq_true hb,hd] at hi; cases hi
theorem ap5 (z : Int) {d : Nat} (hd : 0 < d) : (mkRat z d).num.natAbs ≤ z.natAbs ∧ (mkRat z d).den ≤ d:=by
 obtain ⟨h1,h2,_,_⟩:=U1 z hd
 rw [h1,h2]
 exact ⟨Nat.div_le_self ..,Nat.div_le_self ..⟩
theorem A8 {a b : Rat} {n m : Nat} (ha : rl a n) (hb : rl b m) : rl (a * b) (n + m):=by
 rw [aj9]
 obtain ⟨h1,h2⟩:=ap5 (a.num * b.num) (Nat.mul_pos a.den_pos b.den_pos)
 have h3:=U7 a.num.natAbs b.num.natAbs
 have h4:=U7 a.den b.den
 rw [Int.natAbs_mul] at h1
 obtain ⟨a1,a2⟩:=ha
 obtain ⟨b1,b2⟩:=hb
 exact ⟨Nat.le_trans (E1 h1) (by omega),Nat.le_trans (E1 h2) (by omega)⟩
theorem o5 {a : Rat} {n m : Nat} (h : rl a n) (hm : n ≤ m) : rl a m:=⟨Nat.le_trans h.1 hm,Nat.le_trans h.2 hm⟩
end Go.Proofs.YtpheooheinfbgaaGreatDoor
end
section
set_option linter.unusedVariables false
set_option linter.unusedSimpArgs false
namespace Go.Proofs.YtpheooheinfbgaaGreatDoor
open Go Go.RowKit
theorem ar1 {a b : Rat} {n m : Nat} (ha : rl a n) (hb : rl b m) : rl (a + b) (n + m + 1):=by
 rw [Rat.add_def']
 obtain ⟨h1,h2⟩:=ap5 (a.num * b.den + b.num * a.den) (Nat.mul_pos a.den_pos b.den_pos)
 have h3:=ay2 (a.num * b.den) (b.num * a.den)
 have h4:=N8 a.num b.den
 have h5:=N8 b.num a.den
 have h6:=U7 a.den b.den
 have h7 : zl (a.den : Int) = dl a.den:=by unfold zl; rw [Int.natAbs_natCast]
 have h8 : zl (b.den : Int) = dl b.den:=by unfold zl; rw [Int.natAbs_natCast]
 obtain ⟨a1,a2⟩:=ha
 obtain ⟨b1,b2⟩:=hb
 have a1' : zl a.num ≤ n:=a1
 have b1' : zl b.num ≤ m:=b1
 refine ⟨Nat.le_trans (E1 h1) ?_,Nat.le_trans (E1 h2) (by omega)⟩
 show zl _ ≤ _
 omega
theorem ai3 {a : Rat} {n : Nat} (ha : rl a n) : rl (-a) n:=by
 refine ⟨?_,?_⟩
 ·rw [Rat.neg_num,Int.natAbs_neg]; exact ha.1
 ·rw [Rat.neg_den]; exact ha.2
theorem bc9 {a b : Rat} {n m : Nat} (ha : rl a n) (hb : rl b m) : rl (a - b) (n + m + 1):=by
 rw [Rat.sub_eq_add_neg]
 exact ar1 ha (ai3 hb)
theorem ak8 {a b : Rat} {n m : Nat} (ha : rl a n) (hb : rl b m) (hb0 : b.num ≠ 0) : rl (a / b) (n + m):=by
 rw [ap6 a b hb0]
 obtain ⟨h1,h2⟩:=ap5 (a.num * b.den * b.num.sign) (d:=a.den * b.num.natAbs) (Nat.mul_pos a.den_pos (by omega))
 rw [a35 a b hb0] at h1
 have h4:=U7 a.num.natAbs b.den
 have h6:=U7 a.den b.num.natAbs
 obtain ⟨a1,a2⟩:=ha
 obtain ⟨b1,b2⟩:=hb
 exact ⟨Nat.le_trans (E1 h1) (by omega),Nat.le_trans (E1 h2) (by omega)⟩
def DoneOk (x : Rat) (e : Int) (q : Rat) : Prop:=(Fits q ∧ e = 0 ∧ x = q) ∨ (¬ Fits q ∧ e = 11 ∧ x = 0)
end Go.Proofs.YtpheooheinfbgaaGreatDoor
end
section
set_option linter.unusedVariables false
namespace Go.Proofs.YtpheooheinfbgaaGreatDoor
open Go
theorem cn6 (a : Rat) : (0 : Rat) / a = 0:=by rw [Rat.div_def,Rat.zero_mul]
@[ext] structure T3 where
 x : Rat
 y : Rat
 z : Rat
namespace T3
def dot (p q : T3) : Rat:=p.x * q.x + p.y * q.y + p.z * q.z
def cross (p q : T3) : T3:=⟨p.y * q.z - p.z * q.y,p.z * q.x - p.x * q.z,p.x * q.y - p.y * q.x⟩
def None (p : T3) : Prop:=p.x = 0 ∧ p.y = 0 ∧ p.z = 0
instance (p : T3) : Decidable p.None:=by unfold None; exact inferInstance
def lead (p : T3) : Rat:=if p.x ≠ 0 then p.x else if p.y ≠ 0 then p.y else p.z
def over (p : T3) (k : Rat) : T3:=⟨p.x / k,p.y / k,p.z / k⟩
def normal (p : T3) : T3:=p.over p.lead
theorem lead_ne {p : T3} (h : ¬ p.None) : p.lead ≠ 0:=by
 unfold lead
 unfold None at h
 split
 ·assumption
 ·split
  ·assumption
  ·grind
def Same (p q : T3) : Prop:=(p.cross q).None
def Flat (p q r : T3) : Prop:=(p.cross q).dot r = 0
instance (p q : T3) : Decidable (Same p q):=by unfold Same; exact inferInstance
instance (p q r : T3) : Decidable (Flat p q r):=by unfold Flat; exact inferInstance
theorem normal_none {p : T3} : p.normal.None ↔ p.None:=by
 constructor
 ·intro h
  by_cases hn : p.None
  ·exact hn
  ·have hl:=lead_ne hn
   obtain ⟨h1,h2,h3⟩:=h
   simp only [normal,over] at h1 h2 h3
   refine ⟨?_,?_,?_⟩ <;> grind
 ·rintro ⟨h1,h2,h3⟩
  simp [normal,over,None,h1,h2,h3,cn6]
end T3
def tl (p : T3) (n : Nat) : Prop:=rl p.x n ∧ rl p.y n ∧ rl p.z n
theorem H4 {p : T3} {m n : Nat} (h : tl p m) (k : m ≤ n) : tl p n:=⟨o5 h.1 k,o5 h.2.1 k,o5 h.2.2 k⟩
theorem E5 {p q : T3} {m n : Nat} (hp : tl p m) (hq : tl q n) : tl (p.cross q) (2 * (m + n) + 1):=
 ⟨o5 (bc9 (A8 hp.2.1 hq.2.2) (A8 hp.2.2 hq.2.1)) (by omega),o5 (bc9 (A8 hp.2.2 hq.1) (A8 hp.1 hq.2.2)) (by omega),o5 (bc9 (A8 hp.1 hq.2.1) (A8 hp.2.1 hq.1)) (by omega)⟩
theorem a56 {a b : Nat} (h : a ≤ b) : dl a ≤ dl b:=F8 (Nat.lt_of_le_of_lt h (y7 b))
theorem ar2 {a c : Int} {n : Nat} (ha : zl a ≤ n) (hc : zl c ≤ n) (hn : 1 ≤ n) : rl ((a : Rat) / (c : Rat)) n:=by
 by_cases h : c = 0
 ·subst h
  rw [show ((0 : Int) : Rat) = 0 from rfl,Rat.div_def,Rat.inv_zero,Rat.mul_zero]
  exact ⟨F8 (show 0 < 1000000000 ^ n from Nat.pow_pos (by decide)),Nat.le_trans (F8 (k:=1) (show 1 < 1000000000 ^ 1 by decide)) hn⟩
 ·have h1 : ((c : Int) : Rat).num ≠ 0:=h
  rw [ap6 _ _ h1]
  show rl (mkRat (a * (1 : Nat) * c.sign) (1 * c.natAbs)) n
  rw [Nat.one_mul]
  have hp : 0 < c.natAbs:=by omega
  obtain ⟨e1,e2,_,_⟩:=U1 (a * (1 : Nat) * c.sign) hp
  have e3 : (a * (1 : Nat) * c.sign).natAbs = a.natAbs:=by
   rw [Int.natAbs_mul,Int.natAbs_mul,Int.natAbs_sign_of_ne_zero h]
   simp
  refine ⟨?_,?_⟩
  ·rw [e1,e3]; exact Nat.le_trans (a56 (Nat.div_le_self _ _)) ha
  ·rw [e2]; exact Nat.le_trans (a56 (Nat.div_le_self _ _)) hc
def il (p : T3) (n : Nat) : Prop:=∃ (k : Rat) (a b c : Int),k ≠ 0 ∧ p = ⟨k * a,k * b,k * c⟩ ∧ zl a ≤ n ∧ zl b ≤ n ∧ zl c ≤ n
theorem zl0 (n : Nat) : zl 0 ≤ n:=F8 (show 0 < 1000000000 ^ n from Nat.pow_pos (by decide))
theorem bu8 {p : T3} {m n : Nat} (h : il p m) (k : m ≤ n) : il p n:=by
 obtain ⟨x,a,b,c,h1,h2,h3,h4,h5⟩:=h
 exact ⟨x,a,b,c,h1,h2,by omega,by omega,by omega⟩
theorem U2 {a b : Int} {m n : Nat} (ha : zl a ≤ m) (hb : zl b ≤ n) : zl (a * b) ≤ m + n:=by
 refine F8 ?_
 rw [Int.natAbs_mul,Nat.pow_add]
 exact Nat.mul_lt_mul'' (Nat.lt_of_lt_of_le (y7 _) (H9 ha)) (Nat.lt_of_lt_of_le (y7 _) (H9 hb))
theorem aw9 {a b : Int} {n : Nat} (ha : zl a ≤ n) (hb : zl b ≤ n) : zl (a - b) ≤ n + 1:=by
 refine F8 ?_
 have h1:=Nat.lt_of_lt_of_le (y7 a.natAbs) (H9 ha)
 have h2:=Nat.lt_of_lt_of_le (y7 b.natAbs) (H9 hb)
 rw [Nat.pow_succ]
 omega
theorem a06 (a : Rat) : a * (a.den : Rat) = (a.num : Rat):=by
 have h : a = Rat.divInt a.num a.den:=by rw [Rat.divInt_ofNat]; exact (Rat.mkRat_self a).symm
 rw [Rat.divInt_eq_div,Rat.intCast_natCast] at h
 have d : (a.den : Rat) ≠ 0:=by have:=a.den_pos; exact fun h=>by have:=Rat.natCast_eq_zero_iff.1 h; omega
 grind
theorem a89 {p : T3} {n : Nat} (h : tl p n) : il p (3 * n):=by
 obtain ⟨⟨h1,h2⟩,⟨h3,h4⟩,⟨h5,h6⟩⟩:=h
 have d1 : (p.x.den : Rat) ≠ 0:=by have:=p.x.den_pos; exact fun h=>by have:=Rat.natCast_eq_zero_iff.1 h; omega
 have d2 : (p.y.den : Rat) ≠ 0:=by have:=p.y.den_pos; exact fun h=>by have:=Rat.natCast_eq_zero_iff.1 h; omega
 have d3 : (p.z.den : Rat) ≠ 0:=by have:=p.z.den_pos; exact fun h=>by have:=Rat.natCast_eq_zero_iff.1 h; omega
 have e1 : p.x * (p.x.den : Rat) = (p.x.num : Rat):=a06 p.x
 have e2 : p.y * (p.y.den : Rat) = (p.y.num : Rat):=a06 p.y
 have e3 : p.z * (p.z.den : Rat) = (p.z.num : Rat):=a06 p.z
 refine ⟨1 / ((p.x.den : Rat) * p.y.den * p.z.den),p.x.num * (p.y.den : Int) * (p.z.den : Int),p.y.num * (p.x.den : Int) * (p.z.den : Int),p.z.num * (p.x.den : Int) * (p.y.den : Int),?_,?_,?_,?_,?_⟩
 ·grind
 ·ext <;> simp only [Rat.intCast_mul,Rat.intCast_natCast] <;> grind
 all_goals
  refine Nat.le_trans (U2 (U2 (m:=n) (n:=n) ?_ ?_) (n:=n) ?_) (by omega) <;> assumption
theorem aq6 {p q : T3} {m n : Nat} (hp : il p m) (hq : il q n) : il (p.cross q) (m + n + 1):=by
 obtain ⟨k,a,b,c,h1,h2,h3,h4,h5⟩:=hp
 obtain ⟨k',a',b',c',h1',h2',h3',h4',h5'⟩:=hq
 refine ⟨k * k',b * c' - c * b',c * a' - a * c',a * b' - b * a',by grind,?_,aw9 (U2 h4 h5') (U2 h5 h4'),aw9 (U2 h5 h3') (U2 h3 h5'),aw9 (U2 h3 h4') (U2 h4 h3')⟩
 rw [h2,h2']
 ext <;> simp only [T3.cross,Rat.intCast_sub,Rat.intCast_mul] <;> grind
theorem aw0 {p : T3} {n : Nat} (h : il p n) : il p.normal n:=by
 by_cases hn : p.None
 ·obtain ⟨h1,h2,h3⟩:=hn
  refine ⟨1,0,0,0,by decide,?_,zl0 n,zl0 n,zl0 n⟩
  ext <;> simp [T3.normal,T3.over,h1,h2,h3,cn6]
 ·have hl:=T3.lead_ne hn
  obtain ⟨k,a,b,c,h1,h2,h3,h4,h5⟩:=h
  refine ⟨k / p.lead,a,b,c,by grind,?_,h3,h4,h5⟩
  have ex : p.x = k * a:=congrArg T3.x h2
  have ey : p.y = k * b:=congrArg T3.y h2
  have ez : p.z = k * c:=congrArg T3.z h2
  ext <;> simp only [T3.normal,T3.over,ex,ey,ez] <;> grind
theorem ab5 {p : T3} {n : Nat} (h : il p n) (hn : 1 ≤ n) : tl p.normal n:=by
 obtain ⟨k,a,b,c,h1,h2,h3,h4,h5⟩:=h
 have key : ∃ l : Int,zl l ≤ n ∧ p.lead = k * l:=by
  have ex : p.x = k * a:=congrArg T3.x h2
  have ey : p.y = k * b:=congrArg T3.y h2
  have ez : p.z = k * c:=congrArg T3.z h2
  unfold T3.lead
  split
  ·exact ⟨a,h3,ex⟩
  ·split
   ·exact ⟨b,h4,ey⟩
   ·exact ⟨c,h5,ez⟩
 obtain ⟨l,hl,el⟩:=key
 have ek : ∀ z : Int,k * (z : Rat) / (k * (l : Rat)) = (z : Rat) / (l : Rat):=fun z=>by
  by_cases h0 : (l : Rat) = 0
  ·rw [h0,Rat.mul_zero,Rat.div_def,Rat.div_def,Rat.inv_zero,Rat.mul_zero,Rat.mul_zero]
  ·grind
 have ex : p.normal.x = (a : Rat) / (l : Rat):=by rw [← ek]; simp only [T3.normal,T3.over,el]; rw [congrArg T3.x h2]
 have ey : p.normal.y = (b : Rat) / (l : Rat):=by rw [← ek]; simp only [T3.normal,T3.over,el]; rw [congrArg T3.y h2]
 have ez : p.normal.z = (c : Rat) / (l : Rat):=by rw [← ek]; simp only [T3.normal,T3.over,el]; rw [congrArg T3.z h2]
 exact ⟨ex ▸ ar2 h3 hl hn,ey ▸ ar2 h4 hl hn,ez ▸ ar2 h5 hl hn⟩
end Go.Proofs.YtpheooheinfbgaaGreatDoor
end
section
set_option linter.unusedVariables false
set_option linter.unusedSimpArgs false
namespace Go.Proofs.YtpheooheinfbgaaGreatDoor
open Go Go.RowKit
inductive Ch where
 | val (x : Value)
 | ag (n : Nat) (x : Value)
 | int (k : IntKind) (z : Int)
 | lit (k : IntKind) (z : Int)
 | bb (x : Bool)
 | tp (p : Prop)
 | ptr (b o : Nat)
 | fn (g : FuncId) (cap : List (Nat ⊕ Value))
 | sl (x : Value) (m : Nat)
 | str (l : List UInt8)
 | win (b o m c : Nat)
def capDen (β : Nat → Nat) : Nat ⊕ Value → Value
 | .inl b=>.pointer (some ⟨β b,0,none⟩)
 | .inr x=>x
noncomputable def Ch.den (β : Nat → Nat) : Ch → Value
 | .val x=>x
 | .ag _ x=>x
 | .int k z=>.int k z
 | .lit k z=>.int k z
 | .bb x=>.bool x
 | .tp p=>.bool (tst p)
 | .ptr b o=>.pointer (some ⟨β b,o,none⟩)
 | .fn g cap=>.func (.func g) #[] (cap.map (capDen β)).toArray
 | .sl x _=>x
 | .str l=>strV l
 | .win b o m c=>.slice (some ⟨β b,o,none⟩) m c
noncomputable def Ch.cells (β : Nat → Nat) : Ch → List Value
 | .ag _ x=>x.cells.toList
 | c=>[c.den β]
def Ch.size : Ch → Nat
 | .ag n _=>n
 | _=>1
def Ch.Ok (m : Nat) : Ch → Prop
 | .val x=>x.oneCell' = true
 | .ag n x=>∃ cs : List Value,x = .agg cs.toArray ∧ cs.length = n ∧ ∀ u ∈ cs,u.oneCell' = true
 | .ptr b _=>b < m
 | .fn _ cap=>∀ b,Sum.inl b ∈ cap → b < m
 | .sl x l=>∃ a c,x = .slice a l c ∧ l ≤ c
 | .win b _ _ _=>b < m
 | _=>True
noncomputable def cellsL (β : Nat → Nat) (l : List Ch) : List Value:=l.flatMap (Ch.cells β)
def sizeL : List Ch → Nat
 | []=>0
 | c :: r=>c.size + sizeL r
inductive SV where
 | one (c : Ch)
 | agg (l : List Ch)
 | tup (l : List (Bool × List Ch))
 | und
noncomputable def partDen (β : Nat → Nat) : Bool × List Ch → Value
 | (true,l)=>.agg (cellsL β l).toArray
 | (false,c :: _)=>c.den β
 | (false,[])=>undef
noncomputable def SV.den (β : Nat → Nat) : SV → Value
 | .one c=>c.den β
 | .agg l=>.agg (cellsL β l).toArray
 | .tup l=>.tuple (l.map (partDen β)).toArray
 | .und=>undef
def SV.Ok (m : Nat) : SV → Prop
 | .one c=>c.Ok m
 | .agg l=>∀ c ∈ l,c.Ok m
 | .tup l=>∀ p ∈ l,∀ c ∈ p.2,c.Ok m
 | .und=>True
def SV.chunks : SV → Option (List Ch)
 | .one c=>some [c]
 | .agg l=>some l
 | _=>none
section
variable {m m' : Nat} {β β' : Nat → Nat}
theorem Ch.Ok.le {c : Ch} (h : c.Ok m) (hm : m ≤ m') : c.Ok m':=by
 cases c with
 | ptr b o=>exact Nat.lt_of_lt_of_le h hm
 | fn g cap=>exact fun b hb=>Nat.lt_of_lt_of_le (h b hb) hm
 | win b o m c=>exact Nat.lt_of_lt_of_le h hm
 | _=>exact h
theorem SV.Ok.le {s : SV} (h : s.Ok m) (hm : m ≤ m') : s.Ok m':=by
 cases s with
 | one c=>exact Ch.Ok.le (c:=c) h hm
 | agg l=>exact fun c hc=>(h c hc).le hm
 | tup l=>exact fun p hp c hc=>(h p hp c hc).le hm
 | und=>trivial
theorem Ch.cells_ok {c : Ch} (h : c.Ok m) : (c.cells β).length = c.size ∧ ∀ u ∈ c.cells β,u.oneCell' = true:=by
 cases c with
 | val x=>exact ⟨rfl,fun u hu=>by rw [List.mem_singleton.1 hu]; exact h⟩
 | ag n x=>
  obtain ⟨cs,rfl,hl,h1⟩:=h
  exact ⟨by simpa [Ch.cells,Value.cells,Ch.size] using hl,fun u hu=>h1 u (by simpa [Ch.cells,Value.cells] using hu)⟩
 | sl x l=>
  obtain ⟨a,c,rfl,_⟩:=h
  exact ⟨rfl,fun u hu=>by rw [List.mem_singleton.1 hu]; rfl⟩
 | _=>exact ⟨rfl,fun u hu=>by rw [List.mem_singleton.1 hu]; rfl⟩
theorem Ch.cells_den {c : Ch} (h : c.Ok m) : (c.den β).cells = (c.cells β).toArray:=by
 cases c with
 | val x=>exact O3 h
 | ag n x=>obtain ⟨cs,rfl,hl,h1⟩:=h; simp [Ch.den,Ch.cells]
 | sl x l=>obtain ⟨a,c,rfl,_⟩:=h; rfl
 | _=>rfl
theorem Ch.den_congr {c : Ch} (hb : ∀ i,i < m → β i = β' i) (h : c.Ok m) : c.den β = c.den β':=by
 cases c with
 | ptr b o=>simp only [Ch.den]; rw [hb b h]
 | fn g cap=>
  simp only [Ch.den]
  congr 2
  refine List.map_congr_left fun x hx=>?_
  cases x with
  | inl b=>simp only [capDen]; rw [hb b (h b hx)]
  | inr x=>rfl
 | win b o n c=>simp only [Ch.den]; rw [hb b h]
 | _=>rfl
theorem Ch.cells_congr {c : Ch} (hb : ∀ i,i < m → β i = β' i) (h : c.Ok m) : c.cells β = c.cells β':=by
 cases c with
 | ag n x=>rfl
 | _=>exact congrArg (fun x=>[x]) (Ch.den_congr hb h)
theorem E6 {l : List Ch} (hb : ∀ i,i < m → β i = β' i) (h : ∀ c ∈ l,c.Ok m) : cellsL β l = cellsL β' l:=by
 induction l with
 | nil=>rfl
 | cons c r ih=>
  simp only [cellsL,List.flatMap_cons] at ih ⊢
  rw [Ch.cells_congr hb (h c (List.mem_cons_self ..)),ih fun c hc=>h c (List.mem_cons_of_mem _ hc)]
theorem SV.den_congr {s : SV} (hb : ∀ i,i < m → β i = β' i) (h : s.Ok m) : s.den β = s.den β':=by
 cases s with
 | one c=>exact Ch.den_congr hb h
 | agg l=>simp only [SV.den]; rw [E6 hb h]
 | tup l=>
  simp only [SV.den]
  congr 2
  refine List.map_congr_left fun p hp=>?_
  have h1:=h p hp
  obtain ⟨g,l⟩:=p
  cases g with
  | true=>simp only [partDen]; rw [E6 hb h1]
  | false=>
   cases l with
   | nil=>rfl
   | cons c r=>exact Ch.den_congr hb (h1 c (List.mem_cons_self ..))
 | und=>rfl
theorem G9 {l : List Ch} (h : ∀ c ∈ l,c.Ok m) : (cellsL β l).length = sizeL l:=by
 induction l with
 | nil=>rfl
 | cons c r ih=>
  have h1:=(Ch.cells_ok (β:=β) (h c (List.mem_cons_self ..))).1
  have h2:=ih fun c hc=>h c (List.mem_cons_of_mem _ hc)
  simp only [cellsL,List.flatMap_cons,List.length_append,sizeL] at h2 ⊢
  omega
theorem N5 {l : List Ch} (h : ∀ c ∈ l,c.Ok m) : ∀ u ∈ cellsL β l,u.oneCell' = true:=by
 intro u hu
 obtain ⟨c,hc,hu⟩:=List.mem_flatMap.1 hu
 exact (Ch.cells_ok (h c hc)).2 u hu
theorem SV.chunks_ok {s : SV} {l : List Ch} (h : s.chunks = some l) (ok : s.Ok m) : (s.den β).cells = (cellsL β l).toArray ∧ ∀ c ∈ l,c.Ok m:=by
 cases s with
 | one c=>
  simp only [SV.chunks,Option.some.injEq] at h
  subst h
  exact ⟨by simp only [SV.den,cellsL,List.flatMap_cons,List.flatMap_nil,List.append_nil]; exact Ch.cells_den ok,fun c hc=>by rw [List.mem_singleton.1 hc]; exact ok⟩
 | agg l'=>
  simp only [SV.chunks,Option.some.injEq] at h
  subst h
  exact ⟨rfl,ok⟩
 | tup l'=>cases h
 | und=>cases h
end
def chTake : List Ch → Nat → Option (List Ch)
 | _,0=>some []
 | [],_ + 1=>none
 | c :: r,s=>bif Nat.ble c.size s then (chTake r (s - c.size)).map (c :: ·) else none
def ldL : List Ch → Nat → Nat → Option (List Ch)
 | l,0,s=>chTake l s
 | [],_ + 1,_=>none
 | c :: r,o,s=>bif Nat.ble c.size o then ldL r (o - c.size) s else none
def chDrop : List Ch → Nat → Option (List Ch)
 | l,0=>some l
 | [],_ + 1=>none
 | c :: r,s=>bif Nat.ble c.size s then chDrop r (s - c.size) else none
def stL : List Ch → Nat → Nat → List Ch → Option (List Ch)
 | l,0,s,new=>(chDrop l s).map (new ++ ·)
 | [],_ + 1,_,_=>none
 | c :: r,o,s,new=>bif Nat.ble c.size o then (stL r (o - c.size) s new).map (c :: ·) else none
def mkV : Bool → List Ch → Option SV
 | true,[.ag n x]=>some (.one (.ag n x))
 | true,l=>some (.agg l)
 | false,[.ag _ _]=>none
 | false,[c]=>some (.one c)
 | false,_=>none
section
variable {m : Nat} {β : Nat → Nat}
theorem aw3 : ∀ {l : List Ch} {s : Nat} {l' : List Ch},chTake l s = some l' → (∀ c ∈ l,c.Ok m) → (cellsL β l).take s = cellsL β l' ∧ (cellsL β l').length = s ∧ ∀ c ∈ l',c.Ok m:=by
 intro l
 induction l with
 | nil=>
  intro s l' h hok
  cases s with
  | zero=>simp only [chTake,Option.some.injEq] at h; subst h; exact ⟨rfl,rfl,hok⟩
  | succ s=>cases h
 | cons c r ih=>
  intro s l' h hok
  cases s with
  | zero=>simp only [chTake,Option.some.injEq] at h; subst h; exact ⟨rfl,rfl,fun _ hc=>by cases hc⟩
  | succ s=>
   simp only [chTake] at h
   cases hb : Nat.ble c.size (s + 1) with
   | false=>rw [hb] at h; cases h
   | true=>
    rw [hb] at h
    have hle:=Nat.le_of_ble_eq_true hb
    have hc:=(Ch.cells_ok (β:=β) (hok c (List.mem_cons_self ..))).1
    cases ht : chTake r (s + 1 - c.size) with
    | none=>rw [ht] at h; cases h
    | some r'=>
     rw [ht] at h
     simp only [cond_true,Option.map_some,Option.some.injEq] at h
     subst h
     obtain ⟨h1,h2,h3⟩:=ih ht fun c hc=>hok c (List.mem_cons_of_mem _ hc)
     refine ⟨?_,?_,?_⟩
     ·simp only [cellsL,List.flatMap_cons] at h1 ⊢
      rw [List.take_append,hc,h1,List.take_of_length_le (by omega)]
     ·simp only [cellsL,List.flatMap_cons,List.length_append] at h2 ⊢
      omega
     ·intro d hd
      rcases List.mem_cons.1 hd with rfl | hd
      ·exact hok _ (List.mem_cons_self ..)
      ·exact h3 d hd
theorem bu2 : ∀ {l : List Ch} {o s : Nat} {l' : List Ch},ldL l o s = some l' → (∀ c ∈ l,c.Ok m) →
  ((cellsL β l).drop o).take s = cellsL β l' ∧ (cellsL β l').length = s ∧ ∀ c ∈ l',c.Ok m:=by
 intro l
 induction l with
 | nil=>
  intro o s l' h hok
  cases o with
  | zero=>simp only [ldL] at h; simpa using aw3 h hok
  | succ o=>cases h
 | cons c r ih=>
  intro o s l' h hok
  cases o with
  | zero=>simp only [ldL] at h; simpa using aw3 h hok
  | succ o=>
   simp only [ldL] at h
   cases hb : Nat.ble c.size (o + 1) with
   | false=>rw [hb] at h; cases h
   | true=>
    rw [hb] at h
    simp only [cond_true] at h
    have hle:=Nat.le_of_ble_eq_true hb
    have hc:=(Ch.cells_ok (β:=β) (hok c (List.mem_cons_self ..))).1
    obtain ⟨h1,h2,h3⟩:=ih h fun c hc=>hok c (List.mem_cons_of_mem _ hc)
    refine ⟨?_,h2,h3⟩
    rw [← h1]
    simp only [cellsL,List.flatMap_cons]
    rw [List.drop_append,hc,List.drop_eq_nil_of_le (by omega),List.nil_append]
theorem bp1 : ∀ {l : List Ch} {s : Nat} {l' : List Ch},chDrop l s = some l' → (∀ c ∈ l,c.Ok m) → (cellsL β l).drop s = cellsL β l' ∧ s ≤ (cellsL β l).length ∧ ∀ c ∈ l',c.Ok m:=by
 intro l
 induction l with
 | nil=>
  intro s l' h hok
  cases s with
  | zero=>simp only [chDrop,Option.some.injEq] at h; subst h; exact ⟨rfl,Nat.zero_le _,hok⟩
  | succ s=>cases h
 | cons c r ih=>
  intro s l' h hok
  cases s with
  | zero=>simp only [chDrop,Option.some.injEq] at h; subst h; exact ⟨rfl,Nat.zero_le _,hok⟩
  | succ s=>
   simp only [chDrop] at h
   cases hb : Nat.ble c.size (s + 1) with
   | false=>rw [hb] at h; cases h
   | true=>
    rw [hb] at h
    simp only [cond_true] at h
    have hle:=Nat.le_of_ble_eq_true hb
    have hc:=(Ch.cells_ok (β:=β) (hok c (List.mem_cons_self ..))).1
    obtain ⟨h1,h2,h3⟩:=ih h fun c hc=>hok c (List.mem_cons_of_mem _ hc)
    refine ⟨?_,?_,h3⟩
    ·rw [← h1]
     simp only [cellsL,List.flatMap_cons]
     rw [List.drop_append,hc,List.drop_eq_nil_of_le (by omega),List.nil_append]
    ·simp only [cellsL,List.flatMap_cons,List.length_append] at h2 ⊢
     omega
theorem ax7 : ∀ {l : List Ch} {o s : Nat} {new l' : List Ch},stL l o s new = some l' → (∀ c ∈ l,c.Ok m) → (∀ c ∈ new,c.Ok m) →
  (cellsL β l).take o ++ cellsL β new ++ (cellsL β l).drop (o + s) = cellsL β l' ∧ o + s ≤ (cellsL β l).length ∧ ∀ c ∈ l',c.Ok m:=by
 have base : ∀ {l : List Ch} {s : Nat} {new l' : List Ch},(chDrop l s).map (new ++ ·) = some l' → (∀ c ∈ l,c.Ok m) → (∀ c ∈ new,c.Ok m) →
   (cellsL β l).take 0 ++ cellsL β new ++ (cellsL β l).drop (0 + s) = cellsL β l' ∧ 0 + s ≤ (cellsL β l).length ∧ ∀ c ∈ l',c.Ok m:=by
  intro l s new l' h hok hnew
  cases hd : chDrop l s with
  | none=>rw [hd] at h; cases h
  | some r=>
   rw [hd] at h
   simp only [Option.map_some,Option.some.injEq] at h
   subst h
   obtain ⟨h1,h2,h3⟩:=bp1 (β:=β) hd hok
   refine ⟨?_,by omega,?_⟩
   ·rw [Nat.zero_add,h1]
    simp [cellsL]
   ·intro c hc
    rcases List.mem_append.1 hc with h | h
    ·exact hnew c h
    ·exact h3 c h
 intro l
 induction l with
 | nil=>
  intro o s new l' h hok hnew
  cases o with
  | zero=>exact base (by simpa only [stL] using h) hok hnew
  | succ o=>cases h
 | cons c r ih=>
  intro o s new l' h hok hnew
  cases o with
  | zero=>exact base (by simpa only [stL] using h) hok hnew
  | succ o=>
   simp only [stL] at h
   cases hb : Nat.ble c.size (o + 1) with
   | false=>rw [hb] at h; cases h
   | true=>
    rw [hb] at h
    have hle:=Nat.le_of_ble_eq_true hb
    have hc:=(Ch.cells_ok (β:=β) (hok c (List.mem_cons_self ..))).1
    cases hs : stL r (o + 1 - c.size) s new with
    | none=>rw [hs] at h; cases h
    | some r'=>
     rw [hs] at h
     simp only [cond_true,Option.map_some,Option.some.injEq] at h
     subst h
     obtain ⟨h1,h2,h3⟩:=ih hs (fun c hc=>hok c (List.mem_cons_of_mem _ hc)) hnew
     refine ⟨?_,?_,?_⟩
     ·simp only [cellsL,List.flatMap_cons] at h1 ⊢
      rw [← h1]
      rw [List.take_append,List.drop_append,hc,List.take_of_length_le (by omega),List.drop_eq_nil_of_le (by omega),List.nil_append]
      rw [show o + 1 + s - c.size = o + 1 - c.size + s by omega]
      simp
     ·simp only [cellsL,List.flatMap_cons,List.length_append] at h2 ⊢
      omega
     ·intro d hd
      rcases List.mem_cons.1 hd with rfl | hd
      ·exact hok _ (List.mem_cons_self ..)
      ·exact h3 d hd
theorem b12 {g : Bool} {l : List Ch} {s : SV} (h : mkV g l = some s) (hok : ∀ c ∈ l,c.Ok m) :
  s.Ok m ∧ (g = true → s.den β = .agg (cellsL β l).toArray) ∧ (g = false → cellsL β l = [s.den β]):=by
 unfold mkV at h
 split at h
 ·simp only [Option.some.injEq] at h
  subst h
  have h1:=hok _ (List.mem_cons_self ..)
  refine ⟨h1,fun _=>?_,fun h=>by cases h⟩
  obtain ⟨cs,rfl,hl,h2⟩:=h1
  simp [SV.den,Ch.den,cellsL,Ch.cells,Value.cells]
 ·simp only [Option.some.injEq] at h
  subst h
  exact ⟨hok,fun _=>rfl,fun h=>by cases h⟩
 ·cases h
 ·rename_i c hne
  simp only [Option.some.injEq] at h
  subst h
  refine ⟨hok _ (List.mem_cons_self ..),(fun h=>by cases h),fun _=>?_⟩
  simp only [cellsL,List.flatMap_cons,List.flatMap_nil,List.append_nil,SV.den]
  cases c with
  | ag n x=>exact absurd rfl (hne n x)
  | _=>rfl
 ·cases h
end
end Go.Proofs.YtpheooheinfbgaaGreatDoor
end
section
set_option linter.unusedVariables false
set_option linter.unusedSimpArgs false
namespace Go.Proofs.YtpheooheinfbgaaGreatDoor
open Go Go.RowKit
inductive TKd where
 | int (k : IntKind)
 | bool
 | str
 | slice (e : TypeId)
 | array (n : Nat) (e : TypeId)
 | struct (fs : List (Nat × Nat × Bool))
 | iface
 | ptr (e : TypeId)
 | other
structure TI where
 size : Nat
 bytes : Nat
 agg : Bool
 zero : List Ch
 kind : TKd
abbrev Env:=List (TypeId × TI)
def Env.get : Env → TypeId → Option TI
 | [],_=>none
 | (i,t) :: r,d=>bif Nat.beq i d then some t else Env.get r d
def fieldsB (P : Program) : List Field → List (Nat × Nat × Bool) → Bool
 | [],[]=>true
 | f :: r,p :: q=>(Nat.beq f.offset p.1) && (match P.info? f.type with | some i=>Nat.beq i.size p.2.1 | none=>false) && (match aggOf (P.underlying f.type) with | some g=>g == p.2.2 | none=>false) && fieldsB P r q
 | _,_=>false
def KindOk (P : Program) (t : TypeId) : TKd → Prop
 | .int k=>P.underlying t = some (.int k)
 | .bool=>P.underlying t = some .bool
 | .str=>P.underlying t = some .string
 | .slice e=>P.underlying t = some (.slice e)
 | .array n e=>P.underlying t = some (.array n e)
 | .struct fs=>∃ fl : Array Field,P.underlying t = some (.struct fl) ∧ fieldsB P fl.toList fs = true ∧
   ∀ w,(fl.mapM fun f=>Prod.mk f.offset <$> sizeOf f.type : Sem _).run P w = .ok (fs.map fun p=>(p.1,p.2.1)).toArray w
 | .iface=>∃ ms,P.underlying t = some (.interface ms)
 | .ptr e=>P.underlying t = some (.pointer e)
 | .other=>True
structure TyOk (P : Program) (t : TypeId) (ti : TI) : Prop where
 ty : ∃ z,TyI P t ti.size ti.bytes z ti.agg ∧ z.cells = (cellsL (fun _=>0) ti.zero).toArray
 ok : ∀ c ∈ ti.zero,c.Ok 0
 kind : KindOk P t ti.kind
def EnvOk (P : Program) (E : Env) : Prop:=∀ p ∈ E,TyOk P p.1 p.2
theorem EnvOk.get {P : Program} {E : Env} (h : EnvOk P E) : ∀ {t : TypeId} {ti : TI},E.get t = some ti → TyOk P t ti:=by
 induction E with
 | nil=>intro t ti h; cases h
 | cons p r ih=>
  obtain ⟨i,u⟩:=p
  intro t ti hg
  simp only [Env.get] at hg
  cases hb : Nat.beq i t with
  | true=>
   rw [hb] at hg
   simp only [cond_true,Option.some.injEq] at hg
   subst hg
   obtain rfl:=Nat.eq_of_beq_eq_true hb
   exact h _ (List.mem_cons_self ..)
  | false=>
   rw [hb] at hg
   exact ih (fun p hp=>h p (List.mem_cons_of_mem _ hp)) hg
theorem al5 {P : Program} : ∀ {fl : List Field} {fs : List (Nat × Nat × Bool)},fieldsB P fl fs = true → ∀ (f : Nat) (p : Nat × Nat × Bool),fs[f]? = some p →
  ∃ fd i,fl[f]? = some fd ∧ fd.offset = p.1 ∧ P.info? fd.type = some i ∧ i.size = p.2.1 ∧ aggOf (P.underlying fd.type) = some p.2.2:=by
 intro fl
 induction fl with
 | nil=>
  intro fs h f p hp
  cases fs with
  | nil=>simp at hp
  | cons q r=>cases h
 | cons a r ih=>
  intro fs h f p hp
  cases fs with
  | nil=>cases h
  | cons q r'=>
   simp only [fieldsB,Bool.and_eq_true] at h
   obtain ⟨⟨⟨h1,h2⟩,h3⟩,h4⟩:=h
   cases f with
   | zero=>
    simp only [List.getElem?_cons_zero,Option.some.injEq] at hp
    subst hp
    cases hi : P.info? a.type with
    | none=>rw [hi] at h2; cases h2
    | some i=>
     rw [hi] at h2
     cases hg : aggOf (P.underlying a.type) with
     | none=>rw [hg] at h3; cases h3
     | some g=>
      rw [hg] at h3
      exact ⟨a,i,rfl,Nat.eq_of_beq_eq_true h1,hi,Nat.eq_of_beq_eq_true h2,by rw [hg]; simpa using h3⟩
   | succ f=>
    simp only [List.getElem?_cons_succ] at hp ⊢
    exact ih h4 f p hp
structure AbsE where
 Q : Nat → Prop
 R : World → Prop
 frame : ∀ w w',R w → (∀ k,Q k → w'.heap[k]? = w.heap[k]?) → R w'
inductive HE where
 | blk (T : TypeId) (l : List Ch)
 | row (T : TypeId) (s : Nat) (v : Value) (n : Nat) (cs : List Value)
 | gone
 | abs (A : AbsE)
 | hid (T : TypeId) (l : List Ch)
structure Bs where
 n : Nat
 K : Nat → Prop
def look : List (Nat × SV) → Nat → Option SV
 | [],_=>none
 | (i,s) :: r,d=>bif Nat.beq i d then some s else look r d
def nth : List HE → Nat → Option HE
 | [],_=>none
 | h :: _,0=>some h
 | _ :: r,i + 1=>nth r i
def setN : List HE → Nat → HE → List HE
 | [],_,_=>[]
 | _ :: r,0,x=>x :: r
 | h :: r,i + 1,x=>h :: setN r i x
theorem I9 : ∀ (l : List HE) (i : Nat),nth l i = l[i]?:=by
 intro l
 induction l with
 | nil=>intro i; simp [nth]
 | cons h r ih=>intro i; cases i with
  | zero=>simp [nth]
  | succ i=>simp [nth,ih]
theorem O7 : ∀ (l : List HE) (i : Nat) (x : HE),setN l i x = l.set i x:=by
 intro l
 induction l with
 | nil=>intro i x; simp [setN]
 | cons h r ih=>intro i x; cases i with
  | zero=>simp [setN]
  | succ i=>simp [setN,ih]
def litCh : Value → Option Ch
 | .int k z=>some (.lit k z)
 | .bool x=>some (.bb x)
 | .string s=>some (.str s.data.toList)
 | .slice a m c=>bif Nat.ble m c then some (.sl (.slice a m c) m) else none
 | .agg _=>none
 | .tuple _=>none
 | .float k x=>some (.val (.float k x))
 | .complex k x y=>some (.val (.complex k x y))
 | .pointer x=>some (.val (.pointer x))
 | .map x=>some (.val (.map x))
 | .chan x=>some (.val (.chan x))
 | .func f a b=>some (.val (.func f a b))
 | .nilFunc=>some (.val .nilFunc)
 | .iface t x=>some (.val (.iface t x))
 | .nilIface=>some (.val .nilIface)
def litL : List Value → Option (List Ch)
 | []=>some []
 | x :: r=>match litCh x,litL r with | some c,some l=>some (c :: l) | _,_=>none
def litV : Value → Option SV
 | .agg cs=>(litL cs.toList).map .agg
 | .tuple cs=>match cs.toList with | []=>some .und | _=>none
 | x=>(litCh x).map .one
def opd (fr : List (Nat × SV)) : Operand → Option SV
 | .tmp t=>look fr t
 | .const v=>litV v
 | .global g=>some (.one (.val (.pointer (some ⟨g,0,none⟩))))
 | .func f=>some (.one (.fn f []))
theorem as8 {β : Nat → Nat} {m : Nat} {x : Value} {c : Ch} (h : litCh x = some c) : c.den β = x ∧ c.Ok m ∧ x.oneCell' = true:=by
 cases x <;> simp only [litCh,Option.some.injEq] at h
 case string s=>subst h; exact ⟨by show Value.string ⟨s.data.toList.toArray⟩ = _; simp,trivial,rfl⟩
 case slice a n k=>
  cases hb : Nat.ble n k with
  | false=>rw [hb] at h; cases h
  | true=>
   rw [hb] at h
   simp only [cond_true,Option.some.injEq] at h
   subst h
   exact ⟨rfl,⟨_,_,rfl,Nat.le_of_ble_eq_true hb⟩,rfl⟩
 case agg=>cases h
 case tuple=>cases h
 all_goals (subst h; exact ⟨rfl,(by first | trivial | rfl),rfl⟩)
theorem bk2 {β : Nat → Nat} {m : Nat} : ∀ {l : List Value} {r : List Ch},litL l = some r → cellsL β r = l ∧ ∀ c ∈ r,c.Ok m:=by
 intro l
 induction l with
 | nil=>intro r h; simp only [litL,Option.some.injEq] at h; subst h; exact ⟨rfl,fun _ hc=>by cases hc⟩
 | cons x r ih=>
  intro q h
  simp only [litL] at h
  cases h1 : litCh x with
  | none=>rw [h1] at h; cases h
  | some c=>
   cases h2 : litL r with
   | none=>rw [h1,h2] at h; cases h
   | some l=>
    rw [h1,h2] at h
    simp only [Option.some.injEq] at h
    subst h
    obtain ⟨e1,e2,e3⟩:=as8 (β:=β) (m:=m) h1
    obtain ⟨e4,e5⟩:=ih h2
    refine ⟨?_,?_⟩
    ·simp only [cellsL,List.flatMap_cons] at e4 ⊢
     rw [e4]
     have h3:=Ch.cells_den (β:=β) e2
     rw [e1,O3 e3] at h3
     have h4:=congrArg Array.toList h3
     simp only at h4
     rw [← h4]
     rfl
    ·intro d hd
     rcases List.mem_cons.1 hd with rfl | hd
     ·exact e2
     ·exact e5 d hd
theorem b93 {β : Nat → Nat} {m : Nat} {x : Value} {s : SV} (h : litV x = some s) : x = s.den β ∧ s.Ok m:=by
 have one : ∀ {x : Value} {s : SV},(litCh x).map .one = some s → x = s.den β ∧ s.Ok m:=by
  intro x s h
  cases h1 : litCh x with
  | none=>rw [h1] at h; cases h
  | some c=>
   rw [h1] at h
   simp only [Option.map_some,Option.some.injEq] at h
   subst h
   obtain ⟨e1,e2,_⟩:=as8 (β:=β) (m:=m) h1
   exact ⟨e1.symm,e2⟩
 cases x
 case agg cs=>
  simp only [litV] at h
  cases h1 : litL cs.toList with
  | none=>rw [h1] at h; cases h
  | some l=>
   rw [h1] at h
   simp only [Option.map_some,Option.some.injEq] at h
   subst h
   obtain ⟨e1,e2⟩:=bk2 (β:=β) (m:=m) h1
   exact ⟨by simp [SV.den,e1],e2⟩
 case tuple cs=>
  simp only [litV] at h
  split at h
  ·rename_i h1
   simp only [Option.some.injEq] at h
   subst h
   refine ⟨?_,trivial⟩
   have : cs = #[]:=by simpa using h1
   subst this
   rfl
  ·cases h
 all_goals exact one h
def Kn (β : Nat → Nat) (m : Nat) (x : Option SV) (v : Value) : Prop:=∀ s,x = some s → v = s.den β ∧ s.Ok m
theorem W8 {β : Nat → Nat} {m : Nat} {fr : List (Nat × SV)} {ρ : Fr} {x : Operand} (h : ∀ t,x = .tmp t → Kn β m (look fr t) (ρ t)) : Kn β m (opd fr x) (ev ρ x):=by
 cases x with
 | tmp t=>exact h t rfl
 | const v=>intro s hs; exact b93 hs
 | global g=>intro s hs; simp only [opd,Option.some.injEq] at hs; subst hs; exact ⟨rfl,rfl⟩
 | func f=>
  intro s hs
  simp only [opd,Option.some.injEq] at hs
  subst hs
  exact ⟨rfl,fun b hb=>by cases hb⟩
def InR : IntKind → Int → Prop
 | .i8,z=>-128 ≤ z ∧ z ≤ 127
 | .i16,z=>-32768 ≤ z ∧ z ≤ 32767
 | .i32,z=>-2147483648 ≤ z ∧ z ≤ 2147483647
 | .i64,z=>-9223372036854775808 ≤ z ∧ z ≤ 9223372036854775807
 | .u8,z=>0 ≤ z ∧ z ≤ 255
 | .u16,z=>0 ≤ z ∧ z ≤ 65535
 | .u32,z=>0 ≤ z ∧ z ≤ 4294967295
 | .u64,z=>0 ≤ z ∧ z ≤ 18446744073709551615
theorem InR.wrap {k : IntKind} {z : Int} (h : InR k z) : k.wrap z = z:=by
 cases k <;> simp only [InR] at h <;> simp [IntKind.wrap,IntKind.signed,IntKind.bits] <;> omega
def AllT : List Prop → Prop
 | []=>True
 | p :: r=>p ∧ AllT r
theorem al8 {a b : List Prop} : AllT (a ++ b) ↔ AllT a ∧ AllT b:=by
 induction a with
 | nil=>simp [AllT]
 | cons p r ih=>simp [AllT,ih,and_assoc]
inductive Eff where
 | put (s : SV) (vc : List Prop)
 | mk (T : TypeId) (l : List Ch) (s : SV)
 | wr (b : Nat) (l : List Ch)
def zeroL : Value → Option (List Ch)
 | .agg cs=>litL cs.toList
 | x=>(litCh x).map fun c=>[c]
def zeroD (z : Value) : List Ch:=(zeroL z).getD []
theorem ba0 {β : Nat → Nat} {m : Nat} {z : Value} {l : List Ch} (h : zeroL z = some l) : z.cells = (cellsL β l).toArray ∧ ∀ c ∈ l,c.Ok m:=by
 have one : ∀ {x : Value},(litCh x).map (fun c=>[c]) = some l → x.cells = (cellsL β l).toArray ∧ ∀ c ∈ l,c.Ok m:=by
  intro x h
  cases h1 : litCh x with
  | none=>rw [h1] at h; cases h
  | some c=>
   rw [h1] at h
   simp only [Option.map_some,Option.some.injEq] at h
   subst h
   obtain ⟨e1,e2,e3⟩:=as8 (β:=β) (m:=m) h1
   refine ⟨?_,fun d hd=>by rw [List.mem_singleton.1 hd]; exact e2⟩
   have:=Ch.cells_den (β:=β) e2
   rw [e1] at this
   simpa [cellsL] using this
 cases z
 case agg cs=>
  obtain ⟨e1,e2⟩:=bk2 (β:=β) (m:=m) h
  exact ⟨by rw [e1]; simp [Value.cells],e2⟩
 all_goals exact one h
theorem A6 {P : Program} {t : TypeId} {s b : Nat} {z : Value} {g : Bool} {kd : TKd} (ty : TyI P t s b z g) (hz : (zeroL z).isSome = true) (hk : KindOk P t kd) : TyOk P t ⟨s,b,g,zeroD z,kd⟩:=by
 cases h : zeroL z with
 | none=>rw [h] at hz; cases hz
 | some l=>
  have e : zeroD z = l:=by unfold zeroD; rw [h]; rfl
  rw [e]
  exact ⟨⟨z,ty,(ba0 (m:=0) h).1⟩,(ba0 (β:=fun _=>0) h).2,hk⟩
theorem bm0 {P : Program} : EnvOk P []:=fun p hp=>by cases hp
theorem p9 {P : Program} {p : TypeId × TI} {E : Env} (h : TyOk P p.1 p.2) (r : EnvOk P E) : EnvOk P (p :: E):=fun q hq=>by
 rcases List.mem_cons.1 hq with rfl | hq
 ·exact h
 ·exact r q hq
end Go.Proofs.YtpheooheinfbgaaGreatDoor
end
section
set_option linter.unusedVariables false
set_option linter.unusedSimpArgs false
namespace Go.Proofs.YtpheooheinfbgaaGreatDoor
open Go Go.RowKit
def RunV (P : Program) (ρ : Operand → Value) (o : Op) (ty : TypeId) (w : World) (v : Value) : Prop:=∀ d pos aft g,(execOp ρ ⟨d,o,ty,pos,aft,g⟩).run P w = .ok (.value v) w
section
variable {P : Program} {E : Env} {β : Nat → Nat} {m : Nat} {w : World} {ty : TypeId} {ρ : Operand → Value}
def effPick : Option SV → Option SV → Option SV → Option Eff
 | some (.one (.bb true)),x,_=>x.map fun s=>.put s []
 | some (.one (.bb false)),_,y=>y.map fun s=>.put s []
 | _,_,_=>none
theorem C8 {s s' : SV} {vc vc' : List Prop} (h : Eff.put s vc = Eff.put s' vc') : s = s' ∧ vc = vc':=by cases h; exact ⟨rfl,rfl⟩
theorem Y4 {x : Option SV} {s : SV} {vc : List Prop} (h : (x.map fun s=>Eff.put s []) = some (.put s vc)) : x = some s:=by
 cases x with
 | none=>cases h
 | some y=>simp only [Option.map_some,Option.some.injEq] at h; rw [(C8 h).1]
theorem bd4 {c x y : Operand} {cs xs ys : Option SV} {s : SV} {vc : List Prop} (hc : Kn β m cs (ρ c)) (hx : Kn β m xs (ρ x)) (hy : Kn β m ys (ρ y)) (h : effPick cs xs ys = some (.put s vc)) :
  RunV P ρ (.pick c x y) ty w (s.den β) ∧ s.Ok m:=by
 unfold effPick at h
 split at h
 ·have h1:=hc _ rfl
  have h2:=hx _ (Y4 h)
  refine ⟨fun d pos aft g=>?_,h2.2⟩
  simp [execOp,h1.1,SV.den,Ch.den,asBool,h2.1]
 ·have h1:=hc _ rfl
  have h2:=hy _ (Y4 h)
  refine ⟨fun d pos aft g=>?_,h2.2⟩
  simp [execOp,h1.1,SV.den,Ch.den,asBool,h2.1]
 ·cases h
def arr (x : Ch) (p : Prop) : Option (Ch × List Prop):=some (x,[p])
def pur (x : Ch) : Option (Ch × List Prop):=some (x,[])
def litBin (op : BinOp) (k : IntKind) (a b : Int) : Option (Ch × List Prop):=
 match op with
 | .add=>pur (.lit k (k.wrap (a + b)))
 | .sub=>pur (.lit k (k.wrap (a - b)))
 | .mul=>pur (.lit k (k.wrap (a * b)))
 | .quo=>bif decide (b = 0) then none else pur (.lit k (k.wrap (a.tdiv b)))
 | .rem=>bif decide (b = 0) then none else pur (.lit k (a.tmod b))
 | .eql=>pur (.bb (decide (a = b)))
 | .neq=>pur (.bb (!decide (a = b)))
 | .lss=>pur (.bb (decide (a < b)))
 | .leq=>pur (.bb (decide (a ≤ b)))
 | .gtr=>pur (.bb (decide (b < a)))
 | .geq=>pur (.bb (decide (b ≤ a)))
 | _=>none
def symBin (op : BinOp) (k : IntKind) (a b : Int) : Option (Ch × List Prop):=
 match op with
 | .add=>arr (.int k (a + b)) (InR k (a + b))
 | .sub=>arr (.int k (a - b)) (InR k (a - b))
 | .mul=>arr (.int k (a * b)) (InR k (a * b))
 | .quo=>arr (.int k (a / b)) (0 ≤ a ∧ 0 < b ∧ InR k (a / b))
 | .rem=>arr (.int k (a % b)) (0 ≤ a ∧ 0 < b)
 | .eql=>pur (.tp (a = b))
 | .neq=>pur (.tp (a ≠ b))
 | .lss=>pur (.tp (a < b))
 | .leq=>pur (.tp (a ≤ b))
 | .gtr=>pur (.tp (b < a))
 | .geq=>pur (.tp (b ≤ a))
 | _=>none
def propOf : Ch → Option Prop
 | .bb x=>some (x = true)
 | .tp p=>some p
 | _=>none
def boolBin (op : BinOp) (x y : Ch) : Option (Ch × List Prop):=
 match propOf x,propOf y with
 | some p,some q=>match op with
  | .eql=>pur (.tp (p ↔ q))
  | .neq=>pur (.tp (¬ (p ↔ q)))
  | _=>none
 | _,_=>none
def strBin (op : BinOp) (a b : List UInt8) : Option (Ch × List Prop):=
 match op with
 | .eql=>pur (.tp (a = b))
 | .neq=>pur (.tp (a ≠ b))
 | .add=>arr (.str (a ++ b)) (a.length + b.length ≤ 9223372036854775807)
 | _=>none
def isBoolT (E : Env) (t : TypeId) : Bool:=match E.get t with | some ti=>(match ti.kind with | .bool=>true | _=>false) | none=>false
def binC (E : Env) (op : BinOp) (t : TypeId) : Ch → Ch → Option (Ch × List Prop)
 | .lit k a,.lit k' b=>bif decide (k = k') then litBin op k a b else none
 | .lit k a,.int k' b=>bif decide (k = k') then symBin op k a b else none
 | .int k a,.lit k' b=>bif decide (k = k') then symBin op k a b else none
 | .int k a,.int k' b=>bif decide (k = k') then symBin op k a b else none
 | .str a,.str b=>strBin op a b
 | x,y=>bif isBoolT E t then boolBin op x y else none
theorem bp9 {op : BinOp} {k : IntKind} {a b : Int} {c : Ch} {vc : List Prop} (h : litBin op k a b = some (c, vc)) :
    (binOp op 0 (.int k a) (.int k b)).run P w = .ok (c.den β) w ∧ c.Ok m ∧ (∀ t, (binOp op t (.int k a) (.int k b)) = binOp op 0 (.int k a) (.int k b)) := by
  have hb0 : ∀ {x : Option (Ch × List Prop)}, (bif decide (b = 0) then none else x) = some (c, vc) → b ≠ 0 ∧ x = some (c, vc) := by
    intro x h
    by_cases e : b = 0
    · rw [decide_eq_true e] at h; cases h
    · rw [decide_eq_false e] at h; exact ⟨e, h⟩
  cases op <;> simp only [litBin, pur, Option.some.injEq, Prod.mk.injEq] at h
  case quo =>
    obtain ⟨h1, h2⟩ := hb0 h
    simp only [Option.some.injEq, Prod.mk.injEq] at h2
    obtain ⟨rfl, rfl⟩ := h2
    exact ⟨by simp [binOp, Op.intDiv, h1, Ch.den], trivial, fun t => rfl⟩
  case rem =>
    obtain ⟨h1, h2⟩ := hb0 h
    simp only [Option.some.injEq, Prod.mk.injEq] at h2
    obtain ⟨rfl, rfl⟩ := h2
    exact ⟨by simp [binOp, Op.intDiv, h1, Ch.den], trivial, fun t => rfl⟩
  all_goals first
    | (cases h; done)
    | (obtain ⟨rfl, rfl⟩ := h
       exact ⟨by simp [binOp, Op.intArith, Op.intCmp, Ch.den]; try (first | rfl | (by_cases e : a = b <;> simp [e, bne])), trivial, fun t => rfl⟩)
theorem al3 {op : BinOp} {k : IntKind} {a b : Int} {c : Ch} {vc : List Prop} (h : symBin op k a b = some (c,vc)) (hv : AllT vc) :
  (binOp op 0 (.int k a) (.int k b)).run P w = .ok (c.den β) w ∧ c.Ok m ∧ (∀ t,(binOp op t (.int k a) (.int k b)) = binOp op 0 (.int k a) (.int k b)):=by
 have e1 : (a == b) = tst (a = b):=by rw [← H8,Bool.eq_iff_iff]; simp
 have e2 : (a != b) = tst (a ≠ b):=by rw [← H8,Bool.eq_iff_iff]; simp
 cases op <;> simp only [symBin,pur,arr,Option.some.injEq,Prod.mk.injEq] at h
 all_goals first
  | (cases h; done)
  | skip
 case quo=>
  obtain ⟨rfl,rfl⟩:=h
  obtain ⟨⟨h0,h1,h2⟩,_⟩:=hv
  exact ⟨by simp [binOp,Op.intDiv,show b ≠ 0 by omega,Ch.den,aq5 h0,h2.wrap],trivial,fun t=>rfl⟩
 case rem=>
  obtain ⟨rfl,rfl⟩:=h
  obtain ⟨⟨h0,h1⟩,_⟩:=hv
  exact ⟨by simp [binOp,Op.intDiv,show b ≠ 0 by omega,Ch.den,ba7 h0],trivial,fun t=>rfl⟩
 case add=>obtain ⟨rfl,rfl⟩:=h; exact ⟨by simp [binOp,Op.intArith,Ch.den,InR.wrap hv.1],trivial,fun t=>rfl⟩
 case sub=>obtain ⟨rfl,rfl⟩:=h; exact ⟨by simp [binOp,Op.intArith,Ch.den,InR.wrap hv.1],trivial,fun t=>rfl⟩
 case mul=>obtain ⟨rfl,rfl⟩:=h; exact ⟨by simp [binOp,Op.intArith,Ch.den,InR.wrap hv.1],trivial,fun t=>rfl⟩
 all_goals
  obtain ⟨rfl,rfl⟩:=h
  exact ⟨by simp [binOp,Op.intCmp,Ch.den,e1,e2,H8],trivial,fun t=>rfl⟩
theorem aw6 {c : Ch} {p : Prop} (h : propOf c = some p) : c.den β = .bool (tst p):=by
 cases c <;> simp only [propOf,Option.some.injEq] at h <;> first | (cases h; done) | skip
 case bb x=>subst h; cases x; exact congrArg Value.bool (j6 (by simp)).symm; exact congrArg Value.bool (l9 rfl).symm
 case tp q=>subst h; rfl
theorem bd8 {op : BinOp} {x y c : Ch} {t : TypeId} {vc : List Prop} (ht : P.underlying t = some .bool) (h : boolBin op x y = some (c,vc)) :
  (binOp op t (x.den β) (y.den β)).run P w = .ok (c.den β) w ∧ c.Ok m ∧ (∃ u u',x.den β = .bool u ∧ y.den β = .bool u'):=by
 have bt : BoolT P t:=⟨ht⟩
 unfold boolBin at h
 cases hx : propOf x with
 | none=>rw [hx] at h; cases h
 | some p=>
  cases hy : propOf y with
  | none=>rw [hx,hy] at h; cases h
  | some q=>
   rw [hx,hy] at h
   have e1:=aw6 (β:=β) hx
   have e2:=aw6 (β:=β) hy
   have e3 : (tst p == tst q) = tst (p ↔ q):=by
    by_cases hp : p <;> by_cases hq : q
    ·rw [l9 hp,l9 hq,l9 ⟨fun _=>hq,fun _=>hp⟩]; rfl
    ·rw [l9 hp,j6 hq,j6 fun h=>hq (h.1 hp)]; rfl
    ·rw [j6 hp,l9 hq,j6 fun h=>hp (h.2 hq)]; rfl
    ·rw [j6 hp,j6 hq,l9 ⟨fun h=>(hp h).elim,fun h=>(hq h).elim⟩]; rfl
   cases op <;> simp only [pur,Option.some.injEq,Prod.mk.injEq] at h <;> first | (cases h; done) | skip
   ·obtain ⟨rfl,rfl⟩:=h
    rw [e1,e2]
    exact ⟨by simp [binOp,X5,Ch.den,e3],trivial,_,_,rfl,rfl⟩
   ·obtain ⟨rfl,rfl⟩:=h
    rw [e1,e2]
    exact ⟨by simp [binOp,X5,Ch.den,e3,bne,an3],trivial,_,_,rfl,rfl⟩
theorem bo3 {op : BinOp} {a b : List UInt8} {c : Ch} {vc : List Prop} (h : strBin op a b = some (c,vc)) (hv : AllT vc) :
  (binOp op 0 (strV a) (strV b)).run P w = .ok (c.den β) w ∧ c.Ok m ∧ (∀ t,(binOp op t (strV a) (strV b)) = binOp op 0 (strV a) (strV b)):=by
 have e0 : (a == b) = tst (a = b):=by
  rw [← H8,Bool.eq_iff_iff]
  simp
 cases op <;> simp only [strBin,pur,arr,Option.some.injEq,Prod.mk.injEq] at h <;> first | (cases h; done) | skip
 ·obtain ⟨rfl,rfl⟩:=h
  have h1 : ¬ (((⟨a.toArray⟩ : ByteArray).size + (⟨b.toArray⟩ : ByteArray).size : Nat) : Int) > IntKind.i64.max:=by
   show ¬ ((a.toArray.size + b.toArray.size : Nat) : Int) > IntKind.i64.max
   have:=hv.1
   simp [IntKind.max,IntKind.signed,IntKind.bits]
   omega
  have h2 : (⟨a.toArray⟩ : ByteArray) ++ ⟨b.toArray⟩ = ⟨(a ++ b).toArray⟩:=by
   apply ByteArray.ext
   simp
  exact ⟨by simp only [binOp,Op.stringOp,if_neg h1,h2,Ch.den]; simp,trivial,fun t=>rfl⟩
 ·obtain ⟨rfl,rfl⟩:=h
  exact ⟨by simp [binOp,Op.stringOp,Ch.den,e0],trivial,fun t=>rfl⟩
 ·obtain ⟨rfl,rfl⟩:=h
  exact ⟨by simp [binOp,Op.stringOp,Ch.den,bne,e0,an3],trivial,fun t=>rfl⟩
end
end Go.Proofs.YtpheooheinfbgaaGreatDoor
end
section
set_option linter.unusedVariables false
set_option linter.unusedSimpArgs false
namespace Go.Proofs.YtpheooheinfbgaaGreatDoor
open Go Go.RowKit
section
variable {P : Program} {E : Env} {β : Nat → Nat} {m : Nat} {w : World} {ty : TypeId} {ρ : Operand → Value}
def effBin (E : Env) (op : BinOp) (t : TypeId) : Option SV → Option SV → Option Eff
 | some (.one x),some (.one y)=>(binC E op t x y).map fun r=>.put (.one r.1) r.2
 | _,_=>none
theorem bq9 {op : BinOp} {t t' : TypeId} {x y : Operand} {xs ys : Option SV} {s : SV} {vc : List Prop} (hE : EnvOk P E) (hx : Kn β m xs (ρ x)) (hy : Kn β m ys (ρ y)) (h : effBin E op t xs ys = some (.put s vc)) (hv : AllT vc) :
  RunV P ρ (.binOp op t x y t') ty w (s.den β) ∧ s.Ok m:=by
 unfold effBin at h
 split at h
 ·rename_i cx cy
  have h1:=(hx _ rfl).1
  have h2:=(hy _ rfl).1
  simp only [SV.den] at h1 h2
  cases hb : binC E op t cx cy with
  | none=>rw [hb] at h; cases h
  | some r=>
   obtain ⟨c,vc'⟩:=r
   rw [hb] at h
   simp only [Option.map_some,Option.some.injEq] at h
   obtain ⟨rfl,rfl⟩:=C8 h
   unfold binC at hb
   have hk : ∀ {k k' : IntKind} {o : Option (Ch × List Prop)},(bif decide (k = k') then o else none) = some (c,vc') → k = k' ∧ o = some (c,vc'):=by
    intro k k' o h
    by_cases e : k = k'
    ·rw [decide_eq_true e] at h; exact ⟨e,h⟩
    ·rw [decide_eq_false e] at h; cases h
   have num : ∀ {k : IntKind} {a b : Int},ρ x = .int k a → ρ y = .int k b → (binOp op 0 (.int k a) (.int k b)).run P w = .ok (c.den β) w ∧ c.Ok m ∧ (∀ t,(binOp op t (.int k a) (.int k b)) = binOp op 0 (.int k a) (.int k b)) →
     RunV P ρ (.binOp op t x y t') ty w ((SV.one c).den β) ∧ (SV.one c).Ok m:=by
    intro k a b e1 e2 hr
    refine ⟨fun d pos aft g=>?_,hr.2.1⟩
    have e3 : (eqGuard op t x y (.int k a) (.int k b)).run P w = .ok () w:=by cases op <;> rfl
    simp [execOp,e1,e2,e3,hr.2.2 t,hr.1,SV.den]
   split at hb
   ·obtain ⟨hkk,hb2⟩:=hk hb; subst hkk; exact num h1 h2 (bp9 hb2)
   ·obtain ⟨hkk,hb2⟩:=hk hb; subst hkk; exact num h1 h2 (al3 hb2 hv)
   ·obtain ⟨hkk,hb2⟩:=hk hb; subst hkk; exact num h1 h2 (al3 hb2 hv)
   ·obtain ⟨hkk,hb2⟩:=hk hb; subst hkk; exact num h1 h2 (al3 hb2 hv)
   ·rename_i a b
    have hr:=bo3 (P:=P) (β:=β) (m:=m) (w:=w) hb hv
    refine ⟨fun d pos aft g=>?_,hr.2.1⟩
    simp only [Ch.den] at h1 h2
    have e3 : (eqGuard op t x y (strV a) (strV b)).run P w = .ok () w:=by cases op <;> rfl
    simp [execOp,h1,h2,e3,hr.2.2 t,hr.1,SV.den]
   ·unfold isBoolT at hb
    cases ht : E.get t with
    | none=>rw [ht] at hb; cases hb
    | some ti=>
     simp only [ht] at hb
     have hkd:=(hE.get ht).kind
     cases hk2 : ti.kind <;> simp only [hk2] at hb hkd <;> first | (cases hb; done) | skip
     simp only [cond_true] at hb
     obtain ⟨hr1,hr2,u,u',e4,e5⟩:=bd8 (P:=P) (β:=β) (m:=m) (w:=w) hkd hb
     refine ⟨fun d pos aft g=>?_,hr2⟩
     have e3 : (eqGuard op t x y (ρ x) (ρ y)).run P w = .ok () w:=by rw [h1,h2,e4,e5]; cases op <;> rfl
     simp [execOp,e3]
     rw [h1,h2,hr1]
     rfl
 ·cases h
def effUn (op : UnOp) : Option SV → Option Eff
 | some (.one (.bb x))=>match op with | .not=>some (.put (.one (.bb (!x))) []) | _=>none
 | some (.one (.tp p))=>match op with | .not=>some (.put (.one (.tp (¬ p))) []) | _=>none
 | some (.one (.lit k z))=>match op with | .neg=>some (.put (.one (.lit k (k.wrap (0 - z)))) []) | _=>none
 | some (.one (.int k z))=>match op with | .neg=>some (.put (.one (.int k (0 - z))) [InR k (0 - z)]) | _=>none
 | _=>none
theorem bx7 {op : UnOp} {t : TypeId} {x : Operand} {xs : Option SV} {s : SV} {vc : List Prop} (hx : Kn β m xs (ρ x)) (h : effUn op xs = some (.put s vc)) (hv : AllT vc) :
  RunV P ρ (.unOp op t x) ty w (s.den β) ∧ s.Ok m:=by
 unfold effUn at h
 split at h
 ·have h1:=(hx _ rfl).1
  cases op <;> simp only [Option.some.injEq] at h <;> first | (cases h; done) | skip
  obtain ⟨rfl,rfl⟩:=C8 h
  exact ⟨fun d pos aft g=>by simp [execOp,h1,SV.den,Ch.den,Op.unary],trivial⟩
 ·have h1:=(hx _ rfl).1
  cases op <;> simp only [Option.some.injEq] at h <;> first | (cases h; done) | skip
  obtain ⟨rfl,rfl⟩:=C8 h
  exact ⟨fun d pos aft g=>by simp [execOp,h1,SV.den,Ch.den,Op.unary,an3],trivial⟩
 ·have h1:=(hx _ rfl).1
  cases op <;> simp only [Option.some.injEq] at h <;> first | (cases h; done) | skip
  obtain ⟨rfl,rfl⟩:=C8 h
  exact ⟨fun d pos aft g=>by simp [execOp,h1,SV.den,Ch.den,Op.unary,Op.intArith],trivial⟩
 ·have h1:=(hx _ rfl).1
  cases op <;> simp only [Option.some.injEq] at h <;> first | (cases h; done) | skip
  obtain ⟨rfl,rfl⟩:=C8 h
  have h2:=hv.1.wrap
  exact ⟨fun d pos aft g=>by simp [execOp,h1,SV.den,Ch.den,Op.unary,Op.intArith]; simpa using h2,trivial⟩
 ·cases h
def kindOf (E : Env) (t : TypeId) : TKd:=match E.get t with | some ti=>ti.kind | none=>.other
theorem C1 {t : TypeId} (hE : EnvOk P E) : KindOk P t (kindOf E t):=by
 unfold kindOf
 cases h : E.get t with
 | none=>trivial
 | some ti=>exact (hE.get h).kind
def effConv (E : Env) (src dst : TypeId) : Option SV → Option Eff
 | some (.one (.lit _ z))=>match kindOf E src,kindOf E dst with | .int _,.int k=>some (.put (.one (.lit k (k.wrap z))) []) | _,_=>none
 | some (.one (.int _ z))=>match kindOf E src,kindOf E dst with | .int j,.int k=>bif j.signed && !k.signed then some (.put (.one (.int k (k.wrap z))) []) else some (.put (.one (.int k z)) [InR k z]) | _,_=>none
 | some (.one (.str l))=>match kindOf E src,kindOf E dst with | .str,.str=>some (.put (.one (.str l)) []) | _,_=>none
 | _=>none
theorem bg6 {src dst : TypeId} {x : Operand} {xs : Option SV} {s : SV} {vc : List Prop} (hE : EnvOk P E) (hx : Kn β m xs (ρ x)) (h : effConv E src dst xs = some (.put s vc)) (hv : AllT vc) :
  RunV P ρ (.convert src dst x) ty w (s.den β) ∧ s.Ok m:=by
 have h2:=C1 (t:=src) hE
 have h3:=C1 (t:=dst) hE
 unfold effConv at h
 split at h
 ·have h1:=(hx _ rfl).1
  split at h <;> first | (cases h; done) | skip
  rename_i e1 e2
  rw [e1] at h2
  rw [e2] at h3
  simp only [Option.some.injEq] at h
  obtain ⟨rfl,rfl⟩:=C8 h
  exact ⟨fun d pos aft g=>by simp [execOp,h1,SV.den,Ch.den,convert,run_underlying h2,run_underlying h3,Conv.intToInt],trivial⟩
 ·have h1:=(hx _ rfl).1
  split at h <;> first | (cases h; done) | skip
  rename_i j k e1 e2
  rw [e1] at h2
  rw [e2] at h3
  cases hb : (j.signed && !k.signed) with
  | true=>
   rw [hb] at h
   simp only [cond_true,Option.some.injEq] at h
   obtain ⟨rfl,rfl⟩:=C8 h
   exact ⟨fun d pos aft g=>by simp [execOp,h1,SV.den,Ch.den,convert,run_underlying h2,run_underlying h3,Conv.intToInt],trivial⟩
  | false=>
   rw [hb] at h
   simp only [cond_false,Option.some.injEq] at h
   obtain ⟨rfl,rfl⟩:=C8 h
   exact ⟨fun d pos aft g=>by simp [execOp,h1,SV.den,Ch.den,convert,run_underlying h2,run_underlying h3,Conv.intToInt,hv.1.wrap],trivial⟩
 ·have h1:=(hx _ rfl).1
  split at h <;> first | (cases h; done) | skip
  rename_i e1 e2
  rw [e1] at h2
  rw [e2] at h3
  simp only [Option.some.injEq] at h
  obtain ⟨rfl,rfl⟩:=C8 h
  exact ⟨fun d pos aft g=>by simp [execOp,h1,SV.den,Ch.den,convert,run_underlying h2,run_underlying h3],trivial⟩
 ·cases h
def capOf : Option SV → Option (Nat ⊕ Value)
 | some (.one (.ptr b 0))=>some (.inl b)
 | some (.one (.val x))=>some (.inr x)
 | some (.one (.sl x _))=>some (.inr x)
 | some (.one (.int k z))=>some (.inr (.int k z))
 | some (.one (.lit k z))=>some (.inr (.int k z))
 | some (.one (.str l))=>some (.inr (strV l))
 | some (.one (.ag _ x))=>some (.inr x)
 | _=>none
def capsOf : List (Option SV) → Option (List (Nat ⊕ Value))
 | []=>some []
 | x :: r=>match capOf x,capsOf r with | some c,some l=>some (c :: l) | _,_=>none
theorem b25 {x : Option SV} {c : Nat ⊕ Value} {v : Value} (hx : Kn β m x v) (h : capOf x = some c) : v = capDen β c ∧ ∀ b,c = .inl b → b < m:=by
 unfold capOf at h
 split at h <;> first | (cases h; done) | skip
 all_goals
  have h1:=hx _ rfl
  simp only [Option.some.injEq] at h
  subst h
 ·exact ⟨h1.1,fun b hb=>by cases hb; exact h1.2⟩
 all_goals exact ⟨h1.1,fun b hb=>by cases hb⟩
theorem br4 : ∀ {xs : List (Option SV)} {vs : List Value} {cs : List (Nat ⊕ Value)},xs.length = vs.length → (∀ i,Kn β m (xs.getD i none) (vs.getD i undef)) → capsOf xs = some cs → vs = cs.map (capDen β) ∧ ∀ b,Sum.inl b ∈ cs → b < m:=by
 intro xs
 induction xs with
 | nil=>
  intro vs cs hl hk h
  simp only [capsOf,Option.some.injEq] at h
  subst h
  cases vs with
  | nil=>exact ⟨rfl,fun b hb=>by cases hb⟩
  | cons v r=>simp at hl
 | cons x r ih=>
  intro vs cs hl hk h
  cases vs with
  | nil=>simp at hl
  | cons v vr=>
   simp only [capsOf] at h
   cases h1 : capOf x with
   | none=>rw [h1] at h; cases h
   | some c=>
    cases h2 : capsOf r with
    | none=>rw [h1,h2] at h; cases h
    | some l=>
     rw [h1,h2] at h
     simp only [Option.some.injEq] at h
     subst h
     have h3:=b25 (hk 0) h1
     have h4:=ih (by simpa using hl) (fun i=>hk (i + 1)) h2
     refine ⟨?_,?_⟩
     ·have e0 : v = capDen β c:=h3.1
      rw [List.map_cons,← h4.1,← e0]
     ·intro b hb
      rcases List.mem_cons.1 hb with e | hb
      ·exact h3.2 b e.symm
      ·exact h4.2 b hb
def effFunc (fn : Fn) (first : Array Operand) (caps : List (Option SV)) : Option Eff:=
 match fn,first.toList with
 | .func g,[]=>(capsOf caps).map fun l=>.put (.one (.fn g l)) []
 | _,_=>none
theorem bf4 {fn : Fn} {first cap : Array Operand} {f : Operand → Option SV} {s : SV} {vc : List Prop} (hx : ∀ x,x ∈ cap.toList → Kn β m (f x) (ρ x)) (h : effFunc fn first (cap.toList.map f) = some (.put s vc)) :
  RunV P ρ (.makeFunc fn first cap) ty w (s.den β) ∧ s.Ok m:=by
 unfold effFunc at h
 split at h
 ·rename_i g hf
  have hf' : first = #[]:=by simpa using hf
  subst hf'
  cases hc : capsOf (cap.toList.map f) with
  | none=>rw [hc] at h; cases h
  | some l=>
   rw [hc] at h
   simp only [Option.map_some,Option.some.injEq] at h
   obtain ⟨rfl,rfl⟩:=C8 h
   have hk:=br4 (β:=β) (m:=m) (vs:=cap.toList.map ρ) (by simp) (fun i=>by
    simp only [List.getD_eq_getElem?_getD,List.getElem?_map]
    cases hi : cap.toList[i]? with
    | none=>intro s hs; simp at hs
    | some x=>simpa using hx x (List.mem_of_getElem? hi)) hc
   refine ⟨fun d pos aft g=>?_,hk.2⟩
   have e : Array.map ρ cap = (l.map (capDen β)).toArray:=by rw [← hk.1,← Array.toList_map,Array.toArray_toList]
   simp [execOp,Instr.makeFunc,SV.den,Ch.den,e]
 ·cases h
def effFieldA (E : Env) (T : TypeId) (f : Nat) : Option SV → Option Eff
 | some (.one (.ptr b o))=>match kindOf E T with
  | .struct fs=>match (fs[f]? : Option (Nat × Nat × Bool)) with
   | some p=>bif Nat.beq p.2.1 0 then none else some (.put (.one (.ptr b (o + p.1))) [])
   | none=>none
  | _=>none
 | _=>none
theorem P5 (g o k : Nat) : (⟨g,o,none⟩ : Addr).add k = ⟨g,o + k,none⟩:=by
 unfold Addr.add
 split <;> simp_all
theorem a22 {T : TypeId} {f : Nat} {x : Operand} {xs : Option SV} {s : SV} {vc : List Prop} (hE : EnvOk P E) (hx : Kn β m xs (ρ x)) (h : effFieldA E T f xs = some (.put s vc)) :
  RunV P ρ (.fieldAddr T x f) ty w (s.den β) ∧ s.Ok m:=by
 have h2:=C1 (t:=T) hE
 unfold effFieldA at h
 split at h <;> first | (cases h; done) | skip
 rename_i b o
 have h1:=hx _ rfl
 split at h <;> first | (cases h; done) | skip
 rename_i fs e1
 rw [e1] at h2
 obtain ⟨fl,h3,h4,h5⟩:=h2
 split at h <;> first | (cases h; done) | skip
 rename_i p e2
 obtain ⟨fd,i,h6,h7,h8,h9,h10⟩:=al5 h4 f p e2
 cases hz : Nat.beq p.2.1 0 with
 | true=>rw [hz] at h; cases h
 | false=>
  rw [hz] at h
  simp only [cond_false,Option.some.injEq] at h
  obtain ⟨rfl,rfl⟩:=C8 h
  refine ⟨fun d pos aft g=>?_,h1.2⟩
  have hf : fl[f]? = some fd:=by simpa using h6
  have hn : i.size ≠ 0:=by rw [h9]; intro e; rw [e] at hz; cases hz
  simp [execOp,h1.1,SV.den,Ch.den,Instr.fieldAt,run_underlying h3,hf,Instr.sureAddr,fieldPlace,sizeOf,typeInfo,h8,hn,h7,P5]
def effField (E : Env) (T : TypeId) (f : Nat) : Option SV → Option Eff
 | some (.agg l)=>match kindOf E T with
  | .struct fs=>match (fs[f]? : Option (Nat × Nat × Bool)) with
   | some p=>((ldL l p.1 p.2.1).bind (mkV p.2.2)).map fun s=>.put s []
   | none=>none
  | _=>none
 | _=>none
theorem b38 {t : TypeId} {i : TypeInfo} (h : P.info? t = some i) : (sizeOf t).run P w = .ok i.size w:=by simp [sizeOf,typeInfo,h]
theorem bk7 {t : TypeId} {g : Bool} (h : aggOf (P.underlying t) = some g) : (isAgg t).run P w = .ok g w:=by
 cases hu : P.underlying t with
 | none=>rw [hu] at h; cases h
 | some d=>
  rw [hu] at h
  cases d <;> simp [aggOf] at h <;> subst h <;> simp [isAgg,run_underlying hu]
theorem a73 {t : TypeId} {l l' : List Ch} {o sz : Nat} {g : Bool} {s : SV} {i : TypeInfo} (hi : P.info? t = some i) (hs : i.size = sz) (hg : aggOf (P.underlying t) = some g) (hok : ∀ c ∈ l,c.Ok m)
  (h1 : ldL l o sz = some l') (h2 : mkV g l' = some s) : (part t (cellsL β l).toArray o).run P w = .ok (s.den β) w ∧ s.Ok m:=by
 obtain ⟨e1,e2,e3⟩:=bu2 (β:=β) h1 hok
 obtain ⟨e4,e5,e6⟩:=b12 (β:=β) h2 e3
 refine ⟨?_,e4⟩
 cases g with
 | true=>
  have e7 : (cellsL β l).toArray.extract o (o + sz) = (cellsL β l').toArray:=by
   rw [← e1]
   apply Array.toList_inj.1
   simp [List.extract_eq_take_drop]
  simp only [part,Sem.run_bind,bk7 hg,Result.andThen,b38 hi,hs,if_true,Sem.run_pure,e7,e5 rfl]
 | false=>
  have e7:=e6 rfl
  rw [e7] at e1 e2
  have e8 : (cellsL β l)[o]? = some (s.den β):=by
   have : (((cellsL β l).drop o).take sz)[0]? = some (s.den β):=by rw [e1]; rfl
   rw [List.getElem?_take] at this
   split at this
   ·simpa using this
   ·cases this
  simp [part,bk7 hg,e8]
theorem a94 {T : TypeId} {f : Nat} {x : Operand} {xs : Option SV} {s : SV} {vc : List Prop} (hE : EnvOk P E) (hx : Kn β m xs (ρ x)) (h : effField E T f xs = some (.put s vc)) :
  RunV P ρ (.field T x f) ty w (s.den β) ∧ s.Ok m:=by
 have h2:=C1 (t:=T) hE
 unfold effField at h
 split at h <;> first | (cases h; done) | skip
 rename_i l
 have h1:=hx _ rfl
 split at h <;> first | (cases h; done) | skip
 rename_i fs e1
 rw [e1] at h2
 obtain ⟨fl,h3,h4,h5⟩:=h2
 split at h <;> first | (cases h; done) | skip
 rename_i p e2
 obtain ⟨fd,i,h6,h7,h8,h9,h10⟩:=al5 h4 f p e2
 have h11:=Y4 h
 cases hl : ldL l p.1 p.2.1 with
 | none=>rw [hl] at h11; cases h11
 | some l'=>
  rw [hl] at h11
  simp only [Option.bind_some] at h11
  obtain ⟨h12,h13⟩:=a73 (P:=P) (w:=w) (β:=β) h8 h9 h10 h1.2 hl h11
  refine ⟨fun d pos aft g=>?_,h13⟩
  have hf : fl[f]? = some fd:=by simpa using h6
  simp [execOp,h1.1,SV.den,Instr.field,run_underlying h3,hf,asAgg,h7,h12]
def effIndexA (E : Env) (T : TypeId) : Option SV → Option SV → Option Eff
 | some (.one (.ptr b o)),some (.one (.lit _ z))=>match kindOf E T with
  | .array n e=>match E.get e with
   | some ti=>bif decide (0 ≤ z) && decide (z < n) then some (.put (.one (.ptr b (o + z.toNat * ti.size))) []) else none
   | none=>none
  | _=>none
 | some (.one (.win b o n c)),some (.one (.lit _ z))=>match kindOf E T with
  | .slice e=>match E.get e with
   | some ti=>bif decide (0 ≤ z) && decide (z < n) then some (.put (.one (.ptr b (o + z.toNat * ti.size))) []) else none
   | none=>none
  | _=>none
 | _,_=>none
theorem a14 {T : TypeId} {x y : Operand} {xs ys : Option SV} {s : SV} {vc : List Prop} (hE : EnvOk P E) (hx : Kn β m xs (ρ x)) (hy : Kn β m ys (ρ y)) (h : effIndexA E T xs ys = some (.put s vc)) :
  RunV P ρ (.indexAddr T x y) ty w (s.den β) ∧ s.Ok m:=by
 have h2:=C1 (t:=T) hE
 unfold effIndexA at h
 have fin : ∀ {z : Int} {n b o : Nat} {e : TypeId} {ti : TI},(bif decide (0 ≤ z) && decide (z < n) then some (Eff.put (.one (.ptr b (o + z.toNat * ti.size))) []) else none) = some (.put s vc) →
   (0 ≤ z ∧ z < n) ∧ s = .one (.ptr b (o + z.toNat * ti.size)):=by
  intro z n b o e ti h
  by_cases hr : 0 ≤ z ∧ z < n
  ·rw [decide_eq_true hr.1,decide_eq_true hr.2] at h
   simp only [Bool.and_self,cond_true,Option.some.injEq] at h
   exact ⟨hr,(C8 h).1.symm⟩
  ·exfalso
   have : (decide (0 ≤ z) && decide (z < n)) = false:=by
    rw [Bool.and_eq_false_iff,decide_eq_false_iff_not,decide_eq_false_iff_not]
    exact Decidable.not_and_iff_or_not.1 hr
   rw [this] at h
   cases h
 split at h <;> first | (cases h; done) | skip
 ·have h1:=hx _ rfl
  have h3:=hy _ rfl
  split at h <;> first | (cases h; done) | skip
  rename_i e1
  rw [e1] at h2
  split at h <;> first | (cases h; done) | skip
  rename_i ti e2
  obtain ⟨zz,hty,_⟩:=(hE.get e2).ty
  obtain ⟨hr,rfl⟩:=fin (e:=0) h
  refine ⟨fun d pos aft g=>?_,h1.2⟩
  simp [execOp,h1.1,h3.1,SV.den,Ch.den,Instr.indexAt,asIntOf,run_underlying h2,Instr.sureAddr,hr.1,hr.2,hty.runSize w,P5]
 ·have h1:=hx _ rfl
  have h3:=hy _ rfl
  split at h <;> first | (cases h; done) | skip
  rename_i e1
  rw [e1] at h2
  split at h <;> first | (cases h; done) | skip
  rename_i ti e2
  obtain ⟨zz,hty,_⟩:=(hE.get e2).ty
  obtain ⟨hr,rfl⟩:=fin (e:=0) h
  refine ⟨fun d pos aft g=>?_,h1.2⟩
  simp [execOp,h1.1,h3.1,SV.den,Ch.den,Instr.indexAt,asIntOf,run_underlying h2,Instr.sureAddr,hr.1,hr.2,hty.runSize w,P5]
def effIndex (E : Env) (T : TypeId) : Option SV → Option SV → Option Eff
 | some (.agg l),some (.one (.lit _ z))=>match kindOf E T with
  | .array n e=>match E.get e with
   | some ti=>bif decide (0 ≤ z) && decide (z < n) then ((ldL l (z.toNat * ti.size) ti.size).bind (mkV ti.agg)).map fun s=>.put s [] else none
   | none=>none
  | _=>none
 | _,_=>none
theorem a92 {T : TypeId} {x y : Operand} {xs ys : Option SV} {s : SV} {vc : List Prop} (hE : EnvOk P E) (hx : Kn β m xs (ρ x)) (hy : Kn β m ys (ρ y)) (h : effIndex E T xs ys = some (.put s vc)) :
  RunV P ρ (.index T x y) ty w (s.den β) ∧ s.Ok m:=by
 have h2:=C1 (t:=T) hE
 unfold effIndex at h
 split at h <;> first | (cases h; done) | skip
 have h1:=hx _ rfl
 have h3:=hy _ rfl
 split at h <;> first | (cases h; done) | skip
 rename_i e1
 rw [e1] at h2
 split at h <;> first | (cases h; done) | skip
 rename_i l k z _ n e _ ti e2
 obtain ⟨zz,hty,_⟩:=(hE.get e2).ty
 by_cases hr : 0 ≤ z ∧ z < n
 ·rw [decide_eq_true hr.1,decide_eq_true hr.2] at h
  simp only [Bool.and_self,cond_true] at h
  have h11:=Y4 h
  cases hl : ldL l (z.toNat * ti.size) ti.size with
  | none=>rw [hl] at h11; cases h11
  | some l'=>
   rw [hl] at h11
   simp only [Option.bind_some] at h11
   obtain ⟨i,hi,hi2,_⟩:=hty.ex
   obtain ⟨h12,h13⟩:=a73 (P:=P) (w:=w) (β:=β) hi hi2 hty.aggp h1.2 hl h11
   refine ⟨fun d pos aft g=>?_,h13⟩
   simp [execOp,h1.1,h3.1,SV.den,Ch.den,Instr.index,asIntOf,run_underlying h2,hr.1,hr.2,hty.runSize w,h12]
 ·exfalso
  have : (decide (0 ≤ z) && decide (z < n)) = false:=by
   rw [Bool.and_eq_false_iff,decide_eq_false_iff_not,decide_eq_false_iff_not]
   exact Decidable.not_and_iff_or_not.1 hr
  rw [this] at h
  cases h
def partSV : Bool × List Ch → Option SV
 | (true,l)=>some (.agg l)
 | (false,[c])=>some (.one c)
 | _=>none
def effExtract (i : Nat) : Option SV → Option Eff
 | some (.tup l)=>match (l[i]? : Option (Bool × List Ch)) with | some p=>(partSV p).map fun s=>.put s [] | none=>none
 | _=>none
theorem at1 {i : Nat} {x : Operand} {xs : Option SV} {s : SV} {vc : List Prop} (hx : Kn β m xs (ρ x)) (h : effExtract i xs = some (.put s vc)) :
  RunV P ρ (.extract x i) ty w (s.den β) ∧ s.Ok m:=by
 unfold effExtract at h
 split at h <;> first | (cases h; done) | skip
 rename_i l
 have h1:=hx _ rfl
 split at h <;> first | (cases h; done) | skip
 rename_i p hp
 have h2:=Y4 h
 have hok:=h1.2 p (List.mem_of_getElem? hp)
 have hd : s.den β = partDen β p ∧ s.Ok m:=by
  unfold partSV at h2
  split at h2 <;> first | (cases h2; done) | skip
  ·simp only [Option.some.injEq] at h2; subst h2; exact ⟨rfl,hok⟩
  ·simp only [Option.some.injEq] at h2; subst h2; exact ⟨rfl,hok _ (List.mem_cons_self ..)⟩
 refine ⟨fun d pos aft g=>?_,hd.2⟩
 have h1' : ρ x = .tuple (l.map (partDen β)).toArray:=h1.1
 simp [execOp,h1',Instr.extract,hp,hd.1]
def effNil : Option SV → Option Eff
 | some (.one (.ptr b o))=>some (.put (.one (.ptr b o)) [])
 | _=>none
theorem br5 {x : Operand} {xs : Option SV} {s : SV} {vc : List Prop} (hx : Kn β m xs (ρ x)) (h : effNil xs = some (.put s vc)) :
  RunV P ρ (.nilCheck x) ty w (s.den β) ∧ s.Ok m:=by
 unfold effNil at h
 split at h <;> first | (cases h; done) | skip
 have h1:=hx _ rfl
 simp only [Option.some.injEq] at h
 obtain ⟨rfl,rfl⟩:=C8 h
 refine ⟨fun d pos aft g=>?_,h1.2⟩
 simp [execOp,h1.1,SV.den,Ch.den]
end
end Go.Proofs.YtpheooheinfbgaaGreatDoor
end
section
set_option linter.unusedVariables false
set_option linter.unusedSimpArgs false
namespace Go.Proofs.YtpheooheinfbgaaGreatDoor
open Go Go.RowKit
def HE.mine (b : Nat) : HE → Nat → Prop
 | .blk _ _,k=>k = b
 | .row _ _ v _ _,k=>v.ownBlock = some k
 | .gone,_=>False
 | .abs A,k=>A.Q k
 | .hid _ _,k=>k = b
def mineAt (β : Nat → Nat) (hp : List HE) (i k : Nat) : Prop:=∃ e,hp[i]? = some e ∧ e.mine (β i) k
theorem L6 {β : Nat → Nat} {hp : List HE} {i k : Nat} {e : HE} (h : hp[i]? = some e) : mineAt β hp i k ↔ e.mine (β i) k:=by
 unfold mineAt
 rw [h]
 exact ⟨fun ⟨e',h1,h2⟩=>by cases h1; exact h2,fun h=>⟨e,rfl,h⟩⟩
theorem T6 {β : Nat → Nat} {hp : List HE} {i k : Nat} (h : hp[i]? = none) : ¬ mineAt β hp i k:=by
 unfold mineAt
 rw [h]
 rintro ⟨e,h1,_⟩
 cases h1
structure Mem (base : Bs) (hp : List HE) (β : Nat → Nat) (w : World) : Prop where
 blk : ∀ (i : Nat) (T : TypeId) (l : List Ch),hp[i]? = some (HE.blk T l) → Blk w (β i) T (cellsL β l) ∧ ∀ c ∈ l,c.Ok hp.length
 row : ∀ (i : Nat) (T : TypeId) (s : Nat) (v : Value) (n : Nat) (cs : List Value),hp[i]? = some (HE.row T s v n cs) → Own 0 T s w v n cs
 abs : ∀ (i : Nat) (A : AbsE),hp[i]? = some (HE.abs A) → A.R w
 low : ∀ i k,mineAt β hp i k → (base.n ≤ k ∨ ¬ base.K k) ∧ k < w.heap.size
 apart : ∀ i j k,mineAt β hp i k → mineAt β hp j k → i = j
def Sof (S0 : Nat → Prop) (β : Nat → Nat) (hp : List HE) : Nat → Prop:=fun k=>S0 k ∧ ∀ i,¬ mineAt β hp i k
section
variable {P : Program} {E : Env} {β : Nat → Nat} {m : Nat} {w : World} {ty : TypeId} {ρ : Operand → Value}
def effLoad (E : Env) (hp : List HE) (T : TypeId) : Option SV → Option Eff
 | some (.one (.ptr b o))=>match E.get T,nth hp b with
  | some ti,some (.blk _ l)=>((ldL l o ti.size).bind (mkV ti.agg)).map fun s=>.put s []
  | _,_=>none
 | _=>none
theorem a42 {T : TypeId} {ti : TI} {g o : Nat} {T' : TypeId} {l l' : List Ch} {s : SV} (hT : TyOk P T ti) (hb : Blk w g T' (cellsL β l)) (hok : ∀ c ∈ l,c.Ok m) (h1 : ldL l o ti.size = some l') (h2 : mkV ti.agg l' = some s) :
  (loadVar T ⟨g,o,none⟩).run P w = .ok (s.den β) w ∧ s.Ok m:=by
 obtain ⟨e1,e2,e3⟩:=bu2 (β:=β) h1 hok
 obtain ⟨e4,e5,e6⟩:=b12 (β:=β) h2 e3
 obtain ⟨z,hty,_⟩:=hT.ty
 have hcell : ∀ i,i < (cellsL β l').length → w.cell? ⟨g,o + i,none⟩ = (cellsL β l')[i]?:=by
  intro i hi
  have h3 : (cellsL β l')[i]? = (cellsL β l)[o + i]?:=by
   rw [← e1,List.getElem?_take,if_pos (by omega),List.getElem?_drop]
  rw [h3]
  have h4 : o + i < (cellsL β l).length:=by
   have : (cellsL β l')[i]? ≠ none:=by simp; omega
   rw [h3] at this
   simpa using this
  rw [List.getElem?_eq_getElem h4]
  exact hb.cell (List.getElem?_eq_getElem h4)
 refine ⟨?_,e4⟩
 cases hg : ti.agg with
 | true=>
  rw [hg] at hty
  rw [e5 hg]
  exact Z4 hty e2 hcell
 | false=>
  rw [hg] at hty
  have e7:=e6 hg
  have h5:=hcell 0 (by rw [e7]; simp)
  rw [e7] at h5
  exact M4 hty (by simpa using h5)
theorem ad7 {base : Bs} {hp : List HE} {T : TypeId} {x : Operand} {xs : Option SV} {s : SV} {vc : List Prop} (hE : EnvOk P E) (hm : Mem base hp β w) (hx : Kn β m xs (ρ x)) (h : effLoad E hp T xs = some (.put s vc)) :
  (∀ d pos aft g,(execOp ρ ⟨d,.load T x,ty,pos,aft,g⟩).run P w = .ok (.value (s.den β)) w) ∧ s.Ok hp.length:=by
 unfold effLoad at h
 split at h <;> first | (cases h; done) | skip
 rename_i b o
 have h1:=(hx _ rfl).1
 split at h <;> first | (cases h; done) | skip
 rename_i ti T' l e1 e2
 have h11:=Y4 h
 rw [I9] at e2
 obtain ⟨hb,hok⟩:=hm.blk b T' l e2
 cases hl : ldL l o ti.size with
 | none=>rw [hl] at h11; cases h11
 | some l'=>
  rw [hl] at h11
  simp only [Option.bind_some] at h11
  obtain ⟨h2,h3⟩:=a42 (P:=P) (hE.get e1) hb hok hl h11
  refine ⟨fun d pos aft g=>?_,h3⟩
  simp [execOp,h1,SV.den,Ch.den,Instr.loadAt,Instr.sureAddr,h2]
def effStore (E : Env) (hp : List HE) (T : TypeId) : Option SV → Option SV → Option Eff
 | some (.one (.ptr b o)),some y=>match E.get T,nth hp b,y.chunks with
  | some ti,some (.blk _ l),some new=>bif Nat.beq (sizeL new) ti.size then (stL l o ti.size new).map fun l'=>.wr b l' else none
  | _,_,_=>none
 | _,_=>none
theorem a54 {base : Bs} {hp : List HE} {T : TypeId} {x y : Operand} {xs ys : Option SV} {b : Nat} {l' : List Ch} (hE : EnvOk P E) (hm : Mem base hp β w) (hx : Kn β hp.length xs (ρ x)) (hy : Kn β hp.length ys (ρ y))
  (h : effStore E hp T xs ys = some (.wr b l')) : ∃ T' l w',hp[b]? = some (HE.blk T' l) ∧ (∀ c ∈ l',c.Ok hp.length) ∧ Wrt (β b) w w' ∧ Blk w' (β b) T' (cellsL β l') ∧
   ∀ d pos aft g,(execOp ρ ⟨d,.store T x y,ty,pos,aft,g⟩).run P w = .ok .skip w':=by
 unfold effStore at h
 split at h <;> first | (cases h; done) | skip
 rename_i b' o yv
 have h1:=(hx _ rfl).1
 have h2:=hy _ rfl
 split at h <;> first | (cases h; done) | skip
 rename_i ti T' l new e1 e2 e3
 cases hs : Nat.beq (sizeL new) ti.size with
 | false=>rw [hs] at h; cases h
 | true=>
  rw [hs] at h
  simp only [cond_true] at h
  cases hst : stL l o ti.size new with
  | none=>rw [hst] at h; cases h
  | some l2=>
   rw [hst] at h
   simp only [Option.map_some,Option.some.injEq] at h
   cases h
   rw [I9] at e2
   obtain ⟨hb,hok⟩:=hm.blk b T' l e2
   obtain ⟨h3,h4⟩:=SV.chunks_ok (β:=β) e3 h2.2
   obtain ⟨h5,h6,h7⟩:=ax7 (β:=β) hst hok h4
   obtain ⟨z,hty,_⟩:=(hE.get e1).ty
   have hlen:=G9 (β:=β) h4
   have hsz:=Nat.eq_of_beq_eq_true hs
   have h8:=run_storeCells_at P (β b) o T' (cellsL β new) 0 (cellsL β l).toArray w hb (by simp; omega) (N5 h4)
   have e9 : ((cellsL β l).toArray.toList.take (o + 0) ++ cellsL β new ++ (cellsL β l).toArray.toList.drop (o + 0 + (cellsL β new).length)).toArray = (cellsL β l').toArray:=by
    rw [← h5]
    simp [hlen,hsz]
   rw [e9] at h8
   refine ⟨T',l,w.setRow (β b) (cellsL β l').toArray,e2,h7,⟨rfl,rfl,rfl,by simp [World.setRow],fun k _ hk=>setRow_other w _ k _ hk⟩,setRow_heap w _ _ _ T' (0,0) hb,fun d pos aft g=>?_⟩
   have e10 : (cellsL β new).length = ti.size:=by omega
   have h11 : ρ x = .pointer (some ⟨β b,o,none⟩):=h1
   simp [execOp,h11,h2.1,Instr.storeAt,Instr.sureAddr,storeVar,hty.runSize w,h3,e10,h8]
def effBox (T : TypeId) (k : Nat) : Option SV → Option Eff
 | some x=>x.chunks.map fun l=>.mk T l (.one (.ptr k 0))
 | none=>none
theorem au6 {T : TypeId} {k : Nat} {x : Operand} {xs : Option SV} {T' : TypeId} {l : List Ch} {s : SV} (hx : Kn β m xs (ρ x)) (h : effBox T k xs = some (.mk T' l s)) :
  T' = T ∧ s = .one (.ptr k 0) ∧ (∀ c ∈ l,c.Ok m) ∧ ∀ d pos aft g,(execOp ρ ⟨d,.box T x,ty,pos,aft,g⟩).run P w = .ok (.value (.pointer (some ⟨w.heap.size,0,none⟩))) (w.alloc (.cells (cellsL β l).toArray T)):=by
 unfold effBox at h
 split at h <;> first | (cases h; done) | skip
 rename_i xv
 have h1:=hx _ rfl
 cases hc : xv.chunks with
 | none=>rw [hc] at h; cases h
 | some l2=>
  rw [hc] at h
  simp only [Option.map_some,Option.some.injEq] at h
  cases h
  obtain ⟨h3,h4⟩:=SV.chunks_ok (β:=β) hc h1.2
  exact ⟨rfl,rfl,h4,fun d pos aft g=>by simp [execOp,h1.1,Instr.box,newVar,newRow,h3]⟩
def effAlloc (E : Env) (T : TypeId) (k : Nat) : Option Eff:=(E.get T).map fun ti=>.mk T ti.zero (.one (.ptr k 0))
theorem al7 {T : TypeId} {k : Nat} {T' : TypeId} {l : List Ch} {s : SV} (hE : EnvOk P E) (h : effAlloc E T k = some (.mk T' l s)) :
  T' = T ∧ s = .one (.ptr k 0) ∧ (∀ c ∈ l,c.Ok m) ∧ ∀ d pos aft g,(execOp ρ ⟨d,.alloc T,ty,pos,aft,g⟩).run P w = .ok (.value (.pointer (some ⟨w.heap.size,0,none⟩))) (w.alloc (.cells (cellsL β l).toArray T)):=by
 unfold effAlloc at h
 cases ht : E.get T with
 | none=>rw [ht] at h; cases h
 | some ti=>
  rw [ht] at h
  simp only [Option.map_some,Option.some.injEq] at h
  cases h
  have hok:=(hE.get ht).ok
  obtain ⟨z,hty,hz⟩:=(hE.get ht).ty
  have e : cellsL (fun _=>0) ti.zero = cellsL β ti.zero:=E6 (m:=0) (fun i hi=>absurd hi (Nat.not_lt_zero i)) hok
  rw [e] at hz
  exact ⟨rfl,rfl,fun c hc=>(hok c hc).le (Nat.zero_le _),fun d pos aft g=>by simp [execOp,Instr.alloc,hty.runZero w,newVar,newRow,hz]⟩
def fillL (pl : Nat → Option (Nat × Nat)) : List Ch → List (Nat × Option SV) → Option (List Ch)
 | l,[]=>some l
 | l,(i,x) :: r=>match pl i,x.bind SV.chunks with
  | some (o,sz),some new=>bif Nat.beq (sizeL new) sz then (stL l o sz new).bind fun l'=>fillL pl l' r else none
  | _,_=>none
theorem a96 : ∀ (vs : List Value) (cs : Array Value) (o : Nat) (k : Nat),o + k + vs.length ≤ cs.size →
  ((vs.zipIdx k).foldl (fun cs (p : Value × Nat)=>cs.setIfInBounds (o + p.2) p.1) cs).toList = cs.toList.take (o + k) ++ vs ++ cs.toList.drop (o + k + vs.length):=by
 intro vs
 induction vs with
 | nil=>intro cs o k h; simp
 | cons v r ih=>
  intro cs o k h
  simp only [List.zipIdx_cons,List.foldl_cons,List.length_cons] at h ⊢
  rw [ih _ o (k + 1) (by simp; omega)]
  simp only [Array.toList_setIfInBounds]
  have h1 : (cs.toList.set (o + k) v).take (o + (k + 1)) = cs.toList.take (o + k) ++ [v]:=by
   rw [show o + (k + 1) = o + k + 1 by omega,List.take_add_one,List.take_set_of_le (Nat.le_refl _),List.getElem?_set_self (by simp; omega)]
   rfl
  have h2 : (cs.toList.set (o + k) v).drop (o + (k + 1) + r.length) = cs.toList.drop (o + k + (r.length + 1)):=by
   rw [List.drop_set_of_lt (by omega)]
   congr 1
   omega
  rw [h1,h2]
  simp
theorem a63 {pl : Nat → Option (Nat × Nat)} : ∀ {ps : List (Nat × Option SV)} {vs : List (Nat × Value)} {l l' : List Ch},ps.length = vs.length → (∀ (i : Nat) (p : Nat × Option SV) (v : Nat × Value),ps[i]? = some p → vs[i]? = some v → p.1 = v.1 ∧ Kn β m p.2 v.2) →
  (∀ c ∈ l,c.Ok m) → fillL pl l ps = some l' → Instr.fill pl (cellsL β l).toArray vs = some (cellsL β l').toArray ∧ ∀ c ∈ l',c.Ok m:=by
 intro ps
 induction ps with
 | nil=>
  intro vs l l' hl hk hok h
  simp only [fillL,Option.some.injEq] at h
  subst h
  cases vs with
  | nil=>exact ⟨rfl,hok⟩
  | cons v r=>simp at hl
 | cons p r ih=>
  intro vs l l' hl hk hok h
  obtain ⟨i,x⟩:=p
  cases vs with
  | nil=>simp at hl
  | cons v vr=>
   obtain ⟨i',v⟩:=v
   obtain ⟨h1,h2⟩:=hk 0 _ _ rfl rfl
   simp only at h1 h2
   subst h1
   simp only [fillL] at h
   split at h <;> first | (cases h; done) | skip
   rename_i o sz new e1 e2
   cases hs : Nat.beq (sizeL new) sz with
   | false=>rw [hs] at h; cases h
   | true=>
    rw [hs] at h
    simp only [cond_true] at h
    cases hst : stL l o sz new with
    | none=>rw [hst] at h; cases h
    | some l2=>
     rw [hst] at h
     simp only [Option.bind_some] at h
     cases x with
     | none=>cases e2
     | some xv=>
      simp only [Option.bind_some] at e2
      obtain ⟨h3,h4⟩:=h2 _ rfl
      obtain ⟨h5,h6⟩:=SV.chunks_ok (β:=β) e2 h4
      obtain ⟨h7,h8,h9⟩:=ax7 (β:=β) hst hok h6
      have hlen:=G9 (β:=β) h6
      have hsz:=Nat.eq_of_beq_eq_true hs
      obtain ⟨h10,h11⟩:=ih (vs:=vr) (by simpa using hl) (fun j p v hp hv=>hk (j + 1) p v (by simpa using hp) (by simpa using hv)) h9 h
      refine ⟨?_,h11⟩
      rw [Instr.fill]
      simp only [e1]
      rw [h3,h5]
      have hno : ((cellsL β new).toArray.size ≠ sz || decide (o + (cellsL β new).toArray.size > (cellsL β l).toArray.size)) = false:=by
       simp
       omega
      rw [if_neg (by rw [hno]; simp),← h10]
      congr 1
      apply Array.toList_inj.1
      have hf:=a96 (cellsL β new) (cellsL β l).toArray o 0 (by simp; omega)
      rw [← Array.foldl_toList]
      simp only [Array.toList_zipIdx,List.toList_toArray] at hf ⊢
      rw [hf,← h7]
      simp
      omega
def offs (fs : List (Nat × Nat × Bool)) (i : Nat) : Option (Nat × Nat):=(fs[i]?).map fun p=>(p.1,p.2.1)
def effBuild (E : Env) (T : TypeId) (ps : List (Nat × Option SV)) : Option Eff:=
 match E.get T with
 | some ti=>match ti.kind with
  | .struct fs=>(fillL (offs fs) ti.zero ps).map fun l=>.put (.agg l) []
  | .array _ e=>match E.get e with
   | some te=>(fillL (fun i=>some (i * te.size,te.size)) ti.zero ps).map fun l=>.put (.agg l) []
   | none=>none
  | _=>none
 | none=>none
theorem a28 {T : TypeId} {parts : Array (Nat × Operand)} {f : Operand → Option SV} {s : SV} {vc : List Prop} (hE : EnvOk P E) (hx : ∀ p ∈ parts.toList,Kn β m (f p.2) (ρ p.2))
  (h : effBuild E T (parts.toList.map fun p=>(p.1,f p.2)) = some (.put s vc)) : RunV P ρ (.build T parts) ty w (s.den β) ∧ s.Ok m:=by
 unfold effBuild at h
 split at h <;> first | (cases h; done) | skip
 rename_i ti e1
 obtain ⟨z,hty,hz⟩:=(hE.get e1).ty
 have hok:=(hE.get e1).ok
 have hkd:=(hE.get e1).kind
 have e : cellsL (fun _=>0) ti.zero = cellsL β ti.zero:=E6 (m:=0) (fun i hi=>absurd hi (Nat.not_lt_zero i)) hok
 rw [e] at hz
 have hk2 : ∀ (i : Nat) (p : Nat × Option SV) (v : Nat × Value),(parts.toList.map fun p=>(p.1,f p.2))[i]? = some p → (parts.toList.map fun p=>(p.1,ρ p.2))[i]? = some v → p.1 = v.1 ∧ Kn β m p.2 v.2:=by
  intro i p v hp hv
  simp only [List.getElem?_map] at hp hv
  cases hi : parts.toList[i]? with
  | none=>rw [hi] at hp; cases hp
  | some q=>
   rw [hi] at hp hv
   simp only [Option.map_some,Option.some.injEq] at hp hv
   subst hp hv
   exact ⟨rfl,hx q (List.mem_of_getElem? hi)⟩
 have hok' : ∀ c ∈ ti.zero,c.Ok m:=fun c hc=>(hok c hc).le (Nat.zero_le _)
 split at h <;> first | (cases h; done) | skip
 ·rename_i fs e2
  rw [e2] at hkd
  obtain ⟨fl,h3,h4,h5⟩:=hkd
  cases hf : fillL (offs fs) ti.zero (parts.toList.map fun p=>(p.1,f p.2)) with
  | none=>rw [hf] at h; cases h
  | some l=>
   rw [hf] at h
   simp only [Option.map_some,Option.some.injEq] at h
   obtain ⟨rfl,rfl⟩:=C8 h
   obtain ⟨h6,h7⟩:=a63 (β:=β) (m:=m) (vs:=parts.toList.map fun p=>(p.1,ρ p.2)) (by simp) hk2 hok' hf
   refine ⟨fun d pos aft g=>?_,h7⟩
   have h8 : Instr.fill (fun i=>Option.map (fun p : Nat × Nat × Bool=>(p.1,p.2.1)) fs[i]?) (cellsL β ti.zero).toArray (parts.toList.map fun p=>(p.1,ρ p.2)) = some (cellsL β l).toArray:=h6
   simp [execOp,Instr.build,hty.runZero w,run_underlying h3,h5,hz,h8,SV.den]
 ·rename_i n e0 e2
  rw [e2] at hkd
  split at h <;> first | (cases h; done) | skip
  rename_i te e3
  obtain ⟨ze,htye,_⟩:=(hE.get e3).ty
  cases hf : fillL (fun i=>some (i * te.size,te.size)) ti.zero (parts.toList.map fun p=>(p.1,f p.2)) with
  | none=>rw [hf] at h; cases h
  | some l=>
   rw [hf] at h
   simp only [Option.map_some,Option.some.injEq] at h
   obtain ⟨rfl,rfl⟩:=C8 h
   obtain ⟨h6,h7⟩:=a63 (β:=β) (m:=m) (vs:=parts.toList.map fun p=>(p.1,ρ p.2)) (by simp) hk2 hok' hf
   refine ⟨fun d pos aft g=>?_,h7⟩
   have hkd' : P.underlying T = some (.array n e0):=hkd
   simp [execOp,Instr.build,hty.runZero w,run_underlying hkd',htye.runSize w,hz,h6,SV.den]
end
end Go.Proofs.YtpheooheinfbgaaGreatDoor
end
section
set_option linter.unusedVariables false
set_option linter.unusedSimpArgs false
namespace Go.Proofs.YtpheooheinfbgaaGreatDoor
open Go Go.RowKit
section
variable {P : Program} {E : Env} {β : Nat → Nat} {m : Nat} {w : World} {ty : TypeId} {ρ : Operand → Value}
def rowL (sz : Nat) : Nat → List (Nat × Option SV) → Option (List Ch)
 | _,[]=>some []
 | i,(j,x) :: r=>match x.bind SV.chunks with
  | some new=>bif Nat.beq i j && Nat.beq (sizeL new) sz then (rowL sz (i + 1) r).map (new ++ ·) else none
  | none=>none
theorem ce4 {sz : Nat} : ∀ {ps : List (Nat × Option SV)} {vs : List (Nat × Value)} {l : List Ch} {i : Nat} {arr : Array Value},ps.length = vs.length → (∀ (i : Nat) (p : Nat × Option SV) (v : Nat × Value),ps[i]? = some p → vs[i]? = some v → p.1 = v.1 ∧ Kn β m p.2 v.2) →
  arr.size = (i + ps.length) * sz → rowL sz i ps = some l → Instr.fill (fun i=>some (i * sz,sz)) arr vs = some (arr.toList.take (i * sz) ++ cellsL β l).toArray ∧ ∀ c ∈ l,c.Ok m:=by
 intro ps
 induction ps with
 | nil=>
  intro vs l i arr hl hk hz h
  simp only [rowL,Option.some.injEq] at h
  subst h
  cases vs with
  | nil=>
   refine ⟨?_,fun c hc=>by cases hc⟩
   simp only [Instr.fill,cellsL,List.flatMap_nil,List.append_nil]
   congr 1
   apply Array.toList_inj.1
   simp only [List.length_nil,Nat.add_zero] at hz
   simp only [List.toList_toArray]
   rw [List.take_of_length_le (by simp; omega)]
  | cons v r=>simp at hl
 | cons p r ih=>
  intro vs l i arr hl hk hz h
  obtain ⟨j,x⟩:=p
  cases vs with
  | nil=>simp at hl
  | cons v vr=>
   obtain ⟨j',v⟩:=v
   obtain ⟨h1,h2⟩:=hk 0 _ _ rfl rfl
   simp only at h1 h2
   subst h1
   simp only [rowL] at h
   split at h <;> first | (cases h; done) | skip
   rename_i new e2
   cases hs : (Nat.beq i j && Nat.beq (sizeL new) sz) with
   | false=>rw [hs] at h; cases h
   | true=>
    rw [hs] at h
    simp only [Bool.and_eq_true] at hs
    obtain rfl:=Nat.eq_of_beq_eq_true hs.1
    have hsz:=Nat.eq_of_beq_eq_true hs.2
    cases x with
    | none=>cases e2
    | some xv=>
     simp only [Option.bind_some] at e2
     obtain ⟨h3,h4⟩:=h2 _ rfl
     obtain ⟨h5,h6⟩:=SV.chunks_ok (β:=β) e2 h4
     have hlen:=G9 (β:=β) h6
     cases hr : rowL sz (i + 1) r with
     | none=>rw [hr] at h; cases h
     | some l2=>
      rw [hr] at h
      simp only [cond_true,Option.map_some,Option.some.injEq] at h
      subst h
      have hz1 : arr.size = i * sz + sz + r.length * sz:=by
       rw [hz,List.length_cons,Nat.add_mul,Nat.add_mul,Nat.one_mul]; omega
      have hf:=a96 (cellsL β new) arr (i * sz) 0 (by omega)
      have ih2:=ih (vs:=vr) (l:=l2) (i:=i + 1) (arr:=(arr.toList.take (i * sz) ++ cellsL β new ++ arr.toList.drop (i * sz + sz)).toArray) (by simpa using hl) (fun j p v hp hv=>hk (j + 1) p v (by simpa using hp) (by simpa using hv)) (by
       simp only [List.size_toArray,List.length_append,List.length_take,List.length_drop,Array.length_toList,hlen,hsz]
       rw [show (i + 1 + r.length) * sz = i * sz + sz + r.length * sz by rw [Nat.add_mul,Nat.add_mul,Nat.one_mul]]
       omega) hr
      refine ⟨?_,?_⟩
      ·rw [Instr.fill]
       simp only
       rw [h3,h5]
       have hno : ((cellsL β new).toArray.size ≠ sz || decide (i * sz + (cellsL β new).toArray.size > arr.size)) = false:=by
        simp
        omega
       rw [if_neg (by rw [hno]; simp)]
       have e3 : Array.foldl (fun cs (x : Value × Nat)=>cs.setIfInBounds (i * sz + x.snd) x.fst) arr (cellsL β new).toArray.zipIdx = (arr.toList.take (i * sz) ++ cellsL β new ++ arr.toList.drop (i * sz + sz)).toArray:=by
        apply Array.toList_inj.1
        rw [← Array.foldl_toList]
        simp only [Array.toList_zipIdx,List.toList_toArray] at hf ⊢
        rw [hf]
        simp [hlen,hsz]
       rw [e3,ih2.1]
       congr 2
       rw [show (i + 1) * sz = i * sz + sz by rw [Nat.add_mul,Nat.one_mul]]
       have e4 : (arr.toList.take (i * sz) ++ cellsL β new).length = i * sz + sz:=by
        simp only [List.length_append,List.length_take,Array.length_toList,hlen,hsz]
        omega
       rw [List.take_append,e4,Nat.sub_self,List.take_zero,List.append_nil,List.take_of_length_le (by omega)]
       simp [cellsL]
      ·intro c hc
       rcases List.mem_append.1 hc with hc | hc
       ·exact h6 c hc
       ·exact ih2.2 c hc
def effLit (E : Env) (T : TypeId) (n k : Nat) (ps : List (Nat × Option SV)) : Option Eff:=
 match kindOf E T with
 | .slice e=>match E.get e with
  | some te=>bif Nat.ble (n * te.size) 16777216 && Nat.beq ps.length n then (rowL te.size 0 ps).map fun l=>.mk e l (.one (.win k 0 n n)) else none
  | none=>none
 | _=>none
theorem au7 {T T' : TypeId} {n k : Nat} {parts : Array (Nat × Operand)} {f : Operand → Option SV} {l : List Ch} {s : SV} (hE : EnvOk P E) (hx : ∀ p ∈ parts.toList,Kn β m (f p.2) (ρ p.2))
  (h : effLit E T n k (parts.toList.map fun p=>(p.1,f p.2)) = some (.mk T' l s)) :
  s = .one (.win k 0 n n) ∧ (∀ c ∈ l,c.Ok m) ∧ ∀ d pos aft g,(execOp ρ ⟨d,.buildSlice T n parts,ty,pos,aft,g⟩).run P w = .ok (.value (.slice (some ⟨w.heap.size,0,none⟩) n n)) (w.alloc (.cells (cellsL β l).toArray T')):=by
 have hkd:=C1 (t:=T) hE
 unfold effLit at h
 split at h <;> first | (cases h; done) | skip
 rename_i e e1
 rw [e1] at hkd
 split at h <;> first | (cases h; done) | skip
 rename_i te e2
 obtain ⟨z,hty,hz⟩:=(hE.get e2).ty
 cases hb : (Nat.ble (n * te.size) 16777216 && Nat.beq (parts.toList.map fun p=>(p.1,f p.2)).length n) with
 | false=>rw [hb] at h; cases h
 | true=>
  rw [hb] at h
  simp only [Bool.and_eq_true] at hb
  have hle:=Nat.le_of_ble_eq_true hb.1
  have hlen:=Nat.eq_of_beq_eq_true hb.2
  cases hr : rowL te.size 0 (parts.toList.map fun p=>(p.1,f p.2)) with
  | none=>rw [hr] at h; cases h
  | some l2=>
   rw [hr] at h
   simp only [cond_true,Option.map_some,Option.some.injEq] at h
   cases h
   have hk2 : ∀ (i : Nat) (p : Nat × Option SV) (v : Nat × Value),(parts.toList.map fun p=>(p.1,f p.2))[i]? = some p → (parts.toList.map fun p=>(p.1,ρ p.2))[i]? = some v → p.1 = v.1 ∧ Kn β m p.2 v.2:=by
    intro i p v hp hv
    simp only [List.getElem?_map] at hp hv
    cases hi : parts.toList[i]? with
    | none=>rw [hi] at hp; cases hp
    | some q=>
     rw [hi] at hp hv
     simp only [Option.map_some,Option.some.injEq] at hp hv
     subst hp hv
     exact ⟨rfl,hx q (List.mem_of_getElem? hi)⟩
   have hfill : ∀ arr : Array Value,arr.size = n * te.size → Instr.fill (fun i=>some (i * te.size,te.size)) arr (parts.toList.map fun p=>(p.1,ρ p.2)) = some (cellsL β l).toArray ∧ ∀ c ∈ l,c.Ok m:=by
    intro arr ha
    have h1:=ce4 (β:=β) (m:=m) (vs:=parts.toList.map fun p=>(p.1,ρ p.2)) (arr:=arr) (by simp) hk2 (by rw [hlen,ha,Nat.zero_add]) hr
    simpa using h1
   refine ⟨rfl,(hfill (Array.replicate (n * te.size) undef) (by simp)).2,fun d pos aft g=>?_⟩
   have hkd' : P.underlying T = some (.slice T'):=hkd
   by_cases h0 : n * te.size = 0
   ·have hf:=(hfill (Array.map (fun _=>default) (Array.range 0)) (by simp [h0])).1
    simp [execOp,Instr.buildSlice,run_underlying hkd',hty.runSize w,h0,newRow,hf]
   ·have hf:=(hfill ((Array.range (n * te.size)).map (z.cells[· % z.cells.size]!)) (by simp)).1
    have hgt : ¬ 16777216 < n * te.size:=by omega
    simp [execOp,Instr.buildSlice,run_underlying hkd',hty.runSize w,h0,hty.runZero w,newRow,hf,hgt]
def closedCh : Ch → Bool
 | .ptr _ _=>false
 | .win _ _ _ _=>false
 | .fn _ cap=>cap.all fun c=>match c with | .inl _=>false | .inr _=>true
 | _=>true
theorem am2 {c : Ch} (h : closedCh c = true) (ok : c.Ok m) : c.Ok 0:=by
 cases c with
 | ptr b o=>cases h
 | win b o n c=>cases h
 | fn g cap=>
  intro b hb
  have:=List.all_eq_true.1 h _ hb
  cases this
 | _=>exact ok
def plainKd : TKd → Bool
 | .iface=>false
 | .other=>false
 | _=>true
noncomputable def effIface (E : Env) (T : TypeId) : Option SV → Option Eff
 | some (.one c)=>bif plainKd (kindOf E T) && closedCh c then some (.put (.one (.val (.iface T (c.den fun _=>0)))) []) else none
 | some (.agg l)=>bif plainKd (kindOf E T) && l.all closedCh then some (.put (.one (.val (.iface T (SV.den (fun _=>0) (.agg l))))) []) else none
 | _=>none
theorem ba3 {t : TypeId} {k : TKd} (hk : KindOk P t k) (hp : plainKd k = true) : ∃ d,P.underlying t = some d ∧ ∀ ms,d ≠ .interface ms:=by
 cases k <;> first | (cases hp; done) | skip
 case struct fs=>obtain ⟨fl,h,_⟩:=hk; exact ⟨_,h,fun ms h=>by cases h⟩
 all_goals exact ⟨_,hk,fun ms h=>by cases h⟩
theorem a93 {T : TypeId} {x : Operand} {xs : Option SV} {s : SV} {vc : List Prop} (hE : EnvOk P E) (hx : Kn β m xs (ρ x)) (h : effIface E T xs = some (.put s vc)) :
  RunV P ρ (.makeInterface T x) ty w (s.den β) ∧ s.Ok m:=by
 have hkd:=C1 (t:=T) hE
 have hrun : ∀ v,ρ x = v → plainKd (kindOf E T) = true → ∀ d pos aft g,(execOp ρ ⟨d,.makeInterface T x,ty,pos,aft,g⟩).run P w = .ok (.value (.iface T v)) w:=by
  intro v hv hp d pos aft g
  obtain ⟨td,h1,h2⟩:=ba3 hkd hp
  subst hv
  have h3 : (Instr.makeInterface T (ρ x)).run P w = .ok (.iface T (ρ x)) w:=by
   unfold Instr.makeInterface
   simp only [Sem.run_bind,run_underlying h1,Result.andThen]
   cases td <;> first | rfl | exact absurd rfl (h2 _)
  simp [execOp,h3]
 unfold effIface at h
 split at h <;> first | (cases h; done) | skip
 ·rename_i c
  have h1:=hx _ rfl
  cases hb : (plainKd (kindOf E T) && closedCh c) with
  | false=>rw [hb] at h; cases h
  | true=>
   rw [hb] at h
   simp only [Bool.and_eq_true] at hb
   simp only [cond_true,Option.some.injEq] at h
   obtain ⟨rfl,rfl⟩:=C8 h
   refine ⟨fun d pos aft g=>?_,rfl⟩
   have e : (SV.one c).den β = c.den fun _=>0:=SV.den_congr (s:=.one c) (m:=0) (fun i hi=>absurd hi (Nat.not_lt_zero i)) (am2 hb.2 h1.2)
   rw [hrun _ (h1.1.trans e) hb.1]
   rfl
 ·rename_i l
  have h1:=hx _ rfl
  cases hb : (plainKd (kindOf E T) && l.all closedCh) with
  | false=>rw [hb] at h; cases h
  | true=>
   rw [hb] at h
   simp only [Bool.and_eq_true] at hb
   simp only [cond_true,Option.some.injEq] at h
   obtain ⟨rfl,rfl⟩:=C8 h
   refine ⟨fun d pos aft g=>?_,rfl⟩
   have e : (SV.agg l).den β = SV.den (fun _=>0) (.agg l):=SV.den_congr (s:=.agg l) (m:=0) (fun i hi=>absurd hi (Nat.not_lt_zero i)) (fun c hc=>am2 (List.all_eq_true.1 hb.2 c hc) (h1.2 c hc))
   rw [hrun _ (h1.1.trans e) hb.1]
   rfl
def bnd : Option (Option SV) → Nat → Option Nat
 | none,d=>some d
 | some (some (.one (.lit .i64 z))),_=>bif decide (0 ≤ z) then some z.toNat else none
 | _,_=>none
def effWin (E : Env) (T : TypeId) (x : Option SV) (lo hi mx : Option (Option SV)) : Option Eff:=
 match x,kindOf E T with
 | some (.one (.ptr b o)),.array n e=>match E.get e,bnd mx n with
  | some te,some c=>match bnd hi n with
   | some h=>match bnd lo 0 with
    | some l=>bif Nat.ble l h && Nat.ble h c && Nat.ble c n && (mx.isNone || hi.isSome) then some (.put (.one (.win b (bif Nat.beq c l then o else o + l * te.size) (h - l) (c - l))) []) else none
    | none=>none
   | none=>none
  | _,_=>none
 | _,_=>none
theorem ab9 {x : Option (Option SV)} {xo : Option Operand} {d k y : Nat} {code : BoundsCode} {v : Value} (h : bnd x d = some k) (hs : x.isSome = true) (hk : ∀ o,xo = some o → Kn β m (x.getD none) (ρ o)) (hx : xo.map ρ = some v) (hle : k ≤ y) :
  (Instr.sliceBound v y code).run P w = .ok k w:=by
 cases xo with
 | none=>cases hx
 | some o=>
  simp only [Option.map_some,Option.some.injEq] at hx
  subst hx
  unfold bnd at h
  split at h <;> first | (cases h; done) | skip
  ·cases hs
  ·rename_i z
   have h1:=(hk o rfl _ rfl).1
   by_cases h0 : 0 ≤ z
   ·rw [decide_eq_true h0] at h
    simp only [cond_true,Option.some.injEq] at h
    subst h
    simp only [SV.den,Ch.den] at h1
    have h2 : z ≤ (y : Int):=by omega
    simp [Instr.sliceBound,h1,asIntOf,h0,h2]
   ·rw [decide_eq_false h0] at h
    cases h
theorem bm6 {T : TypeId} {x : Operand} {lo hi mx : Option Operand} {f : Operand → Option SV} {s : SV} {vc : List Prop} (hE : EnvOk P E) (hx : Kn β m (f x) (ρ x)) (hl : ∀ o,lo = some o → Kn β m (f o) (ρ o)) (hh : ∀ o,hi = some o → Kn β m (f o) (ρ o)) (hmx : ∀ o,mx = some o → Kn β m (f o) (ρ o))
  (h : effWin E T (f x) (lo.map f) (hi.map f) (mx.map f) = some (.put s vc)) : RunV P ρ (.slice T x lo hi mx) ty w (s.den β) ∧ s.Ok m:=by
 have hkd:=C1 (t:=T) hE
 unfold effWin at h
 split at h <;> first | (cases h; done) | skip
 rename_i b o n e e1 e2
 rw [e2] at hkd
 have h1:=hx _ e1
 split at h <;> first | (cases h; done) | skip
 rename_i te c e3 e4
 obtain ⟨z,hty,_⟩:=(hE.get e3).ty
 split at h <;> first | (cases h; done) | skip
 rename_i hh' e5
 split at h <;> first | (cases h; done) | skip
 rename_i l e6
 cases hb : (Nat.ble l hh' && Nat.ble hh' c && Nat.ble c n && ((mx.map f).isNone || (hi.map f).isSome)) with
 | false=>rw [hb] at h; cases h
 | true=>
  rw [hb] at h
  simp only [Bool.and_eq_true] at hb
  obtain ⟨⟨⟨b1,b2⟩,b3⟩,b4⟩:=hb
  have c1:=Nat.le_of_ble_eq_true b1
  have c2:=Nat.le_of_ble_eq_true b2
  have c3:=Nat.le_of_ble_eq_true b3
  simp only [cond_true,Option.some.injEq] at h
  obtain ⟨rfl,rfl⟩:=C8 h
  refine ⟨fun d pos aft g=>?_,h1.2⟩
  have hbs : (Instr.sliceBounds false n n (lo.map ρ) (hi.map ρ) (mx.map ρ)).run P w = .ok (l,hh',c) w:=by
   unfold Instr.sliceBounds
   cases mx with
   | none=>
    have ec : c = n:=by simpa [bnd] using e4.symm
    subst ec
    cases hi with
    | none=>
     have eh : hh' = c:=by simpa [bnd] using e5.symm
     subst eh
     cases lo with
     | none=>
      have el : l = 0:=by simpa [bnd] using e6.symm
      subst el
      simp
     | some lo'=>
      have r1:=fun code=>ab9 (P:=P) (w:=w) (ρ:=ρ) (β:=β) (m:=m) (y:=hh') (code:=code) (v:=ρ lo') e6 rfl (xo:=some lo') (fun o ho=>by cases ho; exact hl _ rfl) rfl c1
      simp [r1]
    | some hi'=>
     have r2:=fun code=>ab9 (P:=P) (w:=w) (ρ:=ρ) (β:=β) (m:=m) (y:=c) (code:=code) (v:=ρ hi') e5 rfl (xo:=some hi') (fun o ho=>by cases ho; exact hh _ rfl) rfl c2
     cases lo with
     | none=>
      have el : l = 0:=by simpa [bnd] using e6.symm
      subst el
      simp [r2]
     | some lo'=>
      have r1:=fun code=>ab9 (P:=P) (w:=w) (ρ:=ρ) (β:=β) (m:=m) (y:=hh') (code:=code) (v:=ρ lo') e6 rfl (xo:=some lo') (fun o ho=>by cases ho; exact hl _ rfl) rfl c1
      simp [r1,r2]
   | some mx'=>
    have r3:=fun code=>ab9 (P:=P) (w:=w) (ρ:=ρ) (β:=β) (m:=m) (y:=n) (code:=code) (v:=ρ mx') e4 rfl (xo:=some mx') (fun o ho=>by cases ho; exact hmx _ rfl) rfl c3
    cases hi with
    | none=>simp at b4
    | some hi'=>
     have r2:=fun code=>ab9 (P:=P) (w:=w) (ρ:=ρ) (β:=β) (m:=m) (y:=c) (code:=code) (v:=ρ hi') e5 rfl (xo:=some hi') (fun o ho=>by cases ho; exact hh _ rfl) rfl c2
     cases lo with
     | none=>
      have el : l = 0:=by simpa [bnd] using e6.symm
      subst el
      simp [r2,r3]
     | some lo'=>
      have r1:=fun code=>ab9 (P:=P) (w:=w) (ρ:=ρ) (β:=β) (m:=m) (y:=hh') (code:=code) (v:=ρ lo') e6 rfl (xo:=some lo') (fun o ho=>by cases ho; exact hl _ rfl) rfl c1
      simp [r1,r2,r3]
  have h1' : ρ x = .pointer (some ⟨β b,o,none⟩):=h1.1
  have hkd' : P.underlying T = some (.array n e):=hkd
  have e7 : (if c = l then (⟨β b,o,none⟩ : Addr) else (⟨β b,o,none⟩ : Addr).add (l * te.size)) = ⟨β b,bif Nat.beq c l then o else o + l * te.size,none⟩:=by
   by_cases hcl : c = l
   ·subst hcl; simp
   ·have : Nat.beq c l = false:=by
     cases hq : Nat.beq c l with
     | false=>rfl
     | true=>exact absurd (Nat.eq_of_beq_eq_true hq) hcl
    rw [if_neg hcl,P5,this]
    rfl
  simp [execOp,h1',Instr.sliceAt,run_underlying hkd',Instr.sureAddr,hbs,hty.runSize w,e7,SV.den,Ch.den]
def effCall (E : Env) (cl : Callee) (ts : List TypeId) (xs : List (Option SV)) : Option Eff:=
 match cl,ts,xs with
 | .builtin .len,[t],[some (.one (.sl _ n))]=>match kindOf E t with | .slice _=>some (.put (.one (.int .i64 n)) []) | _=>none
 | .builtin .len,[t],[some (.one (.win _ _ n _))]=>match kindOf E t with | .slice _=>some (.put (.one (.lit .i64 n)) []) | _=>none
 | .builtin .len,[t],[some (.one (.str l))]=>match kindOf E t with | .str=>some (.put (.one (.int .i64 l.length)) []) | _=>none
 | .builtin .max,_,[some (.one (.lit k a)),some (.one (.lit _ b))]=>some (.put (.one (.lit k (max a b))) [])
 | .builtin .max,_,[some (.one (.int k a)),some (.one (.lit _ b))]=>some (.put (.one (.int k (max a b))) [])
 | .builtin .max,_,[some (.one (.lit k a)),some (.one (.int _ b))]=>some (.put (.one (.int k (max a b))) [])
 | .builtin .max,_,[some (.one (.int k a)),some (.one (.int _ b))]=>some (.put (.one (.int k (max a b))) [])
 | .builtin .min,_,[some (.one (.lit k a)),some (.one (.lit _ b))]=>some (.put (.one (.lit k (min a b))) [])
 | .builtin .min,_,[some (.one (.int k a)),some (.one (.lit _ b))]=>some (.put (.one (.int k (min a b))) [])
 | .builtin .min,_,[some (.one (.lit k a)),some (.one (.int _ b))]=>some (.put (.one (.int k (min a b))) [])
 | .builtin .min,_,[some (.one (.int k a)),some (.one (.int _ b))]=>some (.put (.one (.int k (min a b))) [])
 | _,_,_=>none
theorem cl7 (a b : Int) : (if b > a then b else a) = max a b:=by split <;> omega
theorem ck9 (a b : Int) : (if b < a then b else a) = min a b:=by split <;> omega
theorem bf8 {c : Call} {f : Operand → Option SV} {s : SV} {vc : List Prop} (hE : EnvOk P E) (hx : ∀ x ∈ c.args.toList,Kn β m (f x) (ρ x)) (h : effCall E c.callee c.argTypes.toList (c.args.toList.map f) = some (.put s vc)) :
  RunV P ρ (.call c) ty w (s.den β) ∧ s.Ok m:=by
 obtain ⟨cl,args,ts⟩:=c
 simp only at h hx
 generalize hts : ts.toList = tl at h
 have hts' : ts = tl.toArray:=by rw [← hts,Array.toArray_toList]
 subst hts'
 have two : ∀ {u v : Option SV},args.toList.map f = [u,v] → ∃ x y,args = #[x,y] ∧ Kn β m u (ρ x) ∧ Kn β m v (ρ y):=by
  intro u v he
  match hal : args.toList,he with
  | [x,y],he=>
   rw [hal] at hx
   simp only [List.map_cons,List.map_nil,List.cons.injEq,and_true] at he
   exact ⟨x,y,by rw [← Array.toArray_toList (xs:=args),hal],by rw [← he.1]; exact hx x (by simp),by rw [← he.2]; exact hx y (by simp)⟩
 have one : ∀ {u : Option SV},args.toList.map f = [u] → ∃ x,args = #[x] ∧ Kn β m u (ρ x):=by
  intro u he
  match hal : args.toList,he with
  | [x],he=>
   rw [hal] at hx
   simp only [List.map_cons,List.map_nil,List.cons.injEq,and_true] at he
   exact ⟨x,by rw [← Array.toArray_toList (xs:=args),hal],by rw [← he]; exact hx x (by simp)⟩
 generalize hxs : args.toList.map f = xl at h
 unfold effCall at h
 split at h <;> first | (cases h; done) | skip
 ·rename_i t sv n
  have hkd:=C1 (t:=t) hE
  obtain ⟨x,rfl,h1⟩:=one hxs
  split at h <;> first | (cases h; done) | skip
  rename_i e e1
  rw [e1] at hkd
  have hkd' : P.underlying t = some (.slice e):=hkd
  simp only [Option.some.injEq] at h
  obtain ⟨rfl,rfl⟩:=C8 h
  obtain ⟨h2,a,cc,h3,_⟩:=h1 _ rfl
  have h4 : ρ x = .slice a n cc:=by rw [h2]; exact h3
  exact ⟨fun d pos aft g=>by simp [execOp,resolve,invoke,builtin,h4,Builtin.len_,run_underlying hkd',goInt,SV.den,Ch.den],trivial⟩
 ·rename_i t _ _ n _
  have hkd:=C1 (t:=t) hE
  obtain ⟨x,rfl,h1⟩:=one hxs
  split at h <;> first | (cases h; done) | skip
  rename_i e e1
  rw [e1] at hkd
  have hkd' : P.underlying t = some (.slice e):=hkd
  simp only [Option.some.injEq] at h
  obtain ⟨rfl,rfl⟩:=C8 h
  have h4:=(h1 _ rfl).1
  exact ⟨fun d pos aft g=>by simp [execOp,resolve,invoke,builtin,h4,Builtin.len_,run_underlying hkd',goInt,SV.den,Ch.den],trivial⟩
 ·rename_i t l
  have hkd:=C1 (t:=t) hE
  obtain ⟨x,rfl,h1⟩:=one hxs
  split at h <;> first | (cases h; done) | skip
  rename_i e1
  rw [e1] at hkd
  have hkd' : P.underlying t = some .string:=hkd
  simp only [Option.some.injEq] at h
  obtain ⟨rfl,rfl⟩:=C8 h
  have h4:=(h1 _ rfl).1
  have h5 : ρ x = strV l:=h4
  have e5 : (⟨l.toArray⟩ : ByteArray).size = l.length:=by show l.toArray.size = _; simp
  exact ⟨fun d pos aft g=>by simp [execOp,resolve,invoke,builtin,h5,Builtin.len_,run_underlying hkd',goInt,SV.den,Ch.den,e5,-ByteArray.size_data],trivial⟩
 all_goals
  obtain ⟨x,y,rfl,h1,h2⟩:=two hxs
  simp only [Option.some.injEq] at h
  obtain ⟨rfl,rfl⟩:=C8 h
  have h3:=(h1 _ rfl).1
  have h4:=(h2 _ rfl).1
  simp only [SV.den,Ch.den] at h3 h4
  exact ⟨fun d pos aft g=>by simp [execOp,resolve,invoke,builtin,h3,h4,run_max_int2,run_min_int2,cl7,ck9,SV.den,Ch.den],trivial⟩
end
end Go.Proofs.YtpheooheinfbgaaGreatDoor
end
section
set_option linter.unusedVariables false
set_option linter.unusedSimpArgs false
namespace Go.Proofs.YtpheooheinfbgaaGreatDoor
open Go Go.RowKit
def putOnly : Option Eff → Option Eff
 | some (.put s vc)=>some (.put s vc)
 | _=>none
def mkOnly : Option Eff → Option Eff
 | some (.mk T l s)=>some (.mk T l s)
 | _=>none
def wrOnly : Option Eff → Option Eff
 | some (.wr b l)=>some (.wr b l)
 | _=>none
theorem S6 {x : Option Eff} {e : Eff} (h : putOnly x = some e) : x = some e ∧ ∃ s vc,e = .put s vc:=by
 unfold putOnly at h
 split at h
 ·exact ⟨h,_,_,(Option.some.inj h).symm⟩
 ·cases h
theorem F1 {x : Option Eff} {e : Eff} (h : mkOnly x = some e) : x = some e ∧ ∃ T l s,e = .mk T l s:=by
 unfold mkOnly at h
 split at h
 ·exact ⟨h,_,_,_,(Option.some.inj h).symm⟩
 ·cases h
theorem ai0 {x : Option Eff} {e : Eff} (h : wrOnly x = some e) : x = some e ∧ ∃ b l,e = .wr b l:=by
 unfold wrOnly at h
 split at h
 ·exact ⟨h,_,_,(Option.some.inj h).symm⟩
 ·cases h
noncomputable def effV (E : Env) (fr : List (Nat × SV)) (hp : List HE) : Op → Option Eff
 | .move x=>(opd fr x).map fun s=>.put s []
 | .assign x=>(opd fr x).map fun s=>.put s []
 | .pick c x y=>effPick (opd fr c) (opd fr x) (opd fr y)
 | .build T ps=>effBuild E T (ps.toList.map fun p=>(p.1,opd fr p.2))
 | .load T x=>effLoad E hp T (opd fr x)
 | .nilCheck x=>effNil (opd fr x)
 | .binOp op t x y _=>effBin E op t (opd fr x) (opd fr y)
 | .unOp op _ x=>effUn op (opd fr x)
 | .convert s d x=>effConv E s d (opd fr x)
 | .makeInterface T x=>effIface E T (opd fr x)
 | .makeFunc fn first cap=>effFunc fn first (cap.toList.map (opd fr))
 | .slice T x lo hi mx=>effWin E T (opd fr x) (lo.map (opd fr)) (hi.map (opd fr)) (mx.map (opd fr))
 | .fieldAddr T x f=>effFieldA E T f (opd fr x)
 | .field T x f=>effField E T f (opd fr x)
 | .indexAddr T x i=>effIndexA E T (opd fr x) (opd fr i)
 | .index T x i=>effIndex E T (opd fr x) (opd fr i)
 | .extract x i=>effExtract i (opd fr x)
 | .call c=>effCall E c.callee c.argTypes.toList (c.args.toList.map (opd fr))
 | _=>none
noncomputable def eff (E : Env) (fr : List (Nat × SV)) (hp : List HE) : Op → Option Eff
 | .alloc T=>mkOnly (effAlloc E T hp.length)
 | .box T x=>mkOnly (effBox T hp.length (opd fr x))
 | .buildSlice T n ps=>mkOnly (effLit E T n hp.length (ps.toList.map fun p=>(p.1,opd fr p.2)))
 | .store T x y=>wrOnly (effStore E hp T (opd fr x) (opd fr y))
 | o=>putOnly (effV E fr hp o)
section
variable {P : Program} {E : Env} {β : Nat → Nat} {w : World} {ty : TypeId} {ρ : Operand → Value} {base : Bs} {fr : List (Nat × SV)} {hp : List HE}
def OpsKn (β : Nat → Nat) (m : Nat) (fr : List (Nat × SV)) (ρ : Operand → Value) (o : Op) : Prop:=∀ x,x ∈ o.operands.toList → Kn β m (opd fr x) (ρ x)
theorem a01 {o : Op} {s : SV} {vc : List Prop} {m : Nat} (hle : hp.length ≤ m) (hE : EnvOk P E) (hm : Mem base hp β w) (hk : OpsKn β m fr ρ o) (h : effV E fr hp o = some (.put s vc)) (hv : AllT vc) : RunV P ρ o ty w (s.den β) ∧ s.Ok m:=by
 cases o <;> simp only [effV] at h <;> first | (cases h; done) | skip
 case move x=>
  have h1:=hk x (by simp [Op.operands]) _ (Y4 h)
  exact ⟨fun d pos aft g=>by simp [execOp,h1.1],h1.2⟩
 case assign x=>
  have h1:=hk x (by simp [Op.operands]) _ (Y4 h)
  exact ⟨fun d pos aft g=>by simp [execOp,h1.1],h1.2⟩
 case pick c x y=>exact bd4 (hk c (by simp [Op.operands])) (hk x (by simp [Op.operands])) (hk y (by simp [Op.operands])) h
 case build T ps=>exact a28 hE (fun p hp=>hk p.2 (by simp [Op.operands]; exact ⟨p.1,by simpa using hp⟩)) h
 case load T x=>exact ⟨(ad7 hE hm (hk x (by simp [Op.operands])) h).1,(ad7 (P:=P) (ty:=ty) hE hm (hk x (by simp [Op.operands])) h).2.le hle⟩
 case nilCheck x=>exact br5 (hk x (by simp [Op.operands])) h
 case binOp op t x y t'=>exact bq9 hE (hk x (by simp [Op.operands])) (hk y (by simp [Op.operands])) h hv
 case unOp op t x=>exact bx7 (hk x (by simp [Op.operands])) h hv
 case convert a b x=>exact bg6 hE (hk x (by simp [Op.operands])) h hv
 case makeInterface T x=>exact a93 hE (hk x (by simp [Op.operands])) h
 case makeFunc fn first cap=>exact bf4 (fun x hx=>hk x (by simp only [Op.operands,Array.toList_append,List.mem_append]; exact .inr hx)) h
 case slice T x lo hi mx=>
  exact bm6 (f:=opd fr) hE (hk x (by simp [Op.operands])) (fun o ho=>hk o (by subst ho; simp [Op.operands])) (fun o ho=>hk o (by subst ho; simp [Op.operands])) (fun o ho=>hk o (by subst ho; simp [Op.operands])) h
 case fieldAddr T x f=>exact a22 hE (hk x (by simp [Op.operands])) h
 case field T x f=>exact a94 hE (hk x (by simp [Op.operands])) h
 case indexAddr T x i=>exact a14 hE (hk x (by simp [Op.operands])) (hk i (by simp [Op.operands])) h
 case index T x i=>exact a92 hE (hk x (by simp [Op.operands])) (hk i (by simp [Op.operands])) h
 case extract x i=>exact at1 (hk x (by simp [Op.operands])) h
 case call c=>exact bf8 (f:=opd fr) hE (fun x hx=>hk x (by simp only [Op.operands,Call.operands,Array.toList_append,List.mem_append]; exact .inr hx)) h
theorem b74 {o : Op} {s : SV} {vc : List Prop} (hE : EnvOk P E) (hm : Mem base hp β w) (hk : OpsKn β hp.length fr ρ o) (h : eff E fr hp o = some (.put s vc)) (hv : AllT vc) : RunV P ρ o ty w (s.den β) ∧ s.Ok hp.length:=by
 unfold eff at h
 split at h
 ·obtain ⟨_,_,_,_,e⟩:=F1 h; cases e
 ·obtain ⟨_,_,_,_,e⟩:=F1 h; cases e
 ·obtain ⟨_,_,_,_,e⟩:=F1 h; cases e
 ·obtain ⟨_,_,_,e⟩:=ai0 h; cases e
 ·exact a01 (Nat.le_refl _) hE hm hk (S6 h).1 hv
theorem ch0 {o : Op} {T : TypeId} {l : List Ch} {s : SV} (hE : EnvOk P E) (hk : OpsKn β hp.length fr ρ o) (h : eff E fr hp o = some (.mk T l s)) :
  (∀ c ∈ l,c.Ok hp.length) ∧ s.Ok (hp.length + 1) ∧ ∀ β' : Nat → Nat,β' hp.length = w.heap.size → ∀ d pos aft g,(execOp ρ ⟨d,o,ty,pos,aft,g⟩).run P w = .ok (.value (s.den β')) (w.alloc (.cells (cellsL β l).toArray T)):=by
 unfold eff at h
 split at h
 ·rename_i T'
  obtain ⟨rfl,rfl,h1,h2⟩:=al7 (P:=P) (m:=hp.length) (β:=β) (w:=w) (ρ:=ρ) (ty:=ty) hE (F1 h).1
  exact ⟨h1,Nat.lt_succ_self _,fun β' hb d pos aft g=>by rw [h2]; simp only [SV.den,Ch.den,hb]⟩
 ·rename_i T' x
  obtain ⟨rfl,rfl,h1,h2⟩:=au6 (P:=P) (w:=w) (ty:=ty) (hk x (by simp [Op.operands])) (F1 h).1
  exact ⟨h1,Nat.lt_succ_self _,fun β' hb d pos aft g=>by rw [h2]; simp only [SV.den,Ch.den,hb]⟩
 ·rename_i T' n ps
  obtain ⟨rfl,h1,h2⟩:=au7 (P:=P) (w:=w) (ty:=ty) hE (fun p hp=>hk p.2 (by simp [Op.operands]; exact ⟨p.1,by simpa using hp⟩)) (F1 h).1
  exact ⟨h1,Nat.lt_succ_self _,fun β' hb d pos aft g=>by rw [h2]; simp only [SV.den,Ch.den,hb]⟩
 ·obtain ⟨_,_,_,e⟩:=ai0 h; cases e
 ·obtain ⟨_,_,_,e⟩:=S6 h; cases e
theorem ck1 {o : Op} {b : Nat} {l' : List Ch} (hE : EnvOk P E) (hm : Mem base hp β w) (hk : OpsKn β hp.length fr ρ o) (h : eff E fr hp o = some (.wr b l')) :
  ∃ T' l w',hp[b]? = some (HE.blk T' l) ∧ (∀ c ∈ l',c.Ok hp.length) ∧ Wrt (β b) w w' ∧ Blk w' (β b) T' (cellsL β l') ∧ ∀ d pos aft g,(execOp ρ ⟨d,o,ty,pos,aft,g⟩).run P w = .ok .skip w':=by
 unfold eff at h
 split at h
 ·obtain ⟨_,_,_,_,e⟩:=F1 h; cases e
 ·obtain ⟨_,_,_,_,e⟩:=F1 h; cases e
 ·obtain ⟨_,_,_,_,e⟩:=F1 h; cases e
 ·rename_i T x y
  exact a54 hE hm (hk x (by simp [Op.operands])) (hk y (by simp [Op.operands])) (ai0 h).1
 ·obtain ⟨_,_,_,e⟩:=S6 h; cases e
end
structure Gh where
 p : (Nat → Prop) → World → Prop
 keep : ∀ {S : Nat → Prop} {w w' : World},p S w → Keeps S w w' → p S w'
 mono : ∀ {S S' : Nat → Prop} {w : World},p S w → (∀ k,k < w.heap.size → S k → S' k) → p S' w
abbrev Gh.nil : Gh:=⟨fun _ _=>True,fun _ _=>trivial,fun _ _=>trivial⟩
abbrev Gh.and (a b : Gh) : Gh:=⟨fun S w=>a.p S w ∧ b.p S w,fun h k=>⟨a.keep h.1 k,b.keep h.2 k⟩,fun h k=>⟨a.mono h.1 k,b.mono h.2 k⟩⟩
structure St where
 fr : List (Nat × SV)
 hp : List HE
structure Sat (base : Bs) (st : St) (β : Nat → Nat) (ρ : Fr) (w : World) : Prop where
 fr : ∀ d,Kn β st.hp.length (look st.fr d) (ρ d)
 mem : Mem base st.hp β w
theorem Sat.ops {base : Bs} {st : St} {β : Nat → Nat} {ρ : Fr} {w : World} (h : Sat base st β ρ w) (o : Op) : OpsKn β st.hp.length st.fr (ev ρ) o:=
 fun x _=>W8 fun t _=>h.fr t
theorem Keeps.behind {S S' : Nat → Prop} {w w1 w2 : World} (h : Keeps S w w1) (k : Keeps S' w1 w2) (hs : ∀ i,i < w.heap.size → S i → S' i) : Keeps S w w2:=
 ⟨k.os.trans h.os,k.tape.trans h.tape,k.output.trans h.output,Nat.le_trans h.size k.size,
  fun i hi hk=>(k.block i (Nat.lt_of_lt_of_le hi h.size) (hs i hi hk)).trans (h.block i hi hk)⟩
theorem AbsE.keep (A : AbsE) {S : Nat → Prop} {w w' : World} (h : A.R w) (hl : ∀ k,A.Q k → k < w.heap.size) (k : Keeps S w w') (hs : ∀ k,A.Q k → S k) : A.R w':=
 A.frame w w' h fun i hi=>k.block i (hl i hi) (hs i hi)
theorem Mem.to {base : Bs} {hp : List HE} {β : Nat → Nat} {w w' : World} (h : Mem base hp β w) (k : Ext w w') : Mem base hp β w':=
 ⟨fun i T l hi=>⟨(h.blk i T l hi).1.to k,(h.blk i T l hi).2⟩,fun i T s v n cs hi=>Q0 (h.row i T s v n cs hi) k,fun i A hi=>A.keep (h.abs i A hi) (fun k' hk=>(h.low i k' ⟨_,hi,hk⟩).2) k fun _ _=>trivial,fun i k' hk=>⟨(h.low i k' hk).1,Nat.lt_of_lt_of_le (h.low i k' hk).2 k.size⟩,h.apart⟩
theorem Mem.grow {K S' : Nat → Prop} {w0 w w' : World} {hp : List HE} {β : Nat → Nat} (h : Mem ⟨w0.heap.size,K⟩ hp β w) (hw : Keeps K w0 w) (k : Keeps S' w w') (b : Nat) (hm : ∀ i,¬ S' i → mineAt β hp b i) : Keeps K w0 w':=
 Keeps.behind hw k fun i hi hk=>Classical.byContradiction fun hn=>by
  rcases (h.low b i (hm i hn)).1 with h6 | h6
  ·have h7 : w0.heap.size ≤ i:=h6
   omega
  ·exact h6 hk
theorem F2 {i d : Nat} {s : SV} {r : List (Nat × SV)} : look ((i,s) :: r) d = if i = d then some s else look r d:=by
 simp only [look]
 by_cases e : i = d
 ·subst e; simp
 ·have : Nat.beq i d = false:=by
   cases hq : Nat.beq i d with
   | false=>rfl
   | true=>exact absurd (Nat.eq_of_beq_eq_true hq) e
  rw [this,if_neg e]
  rfl
theorem Z8 {ρ : Fr} {d i : Nat} {v : Value} : upd ρ d v i = if d = i then v else ρ i:=by
 by_cases e : d = i
 ·subst e; rw [B7,if_pos rfl]
 ·rw [if_neg e,H7]
  cases hq : Nat.beq i d with
  | false=>rfl
  | true=>exact absurd (Nat.eq_of_beq_eq_true hq).symm e
theorem Sat.put {base : Bs} {st : St} {β : Nat → Nat} {ρ : Fr} {w : World} {d : Nat} {s : SV} {v : Value} (h : Sat base st β ρ w) (hv : v = s.den β) (ok : s.Ok st.hp.length) : Sat base ⟨(d,s) :: st.fr,st.hp⟩ β (upd ρ d v) w:=by
 refine ⟨fun i s' hs=>?_,h.mem⟩
 rw [F2] at hs
 rw [Z8]
 split at hs
 ·rename_i e
  rw [if_pos e]
  simp only [Option.some.injEq] at hs
  subst hs
  exact ⟨hv,ok⟩
 ·rename_i e
  rw [if_neg e]
  exact h.fr i s' hs
theorem Sat.to {base : Bs} {st : St} {β : Nat → Nat} {ρ : Fr} {w w' : World} (h : Sat base st β ρ w) (k : Ext w w') : Sat base st β ρ w':=⟨h.fr,h.mem.to k⟩
def βs (β : Nat → Nat) (n g : Nat) : Nat → Nat:=fun i=>if i = n then g else β i
theorem bi6 {β : Nat → Nat} {n g i : Nat} (h : i < n) : βs β n g i = β i:=by unfold βs; rw [if_neg (by omega)]
theorem S8 {β : Nat → Nat} {n g : Nat} : βs β n g n = g:=by unfold βs; rw [if_pos rfl]
theorem Z6 {β : Nat → Nat} {hp : List HE} {T : TypeId} {l : List Ch} {g i k : Nat} : mineAt (βs β hp.length g) (hp ++ [.blk T l]) i k ↔ (i = hp.length ∧ k = g) ∨ (i ≠ hp.length ∧ mineAt β hp i k):=by
 by_cases e : i = hp.length
 ·subst e
  rw [L6 (e:=.blk T l) (by simp)]
  simp [HE.mine,S8]
 ·by_cases hl : i < hp.length
  ·unfold mineAt
   rw [List.getElem?_append_left hl,bi6 hl]
   simp [e]
  ·have h1 : ¬ mineAt β hp i k:=T6 (List.getElem?_eq_none (by omega))
   have h2 : ¬ mineAt (βs β hp.length g) (hp ++ [.blk T l]) i k:=T6 (List.getElem?_eq_none (by simp; omega))
   simp [e,h1,h2]
theorem Sat.new {base : Bs} {st : St} {β : Nat → Nat} {ρ : Fr} {w : World} {d : Nat} {T : TypeId} {l : List Ch} {s : SV} (h : Sat base st β ρ w) (hb : base.n ≤ w.heap.size) (hok : ∀ c ∈ l,c.Ok st.hp.length) (ok : s.Ok (st.hp.length + 1)) :
  Sat base ⟨(d,s) :: st.fr,st.hp ++ [.blk T l]⟩ (βs β st.hp.length w.heap.size) (upd ρ d (s.den (βs β st.hp.length w.heap.size))) (w.alloc (.cells (cellsL β l).toArray T)):=by
 have hlen : (st.hp ++ [HE.blk T l]).length = st.hp.length + 1:=by simp
 have hc : ∀ i,i < st.hp.length → β i = βs β st.hp.length w.heap.size i:=fun i hi=>(bi6 hi).symm
 have k:=K7 w (.cells (cellsL β l).toArray T)
 have h2:=h.to k
 refine ⟨fun i s' hs=>?_,⟨?_,?_,?_,?_,?_⟩⟩
 ·rw [F2] at hs
  rw [Z8,hlen]
  split at hs
  ·rename_i e
   rw [if_pos e]
   simp only [Option.some.injEq] at hs
   subst hs
   exact ⟨rfl,ok⟩
  ·rename_i e
   rw [if_neg e]
   obtain ⟨e1,e2⟩:=h.fr i s' hs
   exact ⟨e1.trans (SV.den_congr hc e2),e2.le (Nat.le_succ _)⟩
 ·intro i T' l' hi
  rw [hlen]
  by_cases e : i = st.hp.length
  ·subst e
   simp at hi
   obtain ⟨rfl,rfl⟩:=hi
   rw [S8]
   refine ⟨?_,fun c hc=>(hok c hc).le (Nat.le_succ _)⟩
   rw [← E6 hc hok]
   exact Blk.new _ _ _
  ·have hl : i < st.hp.length:=by
    have:=(List.getElem?_eq_some_iff.1 hi).1
    simp at this
    omega
   rw [List.getElem?_append_left hl] at hi
   obtain ⟨e1,e2⟩:=h2.mem.blk i T' l' hi
   rw [bi6 hl,← E6 hc e2]
   exact ⟨e1,fun c hc=>(e2 c hc).le (Nat.le_succ _)⟩
 ·intro i T' s' v n cs hi
  have hl : i < st.hp.length:=by
   have h3:=(List.getElem?_eq_some_iff.1 hi).1
   simp at h3
   rcases Nat.lt_or_ge i st.hp.length with h | h
   ·exact h
   ·obtain rfl : i = st.hp.length:=by omega
    simp at hi
  rw [List.getElem?_append_left hl] at hi
  exact h2.mem.row i T' s' v n cs hi
 ·intro i A hi
  have hl : i < st.hp.length:=by
   have h3:=(List.getElem?_eq_some_iff.1 hi).1
   simp at h3
   rcases Nat.lt_or_ge i st.hp.length with h | h
   ·exact h
   ·obtain rfl : i = st.hp.length:=by omega
    simp at hi
  rw [List.getElem?_append_left hl] at hi
  exact h2.mem.abs i A hi
 ·intro i k' hk
  rw [Z6] at hk
  rcases hk with ⟨_,rfl⟩ | ⟨_,hk⟩
  ·exact ⟨.inl hb,by simp⟩
  ·exact h2.mem.low i k' hk
 ·intro i j k' hi hj
  rw [Z6] at hi hj
  rcases hi with ⟨e1,e2⟩ | ⟨_,hi⟩ <;> rcases hj with ⟨e3,e4⟩ | ⟨_,hj⟩
  ·omega
  ·have:=(h.mem.low j k' hj).2
   omega
  ·have:=(h.mem.low i k' hi).2
   omega
  ·exact h.mem.apart i j k' hi hj
theorem ck7 {S0 : Nat → Prop} {hp : List HE} {β : Nat → Nat} {w : World} {T : TypeId} {l : List Ch} : ∀ k,k < w.heap.size → Sof S0 β hp k → Sof S0 (βs β hp.length w.heap.size) (hp ++ [.blk T l]) k:=by
 intro k hk ⟨h1,h2⟩
 refine ⟨h1,fun i hi=>?_⟩
 rw [Z6] at hi
 rcases hi with ⟨_,hi⟩ | ⟨_,hi⟩
 ·omega
 ·exact h2 i hi
theorem N6 {β : Nat → Nat} {hp : List HE} {b : Nat} {T T' : TypeId} {l l' : List Ch} (h : hp[b]? = some (.blk T l)) (i k : Nat) : mineAt β (hp.set b (.blk T' l')) i k ↔ mineAt β hp i k:=by
 by_cases e : b = i
 ·subst e
  have hl:=(List.getElem?_eq_some_iff.1 h).1
  rw [L6 h,L6 (List.getElem?_set_self hl)]
  exact Iff.rfl
 ·unfold mineAt
  rw [List.getElem?_set_ne e]
theorem Sat.wr {base : Bs} {st : St} {β : Nat → Nat} {ρ : Fr} {w w' : World} {b : Nat} {T : TypeId} {l l' : List Ch} (h : Sat base st β ρ w) (hb : st.hp[b]? = some (.blk T l)) (hok : ∀ c ∈ l',c.Ok st.hp.length) (k : Wrt (β b) w w') (hn : Blk w' (β b) T (cellsL β l')) :
  Sat base ⟨st.fr,st.hp.set b (.blk T l')⟩ β ρ w':=by
 have hlen : (st.hp.set b (.blk T l')).length = st.hp.length:=by simp
 have hbl:=(List.getElem?_eq_some_iff.1 hb).1
 have hmb : mineAt β st.hp b (β b):=⟨_,hb,rfl⟩
 refine ⟨fun d=>by rw [hlen]; exact h.fr d,⟨?_,?_,?_,?_,?_⟩⟩
 ·intro i T' l2 hi
  rw [hlen]
  by_cases e : b = i
  ·subst e
   rw [List.getElem?_set_self hbl] at hi
   simp only [Option.some.injEq,HE.blk.injEq] at hi
   obtain ⟨rfl,rfl⟩:=hi
   exact ⟨hn,hok⟩
  ·rw [List.getElem?_set_ne e] at hi
   obtain ⟨e1,e2⟩:=h.mem.blk i T' l2 hi
   refine ⟨e1.wr k fun e3=>e ?_,e2⟩
   exact h.mem.apart b i (β b) hmb ⟨_,hi,e3.symm⟩
 ·intro i T' s v n cs hi
  have e : b ≠ i:=by
   intro e
   subst e
   rw [List.getElem?_set_self hbl] at hi
   cases hi
  rw [List.getElem?_set_ne e] at hi
  refine aa3 (h.mem.row i T' s v n cs hi) k fun g hg e3=>e ?_
  exact h.mem.apart b i (β b) hmb ⟨_,hi,by show v.ownBlock = _; rw [hg,e3]⟩
 ·intro i A hi
  have e : b ≠ i:=by
   intro e
   subst e
   rw [List.getElem?_set_self hbl] at hi
   cases hi
  rw [List.getElem?_set_ne e] at hi
  refine A.keep (h.mem.abs i A hi) (fun k' hk=>(h.mem.low i k' ⟨_,hi,hk⟩).2) k fun g hg e3=>e ?_
  exact h.mem.apart b i (β b) hmb ⟨_,hi,by show A.Q _; rw [← e3]; exact hg⟩
 ·intro i k' hk
  rw [N6 hb] at hk
  obtain ⟨e1,e2⟩:=h.mem.low i k' hk
  exact ⟨e1,Nat.lt_of_lt_of_le e2 k.size⟩
 ·intro i j k' hi hj
  rw [N6 hb] at hi hj
  exact h.mem.apart i j k' hi hj
noncomputable def stepOp (E : Env) (st : St) (o : Oper) : Option (St × List Prop):=
 match eff E st.fr st.hp o.op,o.dst with
 | some (.put s vc),some d=>some (⟨(d,s) :: st.fr,st.hp⟩,vc)
 | some (.mk T l s),some d=>some (⟨(d,s) :: st.fr,st.hp ++ [.blk T l]⟩,[])
 | some (.wr b l),none=>match nth st.hp b with
  | some (.blk T _)=>some (⟨st.fr,setN st.hp b (.blk T l)⟩,[])
  | _=>none
 | _,_=>none
def Onw (S0 K : Nat → Prop) (w0 : World) (β : Nat → Nat) (hp : List HE) (w : World) (β' : Nat → Nat) (hp' : List HE) (w' : World) : Prop:=
 Keeps K w0 w' ∧ ∀ G : Gh,G.p (Sof S0 β hp) w → G.p (Sof S0 β' hp') w'
theorem bp4 {P : Program} {E : Env} {S0 K : Nat → Prop} {w0 w : World} {st st' : St} {β : Nat → Nat} {ρ : Fr} {o : Oper} {vc : List Prop} (hE : EnvOk P E) (h : Sat ⟨w0.heap.size,K⟩ st β ρ w) (hw : Keeps K w0 w)
  (hs : stepOp E st o = some (st',vc)) (hv : AllT vc) : Stp P (ev ρ) o w fun v w'=>∃ β',Sat ⟨w0.heap.size,K⟩ st' β' (updO ρ o.dst v) w' ∧ Onw S0 K w0 β st.hp w β' st'.hp w':=by
 obtain ⟨dst,op,ty,pos,aft,g⟩:=o
 unfold stepOp at hs
 simp only at hs
 split at hs <;> first | (cases hs; done) | skip
 ·rename_i s vc' d he
  simp only [Option.some.injEq,Prod.mk.injEq] at hs
  obtain ⟨rfl,rfl⟩:=hs
  obtain ⟨h1,h2⟩:=b74 (P:=P) (ty:=ty) hE h.mem (h.ops op) he hv
  unfold Stp
  rw [h1]
  exact ⟨β,h.put rfl h2,hw,fun G hG=>hG⟩
 ·rename_i T l s d he
  simp only [Option.some.injEq,Prod.mk.injEq] at hs
  obtain ⟨rfl,rfl⟩:=hs
  obtain ⟨h1,h2,h3⟩:=ch0 (P:=P) (w:=w) (ty:=ty) hE (h.ops op) he
  unfold Stp
  rw [h3 _ S8]
  have k:=K7 w (.cells (cellsL β l).toArray T)
  exact ⟨_,h.new hw.size h1 h2,hw.trans (.of k),fun G hG=>G.keep (G.mono hG ck7) (.of k)⟩
 ·rename_i b l he
  split at hs <;> first | (cases hs; done) | skip
  rename_i T l0 hn
  simp only [Option.some.injEq,Prod.mk.injEq] at hs
  obtain ⟨rfl,rfl⟩:=hs
  obtain ⟨T',l',w',h1,h2,h3,h4,h5⟩:=ck1 (P:=P) (ty:=ty) hE h.mem (h.ops op) he
  rw [I9] at hn
  rw [hn] at h1
  simp only [Option.some.injEq,HE.blk.injEq] at h1
  obtain ⟨rfl,rfl⟩:=h1
  unfold Stp
  rw [h5]
  have hmb : mineAt β st.hp b (β b):=⟨_,hn,rfl⟩
  rw [O7]
  refine ⟨β,h.wr hn h2 h3 h4,?_,fun G hG=>?_⟩
  ·exact Keeps.behind hw h3 fun i hi hk e=>by
    subst e
    rcases (h.mem.low b _ hmb).1 with h6 | h6
    ·have h7 : w0.heap.size ≤ β b:=h6
     omega
    ·exact h6 hk
  ·refine G.mono (G.keep hG (h3.mono fun k hk e=>hk.2 b (e ▸ hmb))) fun k _ hk=>⟨hk.1,fun i hi=>?_⟩
   rw [N6 hn] at hi
   exact hk.2 i hi
end Go.Proofs.YtpheooheinfbgaaGreatDoor
end
section
set_option linter.unusedVariables false
set_option linter.unusedSimpArgs false
namespace Go.Proofs.YtpheooheinfbgaaGreatDoor
open Go Go.RowKit
def LH (P : Program) (n : Nat) (c : Code) (Q : Post) (ρ : Fr) (w : World) : Prop:=
 codeOk n c = true → ∀ D act,Mt n D act ρ → ∀ b K cs,∃ e a' w',lift n D Q e a' w' ∧ Arrives P (lone (b.at act (.code c :: .inLoop c :: K)) cs w) b K cs e a' w'
theorem bs2 {P : Program} {n : Nat} {c : Code} {Q : Post} {ρ : Fr} {w : World} (h : Wp P n c (thenQ (fun ρ w=>LH P n c Q ρ w) Q) ρ w) : LH P n c Q ρ w:=by
 intro hc D act hm b K cs
 unfold Wp at h
 obtain ⟨e,a₁,w₁,⟨ρ₁,hm₁,hq⟩,harr⟩:=h hc D act hm b (.inLoop c :: K) cs
 cases e with
 | normal=>
  obtain ⟨e₂,a₂,w₂,hq₂,harr₂⟩:=hq hc D a₁ hm₁ b K cs
  exact ⟨e₂,a₂,w₂,hq₂,.of_steps (Steps.trans harr (.one step_inLoop)) harr₂⟩
 | exit id=>exact ⟨_,a₁,w₁,⟨ρ₁,hm₁,hq⟩,.pass (x:=.inLoop c) rfl (fun _ _=>.inl (by simp)) harr⟩
 | goto l=>exact ⟨_,a₁,w₁,⟨ρ₁,hm₁,hq⟩,.pass (x:=.inLoop c) rfl (fun _ _=>.inl (by simp)) harr⟩
 | ret=>exact ⟨_,a₁,w₁,⟨ρ₁,hm₁,hq⟩,.pass (x:=.inLoop c) rfl (fun _ _=>.inl (by simp)) harr⟩
 | panic ch=>exact ⟨_,a₁,w₁,⟨ρ₁,hm₁,hq⟩,.pass (x:=.inLoop c) rfl (fun _ _=>.inl (by simp)) harr⟩
 | outgrown=>exact ⟨_,a₁,w₁,⟨ρ₁,hm₁,hq⟩,.pass (x:=.inLoop c) rfl (fun _ _=>.inl (by simp)) harr⟩
theorem a61 {P : Program} {n : Nat} {c : Code} {Q : Post} {ρ : Fr} {w : World} (h : LH P n c Q ρ w) : Wp P n (.loop c) Q ρ w:=by
 unfold Wp
 intro hc D act hm b K cs
 obtain ⟨e,a',w',hq,harr⟩:=h (by simpa only [codeOk] using hc) D act hm b K cs
 exact ⟨e,a',w',hq,.of_steps (.one step_loop) harr⟩
inductive Cur where
 | code (c : Code)
 | ops (all rest : List Oper)
 | ex (e : Exit)
inductive Kt where
 | code (c : Code)
 | blk (i : Nat)
 | lp (c : Code)
structure Out where
 cur : Cur
 k : List Kt
 st : St
 vc : List Prop
def kQ (P : Program) (n : Nat) (Q : Post) : List Kt → Post
 | []=>Q
 | .code c :: k=>thenQ (fun ρ w=>Wp P n c (kQ P n Q k) ρ w) (kQ P n Q k)
 | .blk i :: k=>blockQ i (kQ P n Q k)
 | .lp c :: k=>thenQ (fun ρ w=>LH P n c (kQ P n Q k) ρ w) (kQ P n Q k)
def curX (P : Program) (n : Nat) (Q : Post) : Cur → Fr → World → Prop
 | .code c=>Wp P n c Q
 | .ops all rest=>WpR P n all Q rest
 | .ex e=>Q e
noncomputable def opStep (E : Env) (all : List Oper) (o1 : Oper) (r : List Oper) (o : Out) : Option Out:=
 match stepOp E o.st o1 with
 | some (st',vc)=>some ⟨.ops all r,o.k,st',vc ++ o.vc⟩
 | none=>none
def skipSt (st : St) (d : Option Tmp) : St:=match d with | some d=>⟨(d,.und) :: st.fr,st.hp⟩ | none=>st
noncomputable def nextO (E : Env) (un : Bool) (o : Out) : Option Out:=
 match o.cur with
 | .code c=>match c with
  | .skip=>some ⟨.ex .normal,o.k,o.st,o.vc⟩
  | .label _=>some ⟨.ex .normal,o.k,o.st,o.vc⟩
  | .seq a b=>some ⟨.code a,.code b :: o.k,o.st,o.vc⟩
  | .block i c=>some ⟨.code c,.blk i :: o.k,o.st,o.vc⟩
  | .exit i=>some ⟨.ex (.exit i),o.k,o.st,o.vc⟩
  | .ret=>some ⟨.ex .ret,o.k,o.st,o.vc⟩
  | .region _ ops d=>bif d then none else some ⟨.ops ops.toList ops.toList,o.k,o.st,o.vc⟩
  | .cond x a b=>match opd o.st.fr x with
   | some (.one (.bb true))=>some ⟨.code a,o.k,o.st,o.vc⟩
   | some (.one (.bb false))=>some ⟨.code b,o.k,o.st,o.vc⟩
   | _=>none
  | .loop c=>bif un then some ⟨.code c,.lp c :: o.k,o.st,o.vc⟩ else none
  | _=>none
 | .ops all []=>some ⟨.ex .normal,o.k,o.st,o.vc⟩
 | .ops all (o1 :: r)=>match o1.guard with
  | none=>opStep E all o1 r o
  | some (j,want)=>match dstAt all j with
   | none=>none
   | some d=>match look o.st.fr d with
    | some (.one (.bb x))=>bif x == want then some ⟨.ops all (⟨o1.dst,o1.op,o1.type,o1.pos,o1.after,none⟩ :: r),o.k,o.st,o.vc⟩ else some ⟨.ops all r,o.k,skipSt o.st o1.dst,o.vc⟩
    | some .und=>some ⟨.ops all r,o.k,skipSt o.st o1.dst,o.vc⟩
    | _=>none
 | .ex e=>match e,o.k with
  | .normal,.code c :: k=>some ⟨.code c,k,o.st,o.vc⟩
  | .normal,.blk i :: k=>some ⟨.ex .normal,k,o.st,o.vc⟩
  | .normal,.lp c :: k=>some ⟨.code c,.lp c :: k,o.st,o.vc⟩
  | .exit i,.code _ :: k=>some ⟨.ex (.exit i),k,o.st,o.vc⟩
  | .exit i,.lp _ :: k=>some ⟨.ex (.exit i),k,o.st,o.vc⟩
  | .exit i,.blk j :: k=>bif Nat.beq i j then some ⟨.ex .normal,k,o.st,o.vc⟩ else some ⟨.ex (.exit i),k,o.st,o.vc⟩
  | .ret,_ :: k=>some ⟨.ex .ret,k,o.st,o.vc⟩
  | _,_=>none
noncomputable def exec (E : Env) (un : Bool) : Nat → Out → Out
 | 0,o=>o
 | n + 1,o=>match nextO E un o with
  | some o'=>exec E un n o'
  | none=>o
structure Cx where
 P : Program
 n : Nat
 E : Env
 w0 : World
 S0 : Nat → Prop
 K : Nat → Prop
 Q : Post
abbrev Cx.bs (c : Cx) : Bs:=⟨c.w0.heap.size,c.K⟩
structure Cx.Ok (c : Cx) : Prop where
 env : EnvOk c.P c.E
 up : Up c.S0 c.w0
 lent : ∀ k,¬ c.K k → c.S0 k
theorem b7 {S : Nat → Prop} : ∀ k,¬ All k → S k:=fun _ h=>absurd trivial h
theorem Sat.up0 {c : Cx} {st : St} {β : Nat → Nat} {ρ : Fr} {w : World} (h : Sat c.bs st β ρ w) (hc : c.Ok) (b k : Nat) (hm : mineAt β st.hp b k) : c.S0 k:=by
 rcases (h.mem.low b k hm).1 with h1 | h1
 ·exact hc.up k h1
 ·exact hc.lent k h1
def RunP (c : Cx) (st : St) (G : Gh) (X : Fr → World → Prop) : Prop:=∀ β ρ w,Sat c.bs st β ρ w → Keeps c.K c.w0 w → G.p (Sof c.S0 β st.hp) w → X ρ w
structure Run (c : Cx) (o : Out) (G : Gh) : Prop where
 run : RunP c o.st G (curX c.P c.n (kQ c.P c.n c.Q o.k) o.cur)
structure VcOk (l : List Prop) : Prop where
 all : AllT l
section
variable {c : Cx} {o o' : Out} {G : Gh} {un : Bool}
theorem a84 {base : Bs} {st : St} {β : Nat → Nat} {ρ : Fr} {w : World} (h : Sat base st β ρ w) (d : Option Tmp) : Sat base (skipSt st d) β (updO ρ d undef) w:=by
 cases d with
 | none=>exact h
 | some d=>exact h.put rfl trivial
theorem bi8 {st : St} {d : Option Tmp} : (skipSt st d).hp = st.hp:=by cases d <;> rfl
theorem bq2 {all : List Oper} {o1 : Oper} {r : List Oper} (hc : c.Ok) (hg : o1.guard = none) (hcur : o.cur = .ops all (o1 :: r)) (h : opStep c.E all o1 r o = some o') (hv : AllT o'.vc) (hr : Run c o' G) : Run c o G:=by
 unfold opStep at h
 cases hs : stepOp c.E o.st o1 with
 | none=>rw [hs] at h; cases h
 | some x=>
  obtain ⟨st',vc⟩:=x
  rw [hs] at h
  simp only [Option.some.injEq] at h
  subst h
  refine ⟨fun β ρ w hS hw hG=>?_⟩
  rw [hcur]
  have h1:=bp4 (S0:=c.S0) (K:=c.K) hc.env hS hw hs (al8.1 hv).1
  refine R5 hg (h1.mono fun v w' ⟨β',hS',hw',hG'⟩=>?_)
  exact hr.run β' _ w' hS' hw' (hG' G hG)
theorem ae9 {b : Bool} {x y z : Out} (h : (bif b then some x else some y) = some z) : (b = true ∧ x = z) ∨ (b = false ∧ y = z):=by
 cases b
 ·exact .inr ⟨rfl,Option.some.inj h⟩
 ·exact .inl ⟨rfl,Option.some.inj h⟩
theorem by4 (h : nextO c.E un o = some o') : AllT o'.vc → AllT o.vc:=by
 intro hv
 unfold nextO at h
 split at h
 ·split at h <;> first | (simp only [Option.some.injEq] at h; subst h; exact hv) | (cases h; done) | skip
  ·rename_i d _
   cases d <;> simp only [cond_true,cond_false,Option.some.injEq] at h
   ·subst h; exact hv
   ·cases h
  ·split at h <;> first | (simp only [Option.some.injEq] at h; subst h; exact hv) | (cases h; done)
  ·cases un <;> simp only [cond_true,cond_false,Option.some.injEq] at h
   ·cases h
   ·subst h; exact hv
 ·simp only [Option.some.injEq] at h; subst h; exact hv
 ·split at h
  ·unfold opStep at h
   split at h
   ·simp only [Option.some.injEq] at h
    subst h
    exact (al8.1 hv).2
   ·cases h
  ·split at h
   ·cases h
   ·split at h <;> first | (simp only [Option.some.injEq] at h; subst h; exact hv) | (cases h; done) | skip
    rcases ae9 h with ⟨_,rfl⟩ | ⟨_,rfl⟩ <;> exact hv
 ·split at h <;> first | (simp only [Option.some.injEq] at h; subst h; exact hv) | (cases h; done) | skip
  rcases ae9 h with ⟨_,rfl⟩ | ⟨_,rfl⟩ <;> exact hv
theorem bn9 {all r : List Oper} {o1 : Oper} {k : List Kt} {st : St} {vc : List Prop} {j d : Nat} {want x : Bool} (hg : o1.guard = some (j,want)) (hd : dstAt all j = some d) (hx : look st.fr d = some (.one (.bb x))) (hb : (x == want) = true)
  (hr : Run c ⟨.ops all (⟨o1.dst,o1.op,o1.type,o1.pos,o1.after,none⟩ :: r),k,st,vc⟩ G) : Run c ⟨.ops all (o1 :: r),k,st,vc⟩ G:=by
 obtain ⟨dst,op,ty,pos,aft,g⟩:=o1
 simp only at hg
 subst hg
 refine ⟨fun β ρ w hS hw hG=>?_⟩
 refine n9 hd ?_ (hr.run β ρ w hS hw hG)
 rw [((hS.fr d) _ hx).1,← eq_of_beq hb]
 rfl
theorem bc2 {all r : List Oper} {o1 : Oper} {k : List Kt} {st : St} {vc : List Prop} {j d : Nat} {want x : Bool} (hg : o1.guard = some (j,want)) (hd : dstAt all j = some d) (hx : look st.fr d = some (.one (.bb x))) (hb : (x == want) = false)
  (hr : Run c ⟨.ops all r,k,skipSt st o1.dst,vc⟩ G) : Run c ⟨.ops all (o1 :: r),k,st,vc⟩ G:=by
 obtain ⟨dst,op,ty,pos,aft,g⟩:=o1
 simp only at hg
 subst hg
 refine ⟨fun β ρ w hS hw hG=>?_⟩
 refine q6 hd ((hS.fr d) _ hx).1 hb ?_
 exact hr.run β _ w (a84 hS dst) hw (by rw [bi8]; exact hG)
theorem bl8 {all r : List Oper} {o1 : Oper} {k : List Kt} {st : St} {vc : List Prop} {j d : Nat} {want : Bool} (hg : o1.guard = some (j,want)) (hd : dstAt all j = some d) (hx : look st.fr d = some .und)
  (hr : Run c ⟨.ops all r,k,skipSt st o1.dst,vc⟩ G) : Run c ⟨.ops all (o1 :: r),k,st,vc⟩ G:=by
 obtain ⟨dst,op,ty,pos,aft,g⟩:=o1
 simp only at hg
 subst hg
 refine ⟨fun β ρ w hS hw hG=>?_⟩
 refine H0 hd ((hS.fr d) _ hx).1 ?_
 exact hr.run β _ w (a84 hS dst) hw (by rw [bi8]; exact hG)
theorem bz0 (hc : c.Ok) (h : nextO c.E un o = some o') (hv : AllT o'.vc) (hr : Run c o' G) : Run c o G:=by
 obtain ⟨cur,k,st,vc⟩:=o
 unfold nextO at h
 simp only at h
 split at h
 ·split at h <;> first | (cases h; done) | skip
  ·simp only [Option.some.injEq] at h; subst h
   exact ⟨fun β ρ w hS hw hG=>wp_skip (hr.run β ρ w hS hw hG)⟩
  ·simp only [Option.some.injEq] at h; subst h
   exact ⟨fun β ρ w hS hw hG=>wp_label (hr.run β ρ w hS hw hG)⟩
  ·simp only [Option.some.injEq] at h; subst h
   exact ⟨fun β ρ w hS hw hG=>wp_seq (hr.run β ρ w hS hw hG)⟩
  ·simp only [Option.some.injEq] at h; subst h
   exact ⟨fun β ρ w hS hw hG=>wp_block (hr.run β ρ w hS hw hG)⟩
  ·simp only [Option.some.injEq] at h; subst h
   exact ⟨fun β ρ w hS hw hG=>wp_exit (hr.run β ρ w hS hw hG)⟩
  ·simp only [Option.some.injEq] at h; subst h
   exact ⟨fun β ρ w hS hw hG=>wp_ret (hr.run β ρ w hS hw hG)⟩
  ·rename_i id ops d
   cases d with
   | true=>cases h
   | false=>
    simp only [cond_false,Option.some.injEq] at h
    subst h
    refine ⟨fun β ρ w hS hw hG=>?_⟩
    have h1:=b8 (id:=id) (hr.run β ρ w hS hw hG)
    rwa [Array.toArray_toList] at h1
  ·split at h <;> first | (cases h; done) | skip
   ·rename_i e
    simp only [Option.some.injEq] at h; subst h
    exact ⟨fun β ρ w hS hw hG=>wp_cond_true ((W8 (fun t _=>hS.fr t)) _ e).1 (hr.run β ρ w hS hw hG)⟩
   ·rename_i e
    simp only [Option.some.injEq] at h; subst h
    exact ⟨fun β ρ w hS hw hG=>wp_cond_false ((W8 (fun t _=>hS.fr t)) _ e).1 (hr.run β ρ w hS hw hG)⟩
  ·cases un with
   | false=>cases h
   | true=>
    simp only [cond_true,Option.some.injEq] at h
    subst h
    exact ⟨fun β ρ w hS hw hG=>a61 (bs2 (hr.run β ρ w hS hw hG))⟩
 ·simp only [Option.some.injEq] at h; subst h
  exact ⟨fun β ρ w hS hw hG=>b9 (hr.run β ρ w hS hw hG)⟩
 ·split at h
  ·rename_i hg
   exact bq2 hc hg rfl h hv hr
  ·rename_i j want hg
   split at h
   ·cases h
   ·rename_i d hd
    split at h <;> first | (cases h; done) | skip
    ·rename_i x hx
     rcases ae9 h with ⟨hb,rfl⟩ | ⟨hb,rfl⟩
     ·exact bn9 hg hd hx hb hr
     ·exact bc2 hg hd hx hb hr
    ·rename_i hx
     simp only [Option.some.injEq] at h; subst h
     exact bl8 hg hd hx hr
 ·split at h <;> first | (cases h; done) | skip
  ·simp only [Option.some.injEq] at h; subst h
   exact ⟨fun β ρ w hS hw hG=>hr.run β ρ w hS hw hG⟩
  ·simp only [Option.some.injEq] at h; subst h
   exact ⟨fun β ρ w hS hw hG=>hr.run β ρ w hS hw hG⟩
  ·simp only [Option.some.injEq] at h; subst h
   exact ⟨fun β ρ w hS hw hG=>bs2 (hr.run β ρ w hS hw hG)⟩
  ·simp only [Option.some.injEq] at h; subst h
   exact ⟨fun β ρ w hS hw hG=>hr.run β ρ w hS hw hG⟩
  ·simp only [Option.some.injEq] at h; subst h
   exact ⟨fun β ρ w hS hw hG=>hr.run β ρ w hS hw hG⟩
  ·rcases ae9 h with ⟨hb,rfl⟩ | ⟨hb,rfl⟩
   ·exact ⟨fun β ρ w hS hw hG=>H5 hb (hr.run β ρ w hS hw hG)⟩
   ·exact ⟨fun β ρ w hS hw hG=>ax5 hb (hr.run β ρ w hS hw hG)⟩
  ·rename_i x k
   simp only [Option.some.injEq] at h; subst h
   cases x with
   | code c=>exact ⟨fun β ρ w hS hw hG=>hr.run β ρ w hS hw hG⟩
   | blk i=>exact ⟨fun β ρ w hS hw hG=>hr.run β ρ w hS hw hG⟩
   | lp c=>exact ⟨fun β ρ w hS hw hG=>hr.run β ρ w hS hw hG⟩
theorem cb8 : ∀ {N : Nat} {o : Out},AllT (exec c.E un N o).vc → AllT o.vc:=by
 intro N
 induction N with
 | zero=>intro o h; exact h
 | succ N ih=>
  intro o h
  simp only [exec] at h
  cases hn : nextO c.E un o with
  | none=>rw [hn] at h; exact h
  | some o'=>rw [hn] at h; exact by4 hn (ih h)
theorem cd7 (hc : c.Ok) : ∀ {N : Nat} {o : Out},AllT (exec c.E un N o).vc → Run c (exec c.E un N o) G → Run c o G:=by
 intro N
 induction N with
 | zero=>intro o _ h; exact h
 | succ N ih=>
  intro o hv h
  simp only [exec] at h hv
  cases hn : nextO c.E un o with
  | none=>rw [hn] at h; exact h
  | some o'=>
   rw [hn] at h hv
   exact bz0 hc hn (cb8 hv) (ih hv h)
end
end Go.Proofs.YtpheooheinfbgaaGreatDoor
end

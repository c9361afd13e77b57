/- Part 3. -/
import Derived.Test.YtmjbiocildkhnaaGreatDoorChecksA1
import Derived.Test.YtmjbiocildkhnaaGreatDoorChecksA2
import Derived.Lib.ItoaNum
import Derived.Laws.IdiomStrings
import Derived.Shelf.Strings.Builder1
import Derived.Shelf.Strings.Builder2
import Derived.Shelf.Strings.Trim
import Derived.Shelf.Small.Utf8
import Derived.Shelf.Small.Strs
import Derived.Shelf.Small.Wraps
import Derived.Shelf.Strings.BuilderF
import Derived.Shelf.Strings.BuilderK
import Derived.Shelf.Strings.Builder2Cap
import Derived.Shelf.Strconv.Atoi
import Derived.Shelf.Strconv.Itoa0
import Derived.Shelf.Strconv.Itoa1
import Derived.Shelf.LaysM
import Derived.Shelf.Strconv.Itoa2
import Derived.Shelf.Strconv.Itoa3
import Derived.Shelf.Strconv.AtoiErrFast
import Derived.Shelf.Strconv.ParseIntEmpty
import Derived.Shelf.Strconv.AtoiFail
import Derived.Shelf.Strconv.Clone
import Derived.Shelf.Strconv.SyntaxError
import Derived.Shelf.LaysC
import Derived.Shelf.Strconv.ToError
import Derived.Shelf.Strconv.AtoiErr
import Derived.Shelf.Strconv.ErrVar
import Derived.Shelf.Strconv.Lower
import Derived.Shelf.Strconv.ParseUint10
import Derived.Shelf.Strconv.ParseUint10Empty
import Derived.Shelf.Strconv.ParseUint10Any
import Derived.Shelf.Strconv.ParseInt10
import Derived.Shelf.Strconv.AtoiLong
import Derived.Shelf.Strconv.AtoiInnerAll
import Derived.Shelf.Strconv.RangeError
import Derived.Shelf.Strconv.ToErrorRange
import Derived.Shelf.Strconv.AtoiAll
import Derived.Shelf.Strconv.ErrVarAll
import Derived.Shelf.Strconv.ParseUintEmpty
import Derived.Shelf.Strconv.ParseUint10b64
import Derived.Shelf.Strconv.ParseUint10b32
import Derived.Shelf.Strconv.ParseUint10b16
import Derived.Shelf.Strconv.ParseUint10b8
import Derived.Shelf.Strconv.ParseUint10At
import Derived.Shelf.Strconv.ParseInt10At64
import Derived.Shelf.Strconv.ParseInt10At32
import Derived.Shelf.Strconv.ParseInt10At16
import Derived.Shelf.Strconv.ParseInt10At8
import Derived.Shelf.Strconv.ParseInt10All
import Derived.Shelf.Strings.Search1
import Derived.Shelf.Strings.Search2
import Derived.Shelf.Strings.Cut
import Derived.Shelf.Strings.Shaped
import Derived.Shelf.Strings.Prefix
import Derived.Shelf.Unicode.Decode
import Derived.Shelf.Strings.Runes
import Derived.Shelf.Strings.AsciiSet
import Derived.Shelf.Bits.Mul64
import Derived.Shelf.Strings.Repeat
import Derived.Shelf.Unicode.DecodeSlow
import Derived.Shelf.Unicode.DecodeAny
import Derived.Shelf.Unicode.DecodeLast
import Derived.Shelf.Strings.BuilderCap
import Derived.Test.YtmjbiocildkhnaaGreatDoorProg
import Derived.Shelf.Strings.SlTrimAscii
import Derived.Lib.IndexLaws
set_option linter.unusedSimpArgs false
set_option linter.unusedVariables false
set_option maxRecDepth 100000
set_option maxHeartbeats 8000000
section
namespace Go.Proofs.YtmjbiocildkhnaaGreatDoor
open Go Go.RowKit Tryz
def GivesD (P : Program) (f : FuncId) (args : List Value) (u : FrameMode) (w : World) (Φ : FrameMode → World → Prop) : Prop:=
 CallsD P f args.toArray u w fun e u' w'=>(∃ v,e = .returned v) ∧ Φ u' w'
def d38 (P : Program) (fn : Func) (Ψ : Value → World → Prop) (g : FuncId) (caps : List Value) : E4:=fun e ρ w=>match e with
 | .normal | .ret=>GivesD P g caps .returning w fun u' w'=>u' = .returning ∧ ∃ vs,N6 P ρ w' fn.results.toList vs ∧ Ψ (a60 vs) w'
 | .panic ch=>GivesD P g caps (.panicking ch) w fun u' w'=>settle u' = .returning ∧ ∃ vs,N6 P ρ w' fn.results.toList vs ∧ Ψ (a60 vs) w'
 | _=>False
def WpD (P : Program) (n : Nat) (c : Code) (Q : Exit → Act → World → Prop) (D : List Deferred) (ρ : Fr) (w : World) : Prop:=
 K6 n c = true → ∀ a,Mt n D a ρ → c.wp P Q a w
def dz3 : E4:=fun _ _ _=>False
section
variable {P : Program} {n : Nat} {Q : Exit → Act → World → Prop} {D : List Deferred} {ρ : Fr} {w : World}
theorem a90 {a b : Code} (h : Wp P n a (I7 (fun ρ w=>WpD P n b Q D ρ w) dz3) ρ w) : WpD P n (.seq a b) Q D ρ w:=by
 intro hc act hm
 simp only [K6,Bool.and_eq_true] at hc
 unfold Wp at h
 refine Go.wp_seq (Go.wp_mono (h hc.1 _ act hm) ?_)
 rintro e a' w' ⟨ρ',hm',hq⟩
 cases e with
 | normal=>exact hq hc.2 a' hm'
 | _=>exact hq.elim
theorem a86 {c : Code} {Q' : E4} (h : Wp P n c Q' ρ w) (k : ∀ e a ρ w,Mt n D a ρ → Q' e ρ w → Q e a w) : WpD P n c Q D ρ w:=by
 intro hc act hm
 unfold Wp at h
 refine Go.wp_mono (h hc _ act hm) ?_
 rintro e a' w' ⟨ρ',hm',hq⟩
 exact k _ _ _ _ hm' hq
theorem Y1 {j : Nat} {b : Code} {d : Tmp} {g : FuncId} {cap : List Operand} {ty ty2 : TypeId} {pos pos2 : String} {aft aft2 : Array Edge} {ts : Array TypeId}
  (h : WpD P n b Q (⟨.fn (.func g) (cap.map (ev ρ)).toArray,#[]⟩ :: D) (upd ρ d (.func (.func g) #[] (cap.map (ev ρ)).toArray)) w) :
  WpD P n (.seq (.region j #[⟨some d,.makeFunc (.func g) #[] cap.toArray,ty,pos,aft,none⟩,⟨none,.defer ⟨.value (.tmp d),#[],ts⟩,ty2,pos2,aft2,none⟩] false) b) Q D ρ w:=by
 intro hc act hm
 simp only [K6,Bool.and_eq_true] at hc
 have hd : Nat.blt d n = true:=by
  have:=hc.1
  simp [W7] at this
  simpa using this
 refine Go.wp_seq (wp_region_lit (l:=[_,_]) ?_)
 refine wpList_plain rfl fun K hK=>?_
 unfold Oper.wp
 rw [hm.eval]
 have hr1 : (execOp (ev ρ) ⟨some d,.makeFunc (.func g) #[] cap.toArray,ty,pos,aft,none⟩).run P w = .ok (.value (.func (.func g) #[] (cap.map (ev ρ)).toArray)) w:=by simp [execOp,Instr.makeFunc]
 rw [hr1]
 have hm2:=hm.put hd (.func (.func g) #[] (cap.map (ev ρ)).toArray)
 refine hK _ _ ?_
 refine wpList_plain rfl fun K2 hK2=>?_
 unfold Oper.wp
 rw [hm2.eval]
 have hr2 : (execOp (ev (upd ρ d (.func (.func g) #[] (cap.map (ev ρ)).toArray))) ⟨none,.defer ⟨.value (.tmp d),#[],ts⟩,ty2,pos2,aft2,none⟩).run P w = .ok (.defer ⟨.fn (.func g) (cap.map (ev ρ)).toArray,#[]⟩) w:=by
  simp [execOp,resolve,Deferred.ofValue,ev,B1]
 rw [hr2]
 refine hK2 _ _ (wpList_nil ?_)
 exact h hc.2 _ ⟨hm2.size,by show _ :: _ = _ :: _; rw [hm2.defers],hm2.get⟩
end
theorem W4 {P : Program} {f : FuncId} {fn : Func} {c : Code} {args : List Value} {w : World} {Ψ : Value → World → Prop}
  (hf : P.funcs[f]? = some fn) (hb : fn.body = some c) (hok : K6 fn.ntmps c = true) (hn0 : Nat.ble args.length fn.ntmps = true)
  (h : WpD P fn.ntmps c (bodyPostD P fn fun e w'=>∃ v,e = .returned v ∧ Ψ v w') [] (fun i=>args.getD i undef) w) : Gives P f args w Ψ:=
 calls_of_wp_defers hf hb (h hok _ (aw9 fn hn0))
theorem aw2 {P : Program} {fn : Func} {Ψ : Value → World → Prop} {g : FuncId} {caps : List Value} [ci : CallI P g] {e : Exit} {a : Act} {ρ : Fr} {w : World}
  (hm : Mt fn.ntmps [⟨.fn (.func g) caps.toArray,#[]⟩] a ρ) (h : d38 P fn Ψ g caps e ρ w) : bodyPostD P fn (fun e w'=>∃ v,e = .returned v ∧ Ψ v w') e a w:=by
 have hi : (invoke (.fn (.func g) caps.toArray) #[]).run P w = .ok (.enter g caps.toArray) w:=by simp [invoke,ci.run]
 have hret : ∀ w',(∃ vs,N6 P ρ w' fn.results.toList vs ∧ Ψ (a60 vs) w') → Leaves P fn a.tmps (fun e w'=>∃ v,e = .returned v ∧ Ψ v w') [] .returning w':=by
  rintro w' ⟨vs,hr,hv⟩
  exact ⟨_,G0 hm hr,_,rfl,hv⟩
 have hn : (h : GivesD P g caps .returning w fun u' w'=>u' = .returning ∧ ∃ vs,N6 P ρ w' fn.results.toList vs ∧ Ψ (a60 vs) w') → Leaves P fn a.tmps (fun e w'=>∃ v,e = .returned v ∧ Ψ v w') a.defers .returning w:=by
  intro h
  rw [hm.defers]
  refine leaves_cons (by simp) hi (CallsD.mono h ?_)
  rintro e u' w' ⟨⟨v,rfl⟩,rfl,hv⟩
  exact hret w' hv
 cases e with
 | normal=>exact hn h
 | ret=>exact hn h
 | panic ch=>
  show Leaves P fn a.tmps _ a.defers (.panicking ch) w
  rw [hm.defers]
  refine leaves_cons (by simp) hi (CallsD.mono h ?_)
  rintro e u' w' ⟨⟨v,rfl⟩,hs,hv⟩
  show Leaves P fn a.tmps _ [] (settle u') w'
  rw [hs]
  exact hret w' hv
 | _=>exact h.elim
def d55 (P : Program) (fn : Func) (K : World → Prop) : E4:=fun e ρ w=>match e with
 | .normal | .ret=>∃ vs,N6 P ρ w fn.results.toList vs ∧ K w
 | _=>False
theorem cw9 {P : Program} {ops : Array Oper} {Q : Exit → Act → List Frame → World → Prop} {i : Nat} {rest : List Nat} {a : Act} {cs : List Frame} {w w' : World} {o : Oper} (h0 : ops[i]? = some o) (hg : o.guard = none)
  (hr : (execOp a.eval o).run P w = .ok .recover w')
  (h : match recoverD cs with | some (v,cs')=>wpOpsS P ops Q rest (a.put o.dst v) cs' w' | none=>wpOpsS P ops Q rest (a.put o.dst .nilIface) cs w') : wpOpsS P ops Q (i :: rest) a cs w:=by
 unfold wpOpsS
 simp only [h0,Region.wanted,hg,hr,if_true]
 exact h
theorem b17 {P : Program} {ops : Array Oper} {Q : Exit → Act → List Frame → World → Prop} {i : Nat} {rest : List Nat} {a : Act} {cs : List Frame} {w w' : World} {o : Oper} {v : Value} (h0 : ops[i]? = some o) (hg : o.guard = none)
  (hr : (execOp a.eval o).run P w = .ok (.value v) w') (h : wpOpsS P ops Q rest (a.put o.dst v) cs w') : wpOpsS P ops Q (i :: rest) a cs w:=by
 unfold wpOpsS
 simp only [h0,Region.wanted,hg,hr,if_true,Oper.upon]
 exact h
theorem H3 {P : Program} {f : FuncId} {fn : Func} {j : Nat} {d1 d2 : Tmp} {ty ty2 : TypeId} {pos pos2 : String} {aft aft2 : Array Edge} {c1 : Code} {args : List Value} {u u2 : FrameMode} {v : Value} {w : World} {Φ : FrameMode → World → Prop}
  (hf : P.funcs[f]? = some fn)
  (hb : fn.body = some (.seq (.region j #[⟨some d1,.call ⟨.builtin .recover,#[],#[]⟩,ty,pos,aft,none⟩,⟨some d2,.assign (.tmp d1),ty2,pos2,aft2,none⟩] false) c1))
  (hn0 : Nat.ble args.length fn.ntmps = true) (hd1 : Nat.blt d1 fn.ntmps = true) (hd2 : Nat.blt d2 fn.ntmps = true) (hok : K6 fn.ntmps c1 = true)
  (hu : (u = .returning ∧ u2 = .returning ∧ v = .nilIface) ∨ ∃ x,u = .panicking [{ v:=x,recovered:=false }] ∧ u2 = .panicking [{ v:=x,recovered:=true }] ∧ v = x)
  (h : Wp P fn.ntmps c1 (d55 P fn (Φ u2)) (upd (upd (fun i=>args.getD i undef) d1 v) d2 v) w) : GivesD P f args u w Φ:=by
 refine callsD_of_wpS hf hb fun c₀ cs hm=>?_
 have m0:=aw9 fn hn0
 have m1:=m0.put hd1 v
 have m2:=m1.put hd2 v
 refine wpS_seq (wpS_region ?_)
 have hrange : List.range (#[(⟨some d1,.call ⟨.builtin .recover,#[],#[]⟩,ty,pos,aft,none⟩ : Oper),⟨some d2,.assign (.tmp d1),ty2,pos2,aft2,none⟩]).size = [0,1]:=rfl
 rw [hrange]
 have hrest : ∀ cs',cs' = { c₀ with mode:=u2 } :: cs → Code.wpS P c1 (bodyPostS P fn c₀ cs fun e u' w'=>(∃ v,e = .returned v) ∧ Φ u' w')
   (({ tmps:=args.toArray ++ Array.replicate (fn.ntmps - args.toArray.size) undef,defers:=[] } : Act).put (some d1) v |>.put (some d2) v) cs' w:=by
  rintro cs' rfl
  refine wpS_of_wp ?_
  unfold Wp at h
  refine Go.wp_mono (h hok _ _ m2) ?_
  rintro e a w' ⟨ρ,hm',hq⟩
  cases e with
  | normal=>obtain ⟨vs,hr,hv⟩:=hq; exact ⟨hm'.defers,u2,rfl,_,G0 hm' hr,⟨_,rfl⟩,hv⟩
  | ret=>obtain ⟨vs,hr,hv⟩:=hq; exact ⟨hm'.defers,u2,rfl,_,G0 hm' hr,⟨_,rfl⟩,hv⟩
  | _=>exact hq.elim
 have hr0 : ∀ ρ : Operand → Value,(execOp ρ ⟨some d1,.call ⟨.builtin .recover,#[],#[]⟩,ty,pos,aft,none⟩).run P w = .ok .recover w:=fun ρ=>by
  simp [execOp,resolve,invoke,builtin]
 have hr1 : (execOp (({ tmps:=args.toArray ++ Array.replicate (fn.ntmps - args.toArray.size) undef,defers:=[] } : Act).put (some d1) v).eval ⟨some d2,.assign (.tmp d1),ty2,pos2,aft2,none⟩).run P w = .ok (.value v) w:=by
  rw [m1.eval]
  simp [execOp,ev,B1]
 have hrec : (match recoverD (c₀ :: cs) with | some (v',cs')=>v' = v ∧ cs' = { c₀ with mode:=u2 } :: cs | none=>v = .nilIface ∧ c₀ :: cs = { c₀ with mode:=u2 } :: cs):=by
  rcases hu with ⟨rfl,rfl,rfl⟩ | ⟨x,rfl,rfl,rfl⟩
  ·simp only [recoverD,hm]
   refine ⟨trivial,?_⟩
   congr 1
   rw [← hm]
  simp only [recoverD,hm]
  first | exact ⟨trivial,trivial⟩ | exact ⟨trivial,rfl⟩
 refine cw9 (o:=⟨some d1,.call ⟨.builtin .recover,#[],#[]⟩,ty,pos,aft,none⟩) rfl rfl (hr0 _) ?_
 cases hr : recoverD (c₀ :: cs) with
 | none=>
  rw [hr] at hrec
  obtain ⟨hv,hcs⟩:=hrec
  subst hv
  exact b17 (o:=⟨some d2,.assign (.tmp d1),ty2,pos2,aft2,none⟩) rfl rfl hr1 (hrest _ hcs)
 | some p=>
  obtain ⟨v',cs'⟩:=p
  rw [hr] at hrec
  obtain ⟨hv,hcs⟩:=hrec
  subst hv
  exact b17 (o:=⟨some d2,.assign (.tmp d1),ty2,pos2,aft2,none⟩) rfl rfl hr1 (hrest _ hcs)
def b99 : List PanicEntry:=[{ v:=.iface 196 (.agg #[]),recovered:=false }]
theorem ck3 {S : Nat → Prop} {w : World} {v : Value} {z : Int} (hS : Up S w) (h : IntV S 193 .u32 w v z) :
  GivesE prog 156 [v] w (fun v' w'=>v' = v ∧ Ext w w' ∧ z.natAbs < Big) fun ch w'=>ch = b99 ∧ Ext w w' ∧ ¬ z.natAbs < Big:=by
 obtain ⟨m,rfl,hm⟩:=h
 refine bm9 func156 rfl rfl rfl ?_
 repeat (first | refine b6 ?_ | refine b7 ?_)
 refine s6 (cs:=[.bool (tst (z < 0)),m]) rfl ?_
 intro w1 g k1 hg hgs
 skip
 refine q8 (cs:=[.bool false,.slice none 0 0]) rfl ?_
 intro w2 g2 k2 hg2 hgs2
 have hgl:=hg.lt
 replace hg:=hg.to k2
 have k:=k1.trans k2
 repeat (first | refine i1 rfl hg rfl ?_ | refine b6 ?_ | refine d8 ?_ | refine b7 ?_ | refine b8 ?_ | refine j5 rfl ?_)
 refine i6 (cn1 (hS.to k) (hm.to k)) rfl ?_
 rintro v3 w3 ⟨rfl,k3⟩
 repeat (first | refine b8 ?_ | refine c8 ?_ | refine az0 rfl ?_)
 try refine i7 ?_
 refine j4 rfl ?_ ?_ <;> intro hc
 ·repeat (first | refine b7 ?_)
  refine au6 (cs:=[]) rfl ?_
  refine dj2 rfl ?_
  refine dd5 rfl ?_
  refine M0 (as2 ⟨rfl,k.trans k3,hc⟩)
 repeat (first | refine o9 rfl (hg.to k3) rfl ?_ | refine b6 ?_ | refine b7 ?_ | refine wp_skip ?_)
 refine A8 rfl (by conv=>(lhs; whnf)) (hg2.to k3) rfl hm.one ?_
 intro w4 k4 hg4
 repeat (first | refine b8 ?_ | refine c8 ?_ | refine wp_ret ?_)
 exact ci2 (O0 rfl (n6 hg4 rfl) ⟨rfl,Keeps.past (k.trans k3) k4 (by have:=k1.size; omega),Classical.not_not.1 hc⟩)
def R1 (q : Rat) : Prop:=q.num.natAbs < Big ∧ q.den < Big
theorem dd3 {S : Nat → Prop} {w : World} {v : Value} {q : Rat} (hS : Up S w) (h : RatV S w v q) :
  GivesE prog 116 [v] w (fun v' w'=>v' = v ∧ Ext w w' ∧ R1 q) fun ch w'=>ch = b99 ∧ Ext w w' ∧ ¬ R1 q:=by
 have h0:=h
 obtain ⟨m,b,rfl,hm,hb⟩:=h
 refine bm9 func116 rfl rfl rfl ?_
 repeat (first | refine b6 ?_ | refine b7 ?_)
 refine s6 (cs:=[.bool (tst (q.num < 0)),m,b]) rfl ?_
 intro w1 g k1 hg hgs
 skip
 refine q8 (cs:=[.bool false,.slice none 0 0,.slice none 0 0]) rfl ?_
 intro w2 g2 k2 hg2 hgs2
 have hgl:=hg.lt
 replace hg:=hg.to k2
 have k:=k1.trans k2
 have hk1:=k1.size
 replace hS:=hS.to k
 replace h0:=h0.to k
 repeat (first | refine o8 rfl hg rfl rfl ?_ | refine b6 ?_ | refine b7 ?_ | refine b8 ?_ | refine j5 rfl ?_)
 refine ce0 (ck3 (z:=q.num) hS ⟨m,rfl,hm.to k⟩) rfl ?_ ?_
 ·rintro v3 w3 ⟨_,k3,hf⟩
  repeat (first | refine o9 rfl (hg.to k3) rfl ?_ | refine b6 ?_ | refine b7 ?_ | refine b8 ?_)
  refine i6 (a48 (hS.to k3) (h0.to k3)) rfl ?_
  rintro v4 w4 ⟨k4,h4⟩
  refine i6 (bl6 h4) rfl ?_
  rintro v5 w5 ⟨k5,h5⟩
  refine ce0 (ck3 (z:=(q.den : Int)) (hS.to ((k3.trans k4).trans k5)) h5) rfl ?_ ?_
  ·rintro v6 w6 ⟨_,k6,hf2⟩
   have k36:=((k3.trans k4).trans k5).trans k6
   repeat (first | refine o9 rfl (hg.to k36) rfl ?_ | refine b6 ?_ | refine b7 ?_ | refine b8 ?_)
   refine E6 rfl (by conv=>(lhs; whnf)) (hg2.to k36) rfl rfl hm.one hb.one ?_
   intro w7 k7 hg7
   repeat (first | refine b8 ?_ | refine c8 ?_ | refine wp_ret ?_)
   exact ci2 (O0 rfl (n6 hg7 rfl) ⟨rfl,Keeps.past (k.trans k36) k7 (by omega),hf,by rwa [Int.natAbs_natCast] at hf2⟩)
  rintro ch w6 ⟨rfl,k6,hf2⟩
  exact M0 (as2 ⟨rfl,((k.trans k3).trans k4).trans (k5.trans k6),fun h=>hf2 (by rw [Int.natAbs_natCast]; exact h.2)⟩)
 rintro ch w3 ⟨rfl,k3,hf⟩
 exact M0 (as2 ⟨rfl,k.trans k3,fun h=>hf h.1⟩)
theorem b54 {w : World} {g1 g2 : Nat} : GivesD prog 154 [.pointer (some ⟨g1,0,none⟩),.pointer (some ⟨g2,0,none⟩)] .returning w fun u' w'=>u' = .returning ∧ w' = w:=by
 refine H3 func154 rfl rfl rfl rfl rfl (.inl ⟨rfl,rfl,rfl⟩) ?_
 repeat (first | refine V0 rfl ?_ | refine b6 ?_ | refine b7 ?_ | refine c0 ?_ | refine b8 ?_ | refine c8 ?_ | refine wp_skip ?_ | refine wp_cond_false rfl ?_)
 exact ⟨[],rfl,rfl,rfl⟩
theorem cb6 {w : World} {g1 g2 : Nat} {cs1 : List Value} {e : Value} (h1 : Blk w g1 41 cs1) (hl : cs1.length = 3) (h2 : Blk w g2 44 [e]) :
  GivesD prog 154 [.pointer (some ⟨g1,0,none⟩),.pointer (some ⟨g2,0,none⟩)] (.panicking b99) w fun u' w'=>settle u' = .returning ∧
   Keeps (fun k=>k ≠ g1 ∧ k ≠ g2) w w' ∧ Blk w' g1 41 [.bool false,.slice none 0 0,.slice none 0 0] ∧ Blk w' g2 44 [.int .i64 11]:=by
 have hne : g1 ≠ g2:=h1.ne h2 (by decide)
 refine H3 func154 rfl rfl rfl rfl rfl (.inr ⟨_,rfl,rfl,rfl⟩) ?_
 repeat (first | refine ae0 rfl ?_ | refine av2 rfl ?_ | refine b6 ?_ | refine d8 ?_ | refine b7 ?_ | refine c0 ?_ | refine b8 ?_ | refine c8 ?_ | refine B2 rfl rfl ?_ | refine wp_cond_true rfl ?_)
 refine q8 (cs:=[]) rfl ?_
 intro w1 g3 k1 hg3 hgs3
 have hl1:=h1.lt
 have hl2:=h2.lt
 refine A9 (us:=[]) rfl (by conv=>(lhs; whnf)) rfl rfl hg3 rfl (fun v hv=>by cases hv) ?_
 intro w2 k2 hg32
 repeat (first | refine av3 rfl ?_ | refine b6 ?_ | refine b7 ?_ | refine c0 ?_ | refine b9 ?_ | refine b8 ?_ | refine c8 ?_ | refine wp_skip ?_ | refine wp_cond_false rfl ?_)
 refine q8 (cs:=[.bool false,.slice none 0 0,.slice none 0 0]) rfl ?_
 intro w3 g5 k3 hg5 hgs5
 have k : Ext w w3:=(Keeps.past k1 k2 hgs3).trans k3
 repeat (first | refine o9 rfl hg5 rfl ?_ | refine b7 ?_ | refine b8 ?_)
 refine E6 rfl (by conv=>(lhs; whnf)) (h1.to k) hl rfl rfl rfl ?_
 intro w4 k4 h14
 skip
 refine J4 (u:=.int .i64 11) rfl rfl ((h2.to k).wr k4 (fun e=>hne e.symm)) (show 0 < 1 by decide) rfl ?_
 intro w5 k5 h25
 repeat (first | refine b8 ?_)
 refine ⟨[],rfl,rfl,?_,h14.wr k5 hne,h25⟩
 exact ((Keeps.of k).trans (k4.mono fun i hi=>hi.1)).trans (k5.mono fun i hi=>hi.2)
theorem GivesD.mono {P : Program} {f : FuncId} {args : List Value} {u : FrameMode} {w : World} {Φ Φ' : FrameMode → World → Prop} (h : GivesD P f args u w Φ) (k : ∀ u' w',Φ u' w' → Φ' u' w') : GivesD P f args u w Φ':=
 CallsD.mono h fun e u' w' ⟨he,hp⟩=>⟨he,k _ _ hp⟩
def be9 (S : Nat → Prop) (w : World) (v : Value) (q : Rat) : Prop:=
 ∃ r e,v = .tuple #[r,.int .i64 e] ∧ (R1 q ∧ e = 0 ∧ RatV S w r q ∨ ¬ R1 q ∧ e = 11 ∧ RatV S w r 0)
theorem I9 {S : Nat → Prop} {w : World} : RatV S w (.agg #[.bool false,.slice none 0 0,.slice none 0 0]) 0:=⟨_,_,by rw [l6 (by decide)],.nil,.nil⟩
theorem ai2 {S : Nat → Prop} {w : World} {v : Value} {q : Rat} (hS : Up S w) (h : RatV S w v q) :
  Gives prog 114 [.func (.func 116) #[v] #[]] w fun v' w'=>Ext w w' ∧ be9 S w' v' q:=by
 refine W4 func114 rfl rfl rfl ?_
 refine a90 ?_
 repeat (first | refine b7 ?_)
 refine q8 (cs:=[.bool false,.slice none 0 0,.slice none 0 0]) rfl ?_
 intro w1 g1 k1 hg1 hgs1
 skip
 refine q8 (cs:=[.int .i64 0]) rfl ?_
 intro w2 g2 k2 hg2 hgs2
 have hgl:=hg1.lt
 replace hg1:=hg1.to k2
 have k:=k1.trans k2
 have hk1:=k1.size
 repeat (first | refine b8 ?_ | refine c8 ?_)
 refine Y1 ?_
 refine a86 ?_ (fun e a ρ w hm hq=>aw2 hm hq)
 repeat (first | refine b6 ?_ | refine b7 ?_ | refine c0 ?_)
 refine av9 (first:=[v]) (cap:=[]) rfl (dd3 (hS.to k) (h.to k)) rfl ?_ ?_
 ·rintro v3 w3 ⟨rfl,k3,hf⟩
  have h3:=h.to (k.trans k3)
  obtain ⟨m,b,hv,hm,hb⟩:=h3
  skip
  refine E6 rfl hv (hg1.to k3) rfl rfl hm.one hb.one ?_
  intro w4 k4 hg4
  have hg24:=(hg2.to k3).wr k4 (by omega)
  refine J4 (u:=.int .i64 0) rfl rfl hg24 (show 0 < 1 by decide) rfl ?_
  intro w5 k5 hg5
  have hg45:=hg4.wr k5 (by omega)
  repeat (first | refine b8 ?_ | refine c8 ?_ | refine wp_ret ?_)
  refine b54.mono ?_
  rintro u' w' ⟨rfl,rfl⟩
  refine ⟨rfl,[.agg #[.bool (tst (q.num < 0)),m,b],.int .i64 0],⟨_,_,n6 hg45 rfl,⟨_,_,Q0 (by conv=>(lhs; whnf)) hg5,rfl,rfl⟩,rfl⟩,?_⟩
  exact ⟨((Keeps.past (k.trans k3) k4 (by omega)).past k5 (by omega)),_,_,rfl,.inl ⟨hf,rfl,m,b,rfl,(hm.wrT k4 (hg1.to k3) (by decide)).wrT k5 hg24 (by decide),(hb.wrT k4 (hg1.to k3) (by decide)).wrT k5 hg24 (by decide)⟩⟩
 rintro ch w3 ⟨rfl,k3,hf⟩
 refine M0 ?_
 refine (cb6 (hg1.to k3) rfl (hg2.to k3)).mono ?_
 rintro u' w' ⟨hu,k4,h1,h2⟩
 refine ⟨hu,[.agg #[.bool false,.slice none 0 0,.slice none 0 0],.int .i64 11],⟨_,_,n6 h1 rfl,⟨_,_,Q0 (by conv=>(lhs; whnf)) h2,rfl,rfl⟩,rfl⟩,?_⟩
 exact ⟨Keeps.later (k.trans k3) k4 (fun i hi _=>⟨by omega,by omega⟩),_,_,rfl,.inr ⟨hf,rfl,I9⟩⟩
theorem dv1 {S : Nat → Prop} {w : World} {va vb : Value} {a b : Rat} (hS : Up S w) (ha : RatV S w va a) (hb : RatV S w vb b) (hla : rl a 400000000000) (hlb : rl b 400000000000) :
  Gives prog 151 [va,vb] w fun v' w'=>Ext w w' ∧ be9 S w' v' (a + b):=by
 have ha0:=ha
 have hb0:=hb
 obtain ⟨ma,ba,rfl,hma,hba⟩:=ha
 obtain ⟨mb,bb,rfl,hmb,hbb⟩:=hb
 refine l7 func151 rfl rfl rfl ?_
 repeat (first | refine b6 ?_ | refine b7 ?_)
 refine s6 (cs:=[.bool (tst (a.num < 0)),ma,ba]) rfl ?_
 intro w1 ga k1 hga hgsa
 skip
 refine s6 (cs:=[.bool (tst (b.num < 0)),mb,bb]) rfl ?_
 intro w2 gb k2 hgb hgsb
 skip
 refine q8 (cs:=[.bool false,.slice none 0 0,.slice none 0 0]) rfl ?_
 intro w3 g k3 hg hgs
 replace hga:=hga.to (k2.trans k3)
 replace hgb:=hgb.to k3
 have k:=(k1.trans k2).trans k3
 have hs:=(k1.trans k2).size
 replace ha0:=ha0.to k
 replace hb0:=hb0.to k
 replace hma:=hma.to k
 replace hmb:=hmb.to k
 replace hba:=hba.to k
 replace hbb:=hbb.to k
 replace hS:=hS.to k
 clear k1 k2 k3
 repeat (first | refine b6 ?_ | refine b7 ?_ | refine b9 ?_ | refine b8 ?_)
 repeat (first | refine o9 rfl hga rfl ?_ | refine o9 rfl hgb rfl ?_)
 refine i6 (di5 hS ha0 hb0 hla hlb) rfl ?_
 rintro v4 w4 ⟨k4,h4⟩
 repeat (first | refine am5 ?_)
 refine i6 (ai2 (hS.to k4) h4) rfl ?_
 rintro v5 w5 ⟨k5,r,e,rfl,hor⟩
 repeat (first | refine B2 rfl rfl ?_)
 have k':=(k.trans k4).trans k5
 replace hg:=(hg.to k4).to k5
 rcases hor with ⟨hf,rfl,m,b,rfl,hm,hb⟩ | ⟨hf,rfl,m,b,rfl,hm,hb⟩
 ·refine E6 rfl rfl hg rfl rfl hm.one hb.one ?_
  intro w6 k6 hg6
  repeat (first | refine b9 ?_ | refine b8 ?_ | refine c8 ?_ | refine wp_ret ?_)
  exact bd8 rfl (n6 hg6 rfl) (B0 (by conv=>(lhs; whnf))) ⟨Keeps.past k' k6 (by omega),_,_,rfl,.inl ⟨hf,rfl,m,b,rfl,hm.wrT k6 hg (by decide),hb.wrT k6 hg (by decide)⟩⟩
 refine E6 rfl rfl hg rfl rfl hm.one hb.one ?_
 intro w6 k6 hg6
 repeat (first | refine b9 ?_ | refine b8 ?_ | refine c8 ?_ | refine wp_ret ?_)
 exact bd8 rfl (n6 hg6 rfl) (B0 (by conv=>(lhs; whnf))) ⟨Keeps.past k' k6 (by omega),_,_,rfl,.inr ⟨hf,rfl,m,b,rfl,hm.wrT k6 hg (by decide),hb.wrT k6 hg (by decide)⟩⟩
theorem dr7 {S : Nat → Prop} {w : World} {va vb : Value} {a b : Rat} (hS : Up S w) (ha : RatV S w va a) (hb : RatV S w vb b) (hla : rl a 400000000000) (hlb : rl b 400000000000) :
  Gives prog 113 [va,vb] w fun v' w'=>Ext w w' ∧ be9 S w' v' (a * b):=by
 have ha0:=ha
 have hb0:=hb
 obtain ⟨ma,ba,rfl,hma,hba⟩:=ha
 obtain ⟨mb,bb,rfl,hmb,hbb⟩:=hb
 refine l7 func113 rfl rfl rfl ?_
 repeat (first | refine b6 ?_ | refine b7 ?_)
 refine s6 (cs:=[.bool (tst (a.num < 0)),ma,ba]) rfl ?_
 intro w1 ga k1 hga hgsa
 skip
 refine s6 (cs:=[.bool (tst (b.num < 0)),mb,bb]) rfl ?_
 intro w2 gb k2 hgb hgsb
 skip
 refine q8 (cs:=[.bool false,.slice none 0 0,.slice none 0 0]) rfl ?_
 intro w3 g k3 hg hgs
 replace hga:=hga.to (k2.trans k3)
 replace hgb:=hgb.to k3
 have k:=(k1.trans k2).trans k3
 have hs:=(k1.trans k2).size
 replace ha0:=ha0.to k
 replace hb0:=hb0.to k
 replace hma:=hma.to k
 replace hmb:=hmb.to k
 replace hba:=hba.to k
 replace hbb:=hbb.to k
 replace hS:=hS.to k
 clear k1 k2 k3
 repeat (first | refine b6 ?_ | refine b7 ?_ | refine b9 ?_ | refine b8 ?_)
 repeat (first | refine o9 rfl hga rfl ?_ | refine o9 rfl hgb rfl ?_)
 refine i6 (c68 hS ha0 hb0 hla hlb) rfl ?_
 rintro v4 w4 ⟨k4,h4⟩
 repeat (first | refine am5 ?_)
 refine i6 (ai2 (hS.to k4) h4) rfl ?_
 rintro v5 w5 ⟨k5,r,e,rfl,hor⟩
 repeat (first | refine B2 rfl rfl ?_)
 have k':=(k.trans k4).trans k5
 replace hg:=(hg.to k4).to k5
 rcases hor with ⟨hf,rfl,m,b,rfl,hm,hb⟩ | ⟨hf,rfl,m,b,rfl,hm,hb⟩
 ·refine E6 rfl rfl hg rfl rfl hm.one hb.one ?_
  intro w6 k6 hg6
  repeat (first | refine b9 ?_ | refine b8 ?_ | refine c8 ?_ | refine wp_ret ?_)
  exact bd8 rfl (n6 hg6 rfl) (B0 (by conv=>(lhs; whnf))) ⟨Keeps.past k' k6 (by omega),_,_,rfl,.inl ⟨hf,rfl,m,b,rfl,hm.wrT k6 hg (by decide),hb.wrT k6 hg (by decide)⟩⟩
 refine E6 rfl rfl hg rfl rfl hm.one hb.one ?_
 intro w6 k6 hg6
 repeat (first | refine b9 ?_ | refine b8 ?_ | refine c8 ?_ | refine wp_ret ?_)
 exact bd8 rfl (n6 hg6 rfl) (B0 (by conv=>(lhs; whnf))) ⟨Keeps.past k' k6 (by omega),_,_,rfl,.inr ⟨hf,rfl,m,b,rfl,hm.wrT k6 hg (by decide),hb.wrT k6 hg (by decide)⟩⟩
theorem ak6 {S : Nat → Prop} {w : World} {va vb : Value} {a b : Rat} (hS : Up S w) (ha : RatV S w va a) (hb : RatV S w vb b) (hla : rl a 400000000000) (hlb : rl b 400000000000) (hb0' : b.num ≠ 0) :
  Gives prog 63 [va,vb] w fun v' w'=>Ext w w' ∧ be9 S w' v' (a / b):=by
 have ha0:=ha
 have hb0:=hb
 obtain ⟨ma,ba,rfl,hma,hba⟩:=ha
 obtain ⟨mb,bb,rfl,hmb,hbb⟩:=hb
 refine l7 func63 rfl rfl rfl ?_
 repeat (first | refine b6 ?_ | refine b7 ?_)
 refine s6 (cs:=[.bool (tst (a.num < 0)),ma,ba]) rfl ?_
 intro w1 ga k1 hga hgsa
 skip
 refine s6 (cs:=[.bool (tst (b.num < 0)),mb,bb]) rfl ?_
 intro w2 gb k2 hgb hgsb
 skip
 refine q8 (cs:=[.bool false,.slice none 0 0,.slice none 0 0]) rfl ?_
 intro w3 g k3 hg hgs
 replace hga:=hga.to (k2.trans k3)
 replace hgb:=hgb.to k3
 have k:=(k1.trans k2).trans k3
 have hs:=(k1.trans k2).size
 replace ha0:=ha0.to k
 replace hb0:=hb0.to k
 replace hma:=hma.to k
 replace hmb:=hmb.to k
 replace hba:=hba.to k
 replace hbb:=hbb.to k
 replace hS:=hS.to k
 clear k1 k2 k3
 repeat (first | refine b6 ?_ | refine d8 ?_ | refine b7 ?_ | refine b9 ?_ | refine b8 ?_)
 repeat (first | refine o9 rfl hgb rfl ?_)
 refine i6 (av5 hb0) rfl ?_
 rintro v3 w3 ⟨rfl,k3⟩
 replace hS:=hS.to k3
 replace hga:=hga.to k3
 replace hgb:=hgb.to k3
 replace hg:=hg.to k3
 replace ha0:=ha0.to k3
 replace hb0:=hb0.to k3
 replace k:=k.trans k3
 have hsg : b.num.sign ≠ 0:=fun h=>hb0' (Int.sign_eq_zero_iff_zero.1 h)
 repeat (first | refine o9 rfl hga rfl ?_ | refine o9 rfl hgb rfl ?_ | refine b6 ?_ | refine b7 ?_ | refine b8 ?_ | refine c8 ?_ | refine wp_skip ?_ | refine Y9 rfl rfl ?_ | refine a97 rfl (by omega) ?_)
 refine i6 (di9 hS ha0 hb0 hla hlb hb0') rfl ?_
 rintro v4 w4 ⟨k4,h4⟩
 repeat (first | refine am5 ?_)
 refine i6 (ai2 (hS.to k4) h4) rfl ?_
 rintro v5 w5 ⟨k5,r,e,rfl,hor⟩
 repeat (first | refine B2 rfl rfl ?_)
 have k':=(k.trans k4).trans k5
 replace hg:=(hg.to k4).to k5
 rcases hor with ⟨hf,rfl,m,b,rfl,hm,hb⟩ | ⟨hf,rfl,m,b,rfl,hm,hb⟩
 ·refine E6 rfl rfl hg rfl rfl hm.one hb.one ?_
  intro w6 k6 hg6
  repeat (first | refine b9 ?_ | refine b8 ?_ | refine c8 ?_ | refine wp_ret ?_)
  exact bd8 rfl (n6 hg6 rfl) (B0 (by conv=>(lhs; whnf))) ⟨Keeps.past k' k6 (by omega),_,_,rfl,.inl ⟨hf,rfl,m,b,rfl,hm.wrT k6 hg (by decide),hb.wrT k6 hg (by decide)⟩⟩
 refine E6 rfl rfl hg rfl rfl hm.one hb.one ?_
 intro w6 k6 hg6
 repeat (first | refine b9 ?_ | refine b8 ?_ | refine c8 ?_ | refine wp_ret ?_)
 exact bd8 rfl (n6 hg6 rfl) (B0 (by conv=>(lhs; whnf))) ⟨Keeps.past k' k6 (by omega),_,_,rfl,.inr ⟨hf,rfl,m,b,rfl,hm.wrT k6 hg (by decide),hb.wrT k6 hg (by decide)⟩⟩
def J6 (q : Rat) : List UInt8:=Lib.itoa q.num ++ (if q.den = 1 then [] else 47 :: Lib.decDigits q.den)
theorem I4 (a : Nat) {k : Nat} (h : dl a ≤ k) : Lib.nDigits a ≤ 9 * k + 1:=by
 by_cases h0 : a = 0
 ·subst h0; rw [Lib.nDigits_small (by decide)]; omega
 have:=at1 (n:=a) (by omega); omega
theorem al4 (z : Int) : (Lib.itoa z).length ≤ Lib.nDigits z.natAbs + 1:=by
 unfold Lib.itoa
 split
 ·rw [List.length_cons,Lib.decDigits_length]; omega
 rw [Lib.decDigits_length,show z.toNat = z.natAbs by omega]; omega
theorem bf9 {S : Nat → Prop} {w : World} {v : Value} {q : Rat} (ht : Tab w) (h : RatV S w v q) (hl : rl q 400000000000) :
  Gives prog 47 [v] w fun v' w'=>v' = D9 (J6 q) ∧ Ext w w':=by
 obtain ⟨m,b,rfl,hm,hb⟩:=h
 obtain ⟨hl1,hl2⟩:=hl
 have hbl : (dg (bot q)).length = 0 ↔ q.den = 1:=by
  have h1:=@H6 (bot q)
  unfold dl at h1
  rw [h1]
  unfold bot
  have:=q.den_pos
  split <;> omega
 have hn1:=al4 q.num
 have hn2:=I4 q.num.natAbs hl1
 have hn3:=I4 q.den hl2
 refine l7 func47 rfl rfl rfl ?_
 repeat (first | refine b6 ?_ | refine b7 ?_)
 refine s6 (cs:=[.bool (tst (q.num < 0)),m,b]) rfl ?_
 intro w1 g k1 hg hgs
 replace hb:=hb.to k1
 repeat (first | refine o8 rfl hg rfl rfl ?_ | refine b6 ?_ | refine b7 ?_ | refine b9 ?_ | refine b8 ?_ | refine j5 rfl ?_)
 refine i6 (be8 (a:=q.num) (ht.to k1) ⟨m,rfl,hm.to k1⟩ (by unfold zl; omega)) rfl ?_
 rintro v2 w2 ⟨rfl,k2⟩
 replace hg:=hg.to k2
 replace hb:=hb.to k2
 repeat (first | refine i1 rfl hg rfl ?_ | refine b6 ?_ | refine d8 ?_ | refine b7 ?_ | refine b9 ?_ | refine b8 ?_ | refine c8 ?_ | refine A0 (by conv=>(lhs; whnf)) (by assumption) ?_ | refine S3 rfl rfl ?_ | refine j5 rfl ?_)
 try refine i7 ?_
 refine j4 rfl ?_ ?_ <;> intro hc
 ·have hq : ¬ q.den = 1:=fun h=>by have:=hbl.2 h; omega
  have hbq : bot q = q.den:=by unfold bot; rw [if_neg hq]
  rw [hbq] at hb
  repeat (first | refine i1 rfl hg rfl ?_ | refine b7 ?_ | refine c0 ?_ | refine j5 rfl ?_)
  refine i6 (cc0 ((ht.to k1).to k2) hb (by omega)) rfl ?_
  rintro v3 w3 ⟨rfl,k3⟩
  refine bj9 (a:=[47]) rfl rfl (by rw [Lib.decDigits_length]; simp; omega) ?_
  refine bj9 rfl rfl (by rw [List.length_append,Lib.decDigits_length]; simp; omega) ?_
  repeat (first | refine b6 ?_ | refine b7 ?_ | refine c0 ?_ | refine b9 ?_ | refine b8 ?_ | refine c8 ?_ | refine wp_ret ?_)
  refine o7 rfl ⟨?_,(k1.trans k2).trans k3⟩
  unfold J6
  rw [if_neg hq]
  rfl
 have hq : q.den = 1:=hbl.1 (by omega)
 repeat (first | refine b6 ?_ | refine b7 ?_ | refine c0 ?_ | refine b9 ?_ | refine b8 ?_ | refine c8 ?_ | refine wp_ret ?_ | refine wp_skip ?_)
 refine o7 rfl ⟨?_,k1.trans k2⟩
 unfold J6
 rw [if_pos hq,List.append_nil]
end Go.Proofs.YtmjbiocildkhnaaGreatDoor
end
section
namespace Go.Proofs.YtmjbiocildkhnaaGreatDoor
open Go Tryz
def G5 (l : List UInt8) : Nat:=l.foldl (fun a c=>10 * a + (c.toNat - 48)) 0
def Dig (c : UInt8) : Prop:=48 ≤ c.toNat ∧ c.toNat ≤ 57
def U0 (l : List UInt8) : Prop:=l ≠ [] ∧ (∀ c ∈ l,Dig c) ∧ (l.head? = some 48 → l.length = 1)
theorem bh7 : G5 [] = 0:=rfl
theorem ag6 (l : List UInt8) (c : UInt8) : G5 (l ++ [c]) = 10 * G5 l + (c.toNat - 48):=by
 unfold G5
 rw [List.foldl_append]
 rfl
theorem b38 (a b : List UInt8) : G5 (a ++ b) = G5 a * 10 ^ b.length + G5 b:=by
 induction h : b.length generalizing b with
 | zero=>
  obtain rfl:=List.eq_nil_of_length_eq_zero h
  simp [bh7]
 | succ k ih=>
  have hne : b ≠ []:=by rintro rfl; simp at h
  have e:=List.dropLast_concat_getLast hne
  rw [← e,← List.append_assoc,ag6,ag6,ih b.dropLast (by rw [List.length_dropLast]; omega),Nat.pow_succ]
  rw [Nat.mul_add,Nat.add_assoc,Nat.mul_left_comm,Nat.mul_comm 10]
theorem cj9 {l : List UInt8} (h : ∀ c ∈ l,Dig c) : G5 l < 10 ^ l.length:=by
 induction hl : l.length generalizing l with
 | zero=>
  obtain rfl:=List.eq_nil_of_length_eq_zero hl
  simp [bh7]
 | succ k ih=>
  have hne : l ≠ []:=by rintro rfl; simp at hl
  have e:=List.dropLast_concat_getLast hne
  have h1:=ih (l:=l.dropLast) (fun c hc=>h c (List.dropLast_subset _ hc)) (by rw [List.length_dropLast]; omega)
  have h2:=h _ (List.getLast_mem hne)
  rw [← e,ag6,Nat.pow_succ]
  unfold Dig at h2
  omega
theorem P9 (n : Nat) : G5 (Lib.decDigits n) = n:=by
 induction n using Nat.strongRecOn with
 | _ n ih=>
  rw [Lib.decDigits]
  by_cases h : n < 10
  ·rw [dif_pos h]
   show 10 * 0 + ((UInt8.ofNat (48 + n)).toNat - 48) = n
   rw [UInt8.toNat_ofNat']
   omega
  rw [dif_neg h,ag6,ih _ (by omega),UInt8.toNat_ofNat']
  omega
theorem c81 (n : Nat) : Lib.decDigits n ≠ []:=by
 intro h
 have h1:=Lib.decDigits_length n
 rw [h] at h1
 have:=Lib.nDigits_pos n
 simp at h1
 omega
theorem af9 (n : Nat) : U0 (Lib.decDigits n):=by
 refine ⟨c81 n,?_,?_⟩
 ·induction n using Nat.strongRecOn with
  | _ n ih=>
   rw [Lib.decDigits]
   intro c hc
   by_cases h : n < 10
   ·rw [dif_pos h] at hc
    rw [List.mem_singleton.1 hc]
    unfold Dig
    rw [UInt8.toNat_ofNat']
    omega
   rw [dif_neg h] at hc
   rcases List.mem_append.1 hc with h1 | h1
   ·exact ih _ (by omega) c h1
   ·rw [List.mem_singleton.1 h1]
    unfold Dig
    rw [UInt8.toNat_ofNat']
    omega
 intro h
 by_cases hn : n < 10
 ·rw [Lib.decDigits_one hn]; rfl
 exfalso
 have hp : 0 < n:=by omega
 have h1:=be3 hp
 have h2:=ch9 (k:=Lib.nDigits n) (v:=n) (i:=Lib.nDigits n - 1) (by have:=Lib.nDigits_pos n; omega)
 rw [← a89] at h2
 have h3 : (Lib.decDigits n).reverse[Lib.nDigits n - 1]? = (Lib.decDigits n).head?:=by
  have hl:=Lib.decDigits_length n
  have hpos:=Lib.nDigits_pos n
  rw [List.getElem?_reverse (by omega),hl,show Lib.nDigits n - 1 - (Lib.nDigits n - 1) = 0 by omega,List.head?_eq_getElem?]
 rw [h3,h] at h2
 have h4:=congrArg UInt8.toNat (Option.some.inj h2)
 rw [UInt8.toNat_ofNat'] at h4
 have h5 : (48 : UInt8).toNat = 48:=rfl
 rw [h5] at h4
 omega
theorem Y8 {l : List UInt8} (h : U0 l) : Lib.decDigits (G5 l) = l:=by
 induction hl : l.length generalizing l with
 | zero=>exact absurd (List.eq_nil_of_length_eq_zero hl) h.1
 | succ k ih=>
  have e:=List.dropLast_concat_getLast h.1
  have h2:=h.2.1 _ (List.getLast_mem h.1)
  obtain ⟨c,hc⟩ : ∃ c,c = l.getLast h.1:=⟨_,rfl⟩
  obtain ⟨t,ht⟩ : ∃ t,t = l.dropLast:=⟨_,rfl⟩
  rw [← hc] at h2 e
  rw [← ht] at e
  have htl : t.length = k:=by rw [ht,List.length_dropLast]; omega
  rw [← e,ag6]
  unfold Dig at h2
  rcases Nat.eq_zero_or_pos k with h0 | h0
  ·obtain rfl:=List.eq_nil_of_length_eq_zero (htl.trans h0)
   rw [bh7,Nat.mul_zero,Nat.zero_add,Lib.decDigits_one (by omega)]
   show [UInt8.ofNat (48 + (c.toNat - 48))] = [c]
   rw [show 48 + (c.toNat - 48) = c.toNat by omega,UInt8.ofNat_toNat]
  ·have hne : t ≠ []:=by rintro rfl; simp at htl; omega
   have hhd : l.head? = t.head?:=by rw [← e]; cases t with | nil=>exact absurd rfl hne | cons x r=>rfl
   have h48 : t.head? ≠ some 48:=by
    intro h3
    have:=h.2.2 (hhd.trans h3)
    omega
   have hT : U0 t:=⟨hne,fun x hx=>h.2.1 x (by rw [← e]; exact List.mem_append_left _ hx),fun h3=>absurd h3 h48⟩
   have hi:=ih hT htl
   have hpos : 0 < G5 t:=by
    rcases Nat.eq_zero_or_pos (G5 t) with h3 | h3
    ·rw [h3,Lib.decDigits_one (by decide)] at hi
     rw [← hi] at h48
     exact absurd rfl h48
    exact h3
   rw [Lib.decDigits,dif_neg (by omega),show (10 * G5 t + (c.toNat - 48)) / 10 = G5 t by omega,hi,show (10 * G5 t + (c.toNat - 48)) % 10 = c.toNat - 48 by omega,show 48 + (c.toNat - 48) = c.toNat by omega,UInt8.ofNat_toNat]
theorem c56 {l : List UInt8} : U0 l ↔ ∃ n,l = Lib.decDigits n:=⟨fun h=>⟨_,(Y8 h).symm⟩,fun ⟨n,h⟩=>h ▸ af9 n⟩
theorem ba1 {a b : Int} (h : Lib.itoa a = Lib.itoa b) : a = b:=by
 have hd : ∀ n c,(Lib.decDigits n).head? = some c → 48 ≤ c.toNat:=fun n c hc=>((af9 n).2.1 c (List.mem_of_head? hc)).1
 have neg : ∀ n m : Nat,Lib.decDigits n = 45 :: Lib.decDigits m → False:=fun n m e=>by
  have:=hd n 45 (by rw [e]; rfl)
  exact absurd this (by decide)
 unfold Lib.itoa at h
 split at h <;> split at h
 ·have:=congrArg G5 (List.cons.inj h).2
  rw [P9,P9] at this
  omega
 ·exact (neg _ _ h.symm).elim
 ·exact (neg _ _ h).elim
 have:=congrArg G5 h
 rw [P9,P9] at this
 omega
theorem bq5 {l : List UInt8} : (∃ z : Int,z < 0 ∧ 45 :: l = Lib.itoa z) ↔ U0 l ∧ l.head? ≠ some 48:=by
 constructor
 ·rintro ⟨z,hz,h⟩
  unfold Lib.itoa at h
  rw [if_pos hz] at h
  have hl:=(List.cons.inj h).2
  refine ⟨c56.2 ⟨_,hl⟩,fun h48=>?_⟩
  have h1:=(af9 z.natAbs).2.2 (by rw [← hl]; exact h48)
  rw [hl] at h48
  rw [Lib.decDigits_length] at h1
  have h2 : z.natAbs < 10:=by
   have:=Lib.lt_pow_nDigits z.natAbs
   rw [h1] at this
   omega
  rw [Lib.decDigits_one h2] at h48
  have h3:=congrArg UInt8.toNat (Option.some.inj h48)
  rw [UInt8.toNat_ofNat'] at h3
  have h5 : (48 : UInt8).toNat = 48:=rfl
  rw [h5] at h3
  omega
 rintro ⟨h,h48⟩
 have hp : 0 < G5 l:=by
  rcases Nat.eq_zero_or_pos (G5 l) with h3 | h3
  ·have hi:=Y8 h
   rw [h3,Lib.decDigits_one (by decide)] at hi
   rw [← hi] at h48
   exact absurd rfl h48
  exact h3
 refine ⟨-(G5 l : Int),by omega,?_⟩
 unfold Lib.itoa
 rw [if_pos (by omega),show (-(G5 l : Int)).natAbs = G5 l by omega,Y8 h]
theorem c70 {l : List UInt8} (h : U0 l) : l = Lib.itoa (G5 l : Int):=by
 unfold Lib.itoa
 rw [if_neg (by omega),show ((G5 l : Int)).toNat = G5 l from rfl,Y8 h]
theorem cd3 (z : Int) : (∃ l,Lib.itoa z = 45 :: l ∧ z < 0) ∨ U0 (Lib.itoa z):=by
 unfold Lib.itoa
 split
 ·rename_i h; exact .inl ⟨_,rfl,h⟩
 exact .inr (af9 _)
theorem db1 {l : List UInt8} (h : U0 l) (h48 : l.head? ≠ some 48) : 0 < G5 l:=by
 rcases Nat.eq_zero_or_pos (G5 l) with h3 | h3
 ·have hi:=Y8 h
  rw [h3,Lib.decDigits_one (by decide)] at hi
  rw [← hi] at h48
  exact absurd rfl h48
 exact h3
theorem cp2 {l : List UInt8} (h : U0 l) (h48 : l.head? ≠ some 48) : 45 :: l = Lib.itoa (-(G5 l : Int)):=by
 have hp:=db1 h h48
 unfold Lib.itoa
 rw [if_pos (by omega),show (-(G5 l : Int)).natAbs = G5 l by omega,Y8 h]
def Z3 (s : List UInt8) : Prop:=s.head? = some 45
instance dec_NegS (s : List UInt8) : Decidable (Z3 s):=by unfold Z3; exact inferInstance
def Dgs (s : List UInt8) : List UInt8:=if Z3 s then s.drop 1 else s
theorem cf3 {s : List UInt8} (h : Z3 s) : s = 45 :: Dgs s:=by
 unfold Dgs
 rw [if_pos h]
 unfold Z3 at h
 cases s with
 | nil=>cases h
 | cons c r=>simp at h; subst h; rfl
theorem cg8 {s : List UInt8} (h : ¬ Z3 s) : Dgs s = s:=by unfold Dgs; rw [if_neg h]
theorem dq4 (s : List UInt8) : (Dgs s).length ≤ s.length:=by
 unfold Dgs
 split
 ·rw [List.length_drop]; omega
 exact Nat.le_refl _
def ap9 (s : List UInt8) : Int:=if Z3 s then -(G5 (Dgs s) : Int) else G5 (Dgs s)
theorem br2 {s : List UInt8} (h : U0 (Dgs s)) (h48 : Z3 s → (Dgs s).head? ≠ some 48) : s = Lib.itoa (ap9 s):=by
 unfold ap9
 by_cases hn : Z3 s
 ·rw [if_pos hn,← cp2 h (h48 hn)]
  exact cf3 hn
 rw [if_neg hn,← c70 h]
 exact (cg8 hn).symm
theorem bo3 (s : List UInt8) : (∃ z,s = Lib.itoa z) ↔ U0 (Dgs s) ∧ (Z3 s → (Dgs s).head? ≠ some 48):=by
 constructor
 ·rintro ⟨z,hz⟩
  rcases cd3 z with ⟨l,hl,hneg⟩ | hd
  ·have hn : Z3 s:=by unfold Z3; rw [hz,hl]; rfl
   have he:=cf3 hn
   have h1:=bq5.1 ⟨z,hneg,hl.symm⟩
   rw [hz,hl] at he
   have e : Dgs s = l:=by rw [hz,hl]; exact (List.cons.inj he).2.symm
   rw [e]
   exact ⟨h1.1,fun _=>h1.2⟩
  rw [← hz] at hd
  have hn : ¬ Z3 s:=by
   intro hn
   unfold Z3 at hn
   have:=(hd.2.1 45 (List.mem_of_head? hn)).1
   exact absurd this (by decide)
  rw [cg8 hn]
  exact ⟨hd,fun h=>absurd h hn⟩
 rintro ⟨h,h48⟩
 exact ⟨_,br2 h h48⟩
end Go.Proofs.YtmjbiocildkhnaaGreatDoor
end
section
namespace Go.Proofs.YtmjbiocildkhnaaGreatDoor
open Go Go.RowKit Tryz
theorem b00 (n : Nat) : (47 : UInt8) ∉ Lib.decDigits n:=fun h=>by
 have:=(af9 n).2.1 _ h
 unfold Dig at this
 have h47 : (47 : UInt8).toNat = 47:=rfl
 omega
theorem ap8 (z : Int) : (47 : UInt8) ∉ Lib.itoa z:=by
 unfold Lib.itoa
 split
 ·intro h
  rcases List.mem_cons.1 h with h | h
  ·cases h
  exact b00 _ h
 exact b00 _
theorem dh3 : ∀ {a b c d : List UInt8},(47 : UInt8) ∉ a → (47 : UInt8) ∉ c → a ++ 47 :: b = c ++ 47 :: d → a = c ∧ b = d:=by
 intro a
 induction a with
 | nil=>
  intro b c d _ hc h
  cases c with
  | nil=>simpa using h
  | cons y c=>
   simp only [List.nil_append,List.cons_append,List.cons.injEq] at h
   exact absurd (h.1 ▸ List.mem_cons_self ..) hc
 | cons x a ih=>
  intro b c d ha hc h
  cases c with
  | nil=>
   simp only [List.nil_append,List.cons_append,List.cons.injEq] at h
   exact absurd (h.1 ▸ List.mem_cons_self ..) ha
  | cons y c=>
   simp only [List.cons_append,List.cons.injEq] at h
   obtain ⟨h1,h2⟩:=ih (fun h=>ha (List.mem_cons_of_mem _ h)) (fun h=>hc (List.mem_cons_of_mem _ h)) h.2
   exact ⟨by rw [h.1,h1],h2⟩
theorem au4 {q : Rat} (h : q.den = 1) : J6 q = Lib.itoa q.num:=by unfold J6; rw [if_pos h,List.append_nil]
theorem ao8 {q : Rat} (h : q.den ≠ 1) : J6 q = Lib.itoa q.num ++ 47 :: Lib.decDigits q.den:=by unfold J6; rw [if_neg h]
theorem az4 {s : List UInt8} (hs : (47 : UInt8) ∉ s) (q : Rat) : s = J6 q ↔ q.den = 1 ∧ s = Lib.itoa q.num:=by
 by_cases h : q.den = 1
 ·rw [au4 h]; exact ⟨fun h2=>⟨h,h2⟩,fun h2=>h2.2⟩
 constructor
 ·intro h2
  rw [ao8 h] at h2
  exact absurd (h2 ▸ List.mem_append_right _ (List.mem_cons_self ..)) hs
 exact fun h2=>absurd h2.1 h
theorem ax8 {a b : List UInt8} (ha : (47 : UInt8) ∉ a) (q : Rat) : a ++ 47 :: b = J6 q ↔ q.den ≠ 1 ∧ a = Lib.itoa q.num ∧ b = Lib.decDigits q.den:=by
 by_cases h : q.den = 1
 ·constructor
  ·intro h2
   rw [au4 h] at h2
   exact absurd (h2 ▸ List.mem_append_right _ (List.mem_cons_self ..)) (ap8 _)
  exact fun h2=>absurd h h2.1
 rw [ao8 h]
 constructor
 ·exact fun h2=>⟨h,dh3 ha (ap8 _) h2⟩
 rintro ⟨_,rfl,rfl⟩; rfl
theorem dt7 (n : Int) {d : Nat} (hd : d ≠ 0) (hg : Nat.gcd n.natAbs d = 1) : ∃ q : Rat,q.num = n ∧ q.den = d:=⟨⟨n,d,hd,hg⟩,rfl,rfl⟩
theorem dc9 (q : Rat) : Nat.gcd q.num.natAbs q.den = 1:=q.reduced
theorem c78 {p q : Rat} (h : J6 p = J6 q) : p = q:=by
 by_cases hp : p.den = 1
 ·have h2:=(az4 (ap8 p.num) q).1 ((au4 hp).symm.trans h)
  exact Rat.ext (ba1 h2.2) (hp.trans h2.1.symm)
 have h2:=(ax8 (ap8 p.num) q).1 ((ao8 hp).symm.trans h)
 refine Rat.ext (ba1 h2.2.1) ?_
 have h3:=congrArg G5 h2.2.2
 rwa [P9,P9] at h3
theorem dd7 (q : Rat) : (Lib.itoa q.num).length ≤ (J6 q).length:=by unfold J6; rw [List.length_append]; omega
theorem db7 (q : Rat) : Lib.nDigits q.den ≤ (J6 q).length:=by
 by_cases h : q.den = 1
 ·rw [h,Lib.nDigits_small (by decide),au4 h]
  cases h2 : Lib.itoa q.num with
  | nil=>
   unfold Lib.itoa at h2
   split at h2
   ·cases h2
   exact absurd h2 (c81 _)
  | cons x l=>simp
 rw [ao8 h,List.length_append,List.length_cons,Lib.decDigits_length]; omega
theorem bi3 (k : Nat) : ∀ {n : Nat},10 ^ k ≤ n → Lib.nDigits n = Lib.nDigits (n / 10 ^ k) + k:=by
 induction k with
 | zero=>intro n _; simp
 | succ k ih=>
  intro n h
  have h10 : 10 ≤ n:=Nat.le_trans (Nat.le_self_pow (n:=k + 1) (by omega) 10) h
  rw [Lib.nDigits_big (by omega),ih (n:=n / 10) ((Nat.le_div_iff_mul_le (by omega)).2 (by rwa [← Nat.pow_succ])),Nat.div_div_eq_div_mul,show 10 * 10 ^ k = 10 ^ (k + 1) from (Nat.pow_succ').symm]
  omega
theorem cq9 : 10 ^ 30102 ≤ Big:=by
 rw [bs2]
 exact Nat.le_of_ble_eq_true (by kernel_rfl)
theorem a43 {i j : Nat} (h : i ≤ j) : 10 ^ i ≤ 10 ^ j:=Nat.pow_le_pow_right (by decide) h
theorem ch5 {n : Nat} (h : Lib.nDigits n ≤ 30102) : n < Big:=Nat.lt_of_lt_of_le (Lib.lt_pow_nDigits n) (Nat.le_trans (a43 h) cq9)
theorem bf7 (z : Int) : Lib.nDigits z.natAbs ≤ (Lib.itoa z).length:=by
 unfold Lib.itoa
 split
 ·rw [List.length_cons,Lib.decDigits_length]; omega
 rw [Lib.decDigits_length,show z.toNat = z.natAbs by omega]; exact Nat.le_refl _
theorem c59 {q : Rat} (h : (J6 q).length ≤ 30102) : R1 q:=
 ⟨ch5 (Nat.le_trans (bf7 _) (Nat.le_trans (dd7 q) h)),ch5 (Nat.le_trans (db7 q) h)⟩
theorem cq3 {n k : Nat} (h : Lib.nDigits n ≤ 9 * k) : dl n ≤ k:=by
 refine K8 ?_
 rw [ac6]
 exact Nat.lt_of_lt_of_le (Lib.lt_pow_nDigits n) (Nat.pow_le_pow_right (by omega) h)
section rules
variable {P : Program} {n : Nat} {Q : E4} {ρ : Fr} {w : World} {all rest : List Oper} {d d2 : Tmp} {ty ty2 ty3 ty4 : TypeId} {pos pos2 pos3 pos4 : String} {aft aft2 aft3 aft4 : Array Edge}
theorem d08 {T : TypeId} {s b : Nat} {z : Value} {agg : Bool} [ti : TyI P T s b z agg] {y : Operand} {us zs : List Value} {u : Value} (hz : z.cells = zs.toArray) (hy : ∀ g,ev (upd ρ d (.pointer (some ⟨g,0,none⟩))) y = u) (hc : u.cells = us.toArray)
  (hl : us.length = s) (h1 : ∀ v ∈ us,v.oneCell' = true) (h : ∀ w' g,Ext w w' → w.heap.size ≤ g → Blk w' g T us → WpR P n all Q rest (upd ρ d (.pointer (some ⟨g,0,none⟩))) w') :
  WpR P n all Q (⟨some d,.alloc T,ty,pos,aft,none⟩ :: ⟨none,.store T (.tmp d) y,ty2,pos2,aft2,none⟩ :: rest) ρ w:=by
 refine q8 hz ?_
 intro w1 g k1 hg hgs
 have hzl : zs.length = s:=by
  have:=ti.zsize
  rw [hz] at this
  simpa using this
 refine A9 (us:=us) (B1 _ _ _) (hy g) hc hl hg hzl h1 ?_
 intro w2 k2 hg2
 exact h w2 g (k1.past k2 hgs) hgs hg2
end rules
theorem b29 {a : Nat} (h : 0 < (dg a).length) : 0 < (dg a).getD ((dg a).length - 1) 0 ∧ Lib.nDigits a = 9 * ((dg a).length - 1) + Lib.nDigits ((dg a).getD ((dg a).length - 1) 0) ∧ (dg a).getD ((dg a).length - 1) 0 < 1000000000:=by
 have h1 : 1000000000 ^ ((dg a).length - 1) ≤ a:=b75 (a:=a) h
 have h2 : a < 1000000000 ^ (dg a).length:=B5 a
 have h3:=bf4 a ((dg a).length - 1)
 have hp : 0 < 1000000000 ^ ((dg a).length - 1):=Nat.pow_pos (by decide)
 have h4 : 1000000000 ^ (dg a).length = 1000000000 * 1000000000 ^ ((dg a).length - 1):=by
  rw [← Nat.pow_succ']
  congr 1
  omega
 rw [h4] at h2
 have h5 : a / 1000000000 ^ ((dg a).length - 1) < 1000000000:=(Nat.div_lt_iff_lt_mul hp).2 h2
 rw [Nat.mod_eq_of_lt h5] at h3
 rw [h3]
 refine ⟨Nat.div_pos h1 hp,?_,h5⟩
 rw [ac6] at h1 ⊢
 rw [bi3 _ h1]
 omega
theorem cx3 {S : Nat → Prop} {w : World} {va : Value} {a : Nat} (ha : s4 S 3 .i64 w va a) (hla : dl a ≤ 16000000000000) :
  Gives prog 145 [va] w fun v' w'=>v' = .int .i64 (Lib.nDigits a : Nat) ∧ Ext w w':=by
 have hml : (dg a).length ≤ 16000000000000:=hla
 have hz:=@H6 a
 unfold dl at hz
 refine l7 func145 rfl rfl rfl ?_
 repeat (first | refine b6 ?_ | refine d8 ?_ | refine b7 ?_ | refine c0 ?_ | refine b9 ?_ | refine b8 ?_ | refine c8 ?_ | refine A0 (by conv=>(lhs; whnf)) (by assumption) ?_ | refine Y9 rfl rfl ?_)
 try refine i7 ?_
 refine j4 rfl ?_ ?_ <;> intro h0
 ·have ha0 : a = 0:=hz.1 (by omega)
  repeat (first | refine b6 ?_ | refine b7 ?_ | refine b9 ?_ | refine b8 ?_ | refine c8 ?_ | refine wp_ret ?_ | refine q9 ?_)
  refine o7 rfl ⟨?_,.refl⟩
  rw [ha0,Lib.nDigits_small (by decide)]
  rfl
 ·obtain ⟨t1,t2,t3⟩:=b29 (a:=a) (by omega)
  repeat (first | refine az2 rfl rfl (by omega) (by omega) ?_ | refine y7 (i:=(dg a).length - 1) (by conv=>(lhs; whnf)) (by conv=>(lhs; whnf)) (by omega) ha (by omega) ?_ | refine r0 rfl ha (by omega) ?_ | refine b6 ?_ | refine d8 ?_ | refine b7 ?_ | refine c0 ?_ | refine b9 ?_ | refine b8 ?_ | refine c8 ?_ | refine wp_skip ?_ | refine A0 (by conv=>(lhs; whnf)) (by assumption) ?_ | refine s9 rfl rfl ?_)
  generalize (dg a).getD ((dg a).length - 1) 0 = t at *
  try refine m9 ?_
  refine D8 [(3,4),(18,23)] (fun v ρ w'=>w' = w ∧ ∃ m : Nat,ρ 4 = .int .i64 (v : Int) ∧ ρ 3 = .int .i64 (m : Int) ∧ v ≤ t ∧ m + (if v = 0 then 0 else Lib.nDigits v) = Lib.nDigits a ∧ m ≤ Lib.nDigits a) t ?_ ?_
  ·exact ⟨rfl,9 * ((dg a).length - 1),rfl,congrArg (Value.int .i64) (by omega),Nat.le_refl _,by rw [if_neg (by omega)]; omega,by omega⟩
  rintro v u w1 ⟨rfl,m,h4,h3,hvt,hm,hma⟩
  refine j9 4 h4 (j9 3 h3 ?_)
  clear h4 h3
  have hmax : Lib.nDigits a ≤ 9 * ((dg a).length - 1) + 9:=by have:=ah8 t3; omega
  repeat (first | refine b6 ?_ | refine d8 ?_ | refine b7 ?_ | refine c0 ?_ | refine b8 ?_ | refine c8 ?_ | refine S3 rfl rfl ?_)
  try refine i7 ?_
  refine j4 rfl ?_ ?_ <;> intro hc
  ·have hv0 : 0 < v:=by omega
   rw [if_neg (by omega)] at hm
   have hpos:=Lib.nDigits_pos v
   repeat (first | refine U4 ?_ | refine b7 ?_ | refine c0 ?_ | refine b9 ?_ | refine b8 ?_ | refine c8 ?_ | refine H7 ?_ | refine wp_skip ?_ | refine A4 rfl rfl ?_ | refine ah9 rfl rfl (by omega) (by omega) (by omega) ?_)
   refine ⟨by (repeat (first | refine j2 rfl ?_ | exact f4 | refine j3 rfl ?_ | exact d9 | refine m6 rfl ?_ | refine l8 rfl ?_)),v / 10,by omega,rfl,m + 1,by rfl,congrArg (Value.int .i64) (by omega),by omega,?_,by omega⟩
   by_cases h10 : v < 10
   ·rw [if_pos (by omega)]
    rw [Lib.nDigits_small h10] at hm
    omega
   ·rw [if_neg (by omega)]
    rw [Lib.nDigits_big h10] at hm
    omega
  obtain rfl : v = 0:=by omega
  rw [if_pos rfl] at hm
  repeat (first | refine b6 ?_ | refine b7 ?_ | refine c0 ?_ | refine b9 ?_ | refine b8 ?_ | refine c8 ?_ | refine wp_ret ?_ | refine wp_exit ?_)
  refine S7 rfl (by conv=>(lhs; whnf)) ⟨congrArg (Value.int .i64) (by omega),.refl⟩
section rules
variable {P : Program} {n : Nat} {Q : E4} {ρ : Fr} {w : World} {all rest : List Oper} {d : Tmp} {ty : TypeId} {pos : String} {aft : Array Edge}
theorem af4 (l : List UInt8) : (⟨l.toArray⟩ : ByteArray).size = l.length:=by show l.toArray.size = _; simp
theorem di1 (l : List UInt8) (i : Nat) : (⟨l.toArray⟩ : ByteArray)[i]? = l[i]?:=by
 by_cases h : i < l.length
 ·have h2 : i < (⟨l.toArray⟩ : ByteArray).size:=by rw [af4]; exact h
  rw [getElem?_pos _ i h2,List.getElem?_eq_getElem h]
  rfl
 rw [getElem?_neg _ i (by rw [af4]; exact h),List.getElem?_eq_none (by omega)]
theorem a58 (l : List UInt8) (a b : Nat) (hb : b ≤ l.length) : (⟨l.toArray⟩ : ByteArray).extract a b = ⟨((l.take b).drop a).toArray⟩:=by
 apply ByteArray.ext
 rw [ByteArray.data_extract]
 simp [List.drop_take]
theorem b41 {t : TypeId} [st : StrT P t] {x ix : Operand} {l : List UInt8} {k : IntKind} {I : Int} {c : UInt8} (i : Nat) (hx : ev ρ x = D9 l) (hi : ev ρ ix = .int k I) (hI : I = (i : Int)) (hc : l[i]? = some c)
  (h : WpR P n all Q rest (upd ρ d (.int .u8 (c.toNat : Nat))) w) : WpR P n all Q (⟨some d,.index t x ix,ty,pos,aft,none⟩ :: rest) ρ w:=by
 subst hI
 refine D3 rfl rfl ?_ h
 have h1 : (⟨l.toArray⟩ : ByteArray)[i]? = some c:=by rw [di1]; exact hc
 simp [execOp,hx,hi,Instr.index,asIntOf,run_underlying st.und,h1]
theorem aw3 {t : TypeId} [st : StrT P t] {x lo : Operand} {l : List UInt8} {k : IntKind} {I : Int} (i : Nat) (hx : ev ρ x = D9 l) (hi : ev ρ lo = .int k I) (hI : I = (i : Int)) (hl : i ≤ l.length)
  (h : WpR P n all Q rest (upd ρ d (D9 (l.drop i))) w) : WpR P n all Q (⟨some d,.slice t x (some lo) none none,ty,pos,aft,none⟩ :: rest) ρ w:=by
 subst hI
 refine D3 rfl rfl ?_ h
 have h1:=af4 l
 have h2:=a58 l i l.length (Nat.le_refl _)
 rw [List.take_of_length_le (Nat.le_refl _)] at h2
 simp [execOp,hx,hi,Instr.sliceAt,Instr.slice,Instr.sliceBounds,Instr.sliceBound,asIntOf,run_underlying st.und,h1,hl,h2]
theorem aq8 {t : TypeId} [st : StrT P t] {x hi : Operand} {l : List UInt8} {k : IntKind} {I : Int} (i : Nat) (hx : ev ρ x = D9 l) (hi' : ev ρ hi = .int k I) (hI : I = (i : Int)) (hl : i ≤ l.length)
  (h : WpR P n all Q rest (upd ρ d (D9 (l.take i))) w) : WpR P n all Q (⟨some d,.slice t x none (some hi) none,ty,pos,aft,none⟩ :: rest) ρ w:=by
 subst hI
 refine D3 rfl rfl ?_ h
 have h1:=af4 l
 have h2:=a58 l 0 i hl
 rw [List.drop_zero] at h2
 simp [execOp,hx,hi',Instr.sliceAt,Instr.slice,Instr.sliceBounds,Instr.sliceBound,asIntOf,run_underlying st.und,h1,hl,h2]
end rules
theorem bm4 {base : Nat} {T : TypeId} {w : World} {v : Value} {m : Nat} {xs : List Value} (h : Own base T 1 w v m xs) (hm : 0 < m) :
  ∃ g cap cs,v = .slice (some ⟨g,0,none⟩) m cap ∧ base ≤ g ∧ Blk w g T cs ∧ cs.take m = xs ∧ m ≤ cs.length ∧ m ≤ cap ∧ cap ≤ maxLen ∧ cap = cs.length:=by
 rcases h.2 with ⟨h1,h2⟩ | ⟨g,cap,cur,rfl,hb,hg,h1,h2,h3,h4⟩
 ·omega
 refine ⟨g,cap,cur.toList,rfl,hb,?_,by simpa using h4,?_,h1,h2,?_⟩
 ·unfold Blk
  rw [hg]
 ·simp at h3 ⊢; omega
 simp at h3 ⊢; omega
section rules
variable {P : Program} {n : Nat} {Q : E4} {ρ : Fr} {w : World} {all rest : List Oper} {d : Tmp} {ty : TypeId} {pos : String} {aft : Array Edge}
theorem bv9 {t T : TypeId} [st : SlT P t T] {b : Nat} {z : Value} {agg : Bool} [ti : TyI P T 1 b z agg] {x hi : Operand} {base : Nat} {v : Value} {m : Nat} {xs : List Value} {k : Nat} {i : Int}
  (hv : ev ρ x = v) (ho : Own base T 1 w v m xs) (hh : ev ρ hi = .int .i64 i) (hik : i = (k : Int)) (hk : k ≤ m) (hm : 0 < m)
  (h : ∀ v',Own base T 1 w v' k (xs.take k) → WpR P n all Q rest (upd ρ d v') w) : WpR P n all Q (⟨some d,.slice t x none (some hi) none,ty,pos,aft,none⟩ :: rest) ρ w:=by
 subst hik
 obtain ⟨g,cap,cs,rfl,hb,hg,h1,h2,h3,h4,h5⟩:=bm4 ho hm
 refine D3 (v:=.slice (some ⟨g,0,none⟩) k cap) rfl rfl ?_ (h _ ⟨by rw [← h1]; simp; omega,.inr ⟨g,cap,cs.toArray,rfl,hb,hg,by omega,h4,by simp; omega,?_⟩⟩)
 ·have hk2 : k ≤ cap:=by omega
  simp [execOp,hv,hh,Instr.sliceAt,Instr.slice,run_underlying st.und,Instr.sliceBounds,Instr.sliceBound,asIntOf,hk2,ti.runSize w,Addr.add,show ¬ cap = 0 by omega]
 rw [← h1,List.take_take]
 simp
 omega
end rules
theorem c08 {m v j : Nat} (h : j ≤ m) : (low m v).take j = low j v:=by
 obtain ⟨k,rfl⟩ : ∃ k,m = j + k:=⟨m - j,by omega⟩
 rw [ah1,List.take_left' (ab5 j v)]
abbrev byt (l : List UInt8) : List Value:=Lib.byteCells l
theorem be6 (a b : List UInt8) : byt (a ++ b) = byt a ++ byt b:=by simp [Lib.byteCells]
theorem cb0 (a : List UInt8) : (byt a).length = a.length:=by simp [Lib.byteCells]
theorem c19 (a : List UInt8) (k : Nat) : (byt a).take k = byt (a.take k):=by simp [Lib.byteCells,List.map_take]
theorem bl2 {x : Nat} (h : x < 10) : Value.int .u8 (48 + (x : Int)) = .int .u8 ((UInt8.ofNat (48 + x)).toNat : Int):=by
 congr 1
 rw [UInt8.toNat_ofNat']
 omega
theorem c46 (z : Int) : (Lib.itoa z).reverse = low (Lib.nDigits z.natAbs) z.natAbs ++ (if z < 0 then [45] else []):=by
 unfold Lib.itoa
 split
 ·rw [← a89]; simp
 rw [← a89,show z.natAbs = z.toNat by omega]; simp
theorem b64 {S : Nat → Prop} {w : World} {v : Value} {z : Int} (h : ZV S w v z) (hl : zl z ≤ 1099511627000) :
  Gives prog 105 [v] w fun v' w'=>v' = D9 (Lib.itoa z) ∧ Ext w w':=by
 obtain ⟨m,rfl,hm⟩:=h
 obtain ⟨n,hn⟩ : ∃ n,n = z.natAbs:=⟨_,rfl⟩
 rw [← hn] at hm
 have hln : (dg n).length ≤ 1099511627000:=by rw [hn]; exact hl
 have hdl : (dg n).length = dl n:=rfl
 refine l7 func105 rfl rfl rfl ?_
 repeat (first | refine b6 ?_ | refine b7 ?_)
 refine s6 (cs:=[.bool (tst (z < 0)),m]) rfl ?_
 intro w1 g k1 hg hgs
 have hm1:=hm.to k1
 have hgl:=hg.lt
 clear hm
 repeat (first | refine i1 rfl hg rfl ?_ | refine b6 ?_ | refine d8 ?_ | refine b7 ?_ | refine b9 ?_ | refine b8 ?_ | refine c8 ?_ | refine A0 (by conv=>(lhs; whnf)) (by assumption) ?_ | refine Y9 rfl rfl ?_ | refine j5 rfl ?_)
 try refine i7 ?_
 refine j4 rfl ?_ ?_ <;> intro hc
 ·repeat (first | refine b6 ?_ | refine b7 ?_ | refine b9 ?_ | refine b8 ?_ | refine c8 ?_ | refine wp_ret ?_ | refine q9 ?_)
  refine o7 rfl ⟨?_,k1⟩
  have h0 : n = 0:=H6.1 (by omega)
  have hz : z = 0:=by omega
  subst hz
  unfold Lib.itoa
  rw [if_neg (by decide),show (0 : Int).toNat = 0 from rfl,Lib.decDigits_one (by decide)]
  rfl
 ·have hn0 : 0 < n:=Nat.pos_of_ne_zero fun e=>hc (by have:=H6.2 e; omega)
  have hD:=at1 hn0
  repeat (first | refine b6 ?_ | refine d8 ?_ | refine b7 ?_ | refine b9 ?_ | refine b8 ?_ | refine c8 ?_ | refine wp_skip ?_)
  try refine m9 ?_
  refine D8 [(3,6),(14,38)] (fun k ρ w'=>∃ (i : Nat) (v : Value),k + i = (dg n).length ∧ ρ 4 = .int .i64 (i : Int) ∧ ρ 3 = v ∧ Own w1.heap.size 5 1 w' v (9 * i) (byt (low (9 * i) n)) ∧ Ext w1 w') (dg n).length
   ⟨0,_,by omega,rfl,rfl,Y2,.refl⟩ ?_
  ·rintro k u w2 ⟨i,v,hki,h4,h3,ho,k2⟩
   refine j9 4 h4 (j9 3 h3 ?_)
   clear h4 h3
   have hg2:=hg.to k2
   have hm2:=hm1.to k2
   have hdd:=I5 n i
   repeat (first | refine i1 rfl hg2 rfl ?_ | refine b6 ?_ | refine d8 ?_ | refine b7 ?_ | refine c0 ?_ | refine b8 ?_ | refine c8 ?_ | refine A0 (by conv=>(lhs; whnf)) (by assumption) ?_ | refine J2 rfl rfl ?_ | refine j5 rfl ?_)
   try refine i7 ?_
   refine j4 rfl ?_ ?_ <;> intro hlt
   ·repeat (first | refine i1 rfl hg2 rfl ?_ | refine y7 (i:=i) (by conv=>(lhs; whnf)) rfl rfl hm2 (by omega) ?_ | refine r0 rfl hm2 (by omega) ?_ | refine b6 ?_ | refine y0 ?_ | refine b7 ?_ | refine c0 ?_ | refine b9 ?_ | refine b8 ?_ | refine c8 ?_ | refine p9 ?_ | refine wp_skip ?_ | refine j5 rfl ?_)
    obtain ⟨d,hd⟩ : ∃ d,d = (dg n).getD i 0:=⟨_,rfl⟩
    rw [← hd] at hdd ⊢
    try refine m9 ?_
    refine D8 [(3,3),(5,6),(26,38)] (fun k ρ w'=>∃ (j : Nat) (v : Value),k + j = 9 ∧ ρ 6 = .int .i64 (j : Int) ∧ ρ 5 = .int .i64 ((d / 10 ^ j : Nat) : Int) ∧ ρ 3 = v ∧ Own w1.heap.size 5 1 w' v (9 * i + j) (byt (low (9 * i) n ++ low j d)) ∧ Ext w1 w') 9
     ⟨0,v,by omega,rfl,by simp; rfl,rfl,by simpa [low] using ho,k2⟩ ?_
    rintro k' u2 w3 ⟨j,v3,hkj,h6,h5,h3,ho3,k3⟩
    refine j9 6 h6 (j9 5 h5 (j9 3 h3 ?_))
    clear h6 h5 h3
    have hdj : d / 10 ^ j ≤ d:=Nat.div_le_self ..
    have hdj2 : d / 10 ^ j / 10 = d / 10 ^ (j + 1):=by rw [Nat.div_div_eq_div_mul,Nat.pow_succ]
    have hls:=c43 j d
    obtain ⟨y,hy⟩ : ∃ y,y = d / 10 ^ j:=⟨_,rfl⟩
    rw [← hy] at hdj hdj2 hls ⊢
    repeat (first | refine b6 ?_ | refine d8 ?_ | refine b7 ?_ | refine c0 ?_ | refine b8 ?_ | refine c8 ?_ | refine J2 rfl rfl ?_)
    try refine i7 ?_
    refine j4 rfl ?_ ?_ <;> intro hj9
    ·repeat (first | refine b6 ?_ | refine y0 ?_ | refine b7 ?_ | refine c0 ?_ | refine p9 ?_ | refine wp_skip ?_ | refine A4 rfl rfl ?_ | refine ah2 rfl rfl (by omega) (by omega) ?_)
     refine N3 rfl (dg5 (by omega) (by omega)) ?_
     have hb : Value.int .u8 (48 + (y : Int) % 10) = .int .u8 ((UInt8.ofNat (48 + y % 10)).toNat : Int):=bl2 (x:=y % 10) (by omega)
     refine X3 rfl rfl ?_
     intro w4 g4 k4 hg4 hgs4
     rw [hb] at hg4
     refine O2 (by conv=>(lhs; whnf)) (X4 ho3 k4) rfl hg4 (by omega) rfl (fun u hu=>by rw [List.mem_singleton.1 hu]; rfl) (by unfold maxLen; omega) (by omega) (by have:=k3.size; have:=k4.size; omega) ?_
     intro v5 w5 ho5 k5
     repeat (first | refine b7 ?_ | refine c0 ?_ | refine b9 ?_ | refine b8 ?_ | refine c8 ?_ | refine A4 rfl rfl ?_ | refine ah9 rfl rfl (by omega) (by omega) (by omega) ?_)
     refine ⟨by (repeat (first | refine j2 rfl ?_ | exact f4 | refine j3 rfl ?_ | exact d9 | refine m6 rfl ?_ | refine l8 rfl ?_)),8 - j,by omega,j + 1,v5,by omega,rfl,?_,rfl,?_,?_⟩
     ·rw [← hdj2]; exact congrArg (Value.int .i64) (by omega)
     ·rw [hls,← List.append_assoc,be6]
      exact ho5
     exact Keeps.later (k3.trans k4) k5 fun i hi _ e=>by have:=(ho3.lt i e.symm).1; omega
    have hj : j = 9:=by omega
    subst hj
    repeat (first | refine b7 ?_ | refine c0 ?_ | refine b9 ?_ | refine b8 ?_ | refine c8 ?_ | refine wp_exit ?_ | refine A4 rfl rfl ?_)
    refine ⟨by (repeat (first | refine j2 rfl ?_ | exact f4 | refine j3 rfl ?_ | exact d9 | refine m6 rfl ?_ | refine l8 rfl ?_)),k - 1,by omega,i + 1,v3,by omega,rfl,rfl,?_,k3⟩
    rw [c37,← hd]
    exact ho3
   ·have hi : i = (dg n).length:=by omega
    subst hi
    rw [hdl] at ho
    repeat (first | refine c8 ?_ | refine wp_exit ?_ | refine R9 ?_ | refine N8 rfl ?_)
    try refine m9 ?_
    refine D8 ((3,3) :: [(3,3),(39,50)]) (fun k ρ w'=>w' = w2 ∧ ∃ (v : Value),ρ 3 = v ∧ Lib.nDigits n ≤ k ∧ k ≤ 9 * dl n ∧ Own w1.heap.size 5 1 w2 v k (byt (low k n))) (9 * dl n)
     ⟨rfl,v,rfl,hD,Nat.le_refl _,ho⟩ ?_
    rintro M u3 w3 ⟨rfl,v3,h3,hMl,hMh,ho3⟩
    refine j9 3 h3 ?_
    clear h3 ho
    have hDp:=Lib.nDigits_pos n
    have hr3 : Row All 5 1 w3 v3 M (byt (low M n)):=Row.of_own ho3 Up.all
    have hget : (byt (low M n))[M - 1]? = some (.int .u8 (48 + ((n / 10 ^ (M - 1) % 10 : Nat) : Int))):=by
     rw [bl2 (by omega)]
     unfold byt Lib.byteCells
     rw [List.getElem?_map,ch9 (by omega)]
     rfl
    repeat (first | refine A0 (by conv=>(lhs; whnf)) hr3 ?_ | refine y7 (i:=M - 1) (by conv=>(lhs; whnf)) rfl (by omega) hr3 (by omega) ?_ | refine b6 ?_ | refine d8 ?_ | refine b7 ?_ | refine c0 ?_ | refine s9 rfl rfl ?_)
    refine be2 rfl hr3 hget ?_
    repeat (first | refine b8 ?_ | refine c8 ?_ | refine Y9 rfl rfl ?_)
    try refine i7 ?_
    refine j4 rfl ?_ ?_ <;> intro hz
    ·have hMD : Lib.nDigits n ≤ M - 1:=by
      rcases Nat.lt_or_ge (Lib.nDigits n) M with h | h
      ·omega
      exfalso
      have:=be3 hn0
      rw [show Lib.nDigits n - 1 = M - 1 by omega] at this
      omega
     repeat (first | refine A0 (by conv=>(lhs; whnf)) hr3 ?_ | refine b7 ?_ | refine c0 ?_ | refine c8 ?_ | refine H7 ?_ | refine wp_skip ?_ | refine s9 rfl rfl ?_)
     refine bv9 (k:=M - 1) (by conv=>(lhs; whnf)) ho3 rfl (by omega) (by omega) (by omega) ?_
     intro v4 ho4
     rw [c19,c08 (by omega)] at ho4
     repeat (first | refine b9 ?_ | refine b8 ?_ | refine c8 ?_ | refine aa3 ?_)
     exact ⟨by (repeat (first | refine j2 rfl ?_ | exact f4 | refine j3 rfl ?_ | exact d9 | refine m6 rfl ?_ | refine l8 rfl ?_)),M - 1,by omega,rfl,v4,rfl,hMD,by omega,ho4⟩
    ·have hMD : M = Lib.nDigits n:=by
      rcases Nat.lt_or_ge (Lib.nDigits n) M with h | h
      ·exact absurd (by have:=bw8 (n:=n) (k:=M - 1) (by omega); omega) hz
      omega
     subst hMD
     have hg3:=hg.to k2
     have hrev:=c46 z
     rw [← hn] at hrev
     repeat (first | refine i1 rfl hg3 rfl ?_ | refine b6 ?_ | refine d8 ?_ | refine b7 ?_ | refine b8 ?_ | refine c8 ?_ | refine wp_exit ?_ | refine j5 rfl ?_)
     first | refine i7 ?_ | refine E7 ?_ | refine B6 ?_ | skip
     refine N4 [(3,3),(53,55)] (fun ρ w'=>∃ v,ρ 3 = v ∧ Own w1.heap.size 5 1 w' v (Lib.itoa z).length (byt (Lib.itoa z).reverse) ∧ Ext w1 w') rfl ?_ ?_ ?_
     ·intro hneg
      rw [if_pos hneg] at hrev
      have hlen : (Lib.itoa z).length = Lib.nDigits n + 1:=by
       have:=congrArg List.length hrev
       simpa [ab5] using this
      rw [hrev,hlen,be6]
      repeat (first | refine b7 ?_ | refine c0 ?_)
      refine X3 rfl rfl ?_
      intro w4 g4 k4 hg4 hgs4
      refine O2 (by conv=>(lhs; whnf)) (X4 ho3 k4) rfl hg4 (by omega) rfl (fun u hu=>by rw [List.mem_singleton.1 hu]; rfl) (by unfold maxLen; omega) (by omega) (by have:=k2.size; have:=k4.size; omega) ?_
      intro v5 w5 ho5 k5
      repeat (first | refine b9 ?_ | refine b8 ?_ | refine c8 ?_)
      refine ⟨by (repeat (first | refine j2 rfl ?_ | exact f4 | refine j3 rfl ?_ | exact d9 | refine m6 rfl ?_ | refine l8 rfl ?_)),v5,rfl,ho5,?_⟩
      exact Keeps.later (k2.trans k4) k5 fun i hi _ e=>by have:=(ho3.lt i e.symm).1; omega
     ·intro hneg
      rw [if_neg hneg,List.append_nil] at hrev
      have hlen : (Lib.itoa z).length = Lib.nDigits n:=by
       have:=congrArg List.length hrev
       simpa [ab5] using this
      rw [hrev,hlen]
      repeat (first | refine c8 ?_ | refine wp_skip ?_)
      exact ⟨by (repeat (first | refine j2 rfl ?_ | exact f4 | refine j3 rfl ?_ | exact d9 | refine m6 rfl ?_ | refine l8 rfl ?_)),v3,rfl,ho3,k2⟩
     rintro u4 w4 ⟨v4,h4,ho4,k4⟩
     refine j9 3 h4 ?_
     clear h4 ho3 hr3 hget
     obtain ⟨X,hX⟩ : ∃ X,X = Lib.itoa z:=⟨_,rfl⟩
     rw [← hX] at ho4 ⊢
     have hX0 : 0 < X.length:=by
      have:=congrArg List.length hrev
      rw [← hX] at this
      simp [ab5] at this
      omega
     have hXb : X.length ≤ 9 * dl n + 1:=by
      have:=congrArg List.length hrev
      rw [← hX] at this
      simp [ab5] at this
      split at this <;> simp at this <;> omega
     obtain ⟨gb,cap,cs,rfl,hgb,hb4,htk,hcl,hcap,hmx,hce⟩:=bm4 ho4 hX0
     have hc0 : ∀ p,p < X.length → cs[p]? = (byt X)[X.length - 1 - p]?:=by
      intro p hp
      have h1 : cs[p]? = (cs.take X.length)[p]?:=by rw [List.getElem?_take,if_pos hp]
      rw [h1,htk]
      unfold byt Lib.byteCells
      rw [List.getElem?_map,List.getElem?_map,List.getElem?_reverse hp]
     repeat (first | refine b6 ?_ | refine d8 ?_ | refine b7 ?_ | refine c0 ?_ | refine b9 ?_ | refine b8 ?_ | refine c8 ?_ | refine cu9 rfl ?_ | refine s9 rfl rfl ?_)
     try refine m9 ?_
     refine D8 [(7,9),(59,80)] (fun k ρ w'=>∃ (i : Nat) (cs' : List Value),k + i = X.length ∧ ρ 7 = .int .i64 (i : Int) ∧ ρ 8 = .int .i64 ((X.length : Int) - 1 - i) ∧ 2 * i ≤ X.length + 1 ∧ cs'.length = cs.length ∧
       (∀ p,p < X.length → cs'[p]? = if p < i ∨ X.length ≤ p + i then (byt X)[p]? else (byt X)[X.length - 1 - p]?) ∧ Blk w' gb 5 cs' ∧ Keeps (fun k=>k ≠ gb) w4 w') X.length
      ⟨0,cs,by omega,rfl,congrArg (Value.int .i64) (by omega),by omega,rfl,fun p hp=>by rw [if_neg (by omega)]; exact hc0 p hp,hb4,.refl⟩ ?_
     rintro k5 u5 w5 ⟨i,cs',hki5,h7,h8,hii,hcl',hcs',hb5,k5b⟩
     refine j9 7 h7 (j9 8 h8 ?_)
     clear h7 h8 hb4
     repeat (first | refine b6 ?_ | refine d8 ?_ | refine b7 ?_ | refine c0 ?_ | refine b8 ?_ | refine c8 ?_ | refine J2 rfl rfl ?_)
     try refine i7 ?_
     refine j4 rfl ?_ ?_ <;> intro hij
     ·obtain ⟨j,hj⟩ : ∃ j,j + i + 1 = X.length:=⟨X.length - 1 - i,by omega⟩
      have hxl : (byt X).length = X.length:=cb0 X
      have hei : cs'[i]? = some ((byt X)[j]'(by omega)):=by
       rw [hcs' i (by omega),if_neg (by omega),show X.length - 1 - i = j by omega,List.getElem?_eq_getElem]
      have hej : cs'[j]? = some ((byt X)[i]'(by omega)):=by
       rw [hcs' j (by omega),if_neg (by omega),show X.length - 1 - j = i by omega,List.getElem?_eq_getElem]
      have one : ∀ q (hq : q < (byt X).length),((byt X)[q]).oneCell' = true:=by
       intro q hq
       simp [Lib.byteCells,Value.oneCell']
      repeat (first | refine F9 (i:=i) rfl rfl rfl (by omega) ?_ | refine b6 ?_ | refine y0 ?_ | refine b7 ?_ | refine c0 ?_ | refine p9 ?_ | refine wp_skip ?_)
      refine i1 rfl hb5 hei ?_
      repeat (first | refine F9 (i:=i) rfl rfl rfl (by omega) ?_ | refine F9 (i:=j) rfl rfl (by omega) (by omega) ?_ | refine i1 rfl hb5 hej ?_ | refine b6 ?_ | refine b7 ?_ | refine c0 ?_ | refine b9 ?_ | refine b8 ?_)
      refine J4 rfl rfl hb5 (by omega) (one _ _) ?_
      intro w6 k6 hb6
      repeat (first | refine F9 (i:=j) rfl rfl (by omega) (by omega) ?_ | refine b7 ?_ | refine c0 ?_ | refine b8 ?_)
      refine J4 rfl rfl hb6 (by simp; omega) (one _ _) ?_
      intro w7 k7 hb7
      repeat (first | refine b7 ?_ | refine c0 ?_ | refine b9 ?_ | refine b8 ?_ | refine c8 ?_ | refine A4 rfl rfl ?_ | refine s9 rfl rfl ?_)
      refine ⟨by (repeat (first | refine j2 rfl ?_ | exact f4 | refine j3 rfl ?_ | exact d9 | refine m6 rfl ?_ | refine l8 rfl ?_)),k5 - 1,by omega,i + 1,_,by omega,rfl,congrArg (Value.int .i64) (by omega),by omega,by simpa using hcl',fun p hp=>?_,hb7,(k5b.trans k6).trans k7⟩
      by_cases e1 : p = j
      ·subst e1
       rw [List.getElem?_set_self (by simp; omega),if_pos (by omega)]
       exact (List.getElem?_eq_getElem (by omega)).symm
      rw [List.getElem?_set_ne (by omega)]
      by_cases e2 : p = i
      ·subst e2
       rw [List.getElem?_set_self (by omega),if_pos (by omega)]
       exact (List.getElem?_eq_getElem (by omega)).symm
      rw [List.getElem?_set_ne (by omega),hcs' p hp]
      by_cases e3 : p < i ∨ X.length ≤ p + i
      ·rw [if_pos e3,if_pos (by omega)]
      rw [if_neg e3,if_neg (by omega)]
     repeat (first | refine b6 ?_ | refine b7 ?_ | refine c0 ?_ | refine wp_exit ?_)
     refine bs9 (v:=D9 X) (by conv=>(lhs; whnf)) (run_convert_bytes_back _ _ _ 5 _ _ X (inferInstance : SlT prog _ 5).und (inferInstance : IntT prog 5 _).und (inferInstance : StrT prog _).und ?_) ?_
     ·intro p hp
      have h9:=hcs' p hp
      have h10 : cs'[p]? = (byt X)[p]?:=by
       rw [h9]
       split
       ·rfl
       congr 1; omega
      have ha : (⟨gb,0,none⟩ : Addr).add p = ⟨gb,p,none⟩:=by
       unfold Addr.add
       split <;> simp_all
      rw [ha]
      refine hb5.cell ?_
      rw [h10]
      unfold byt Lib.byteCells
      rw [List.getElem?_map,List.getElem?_eq_getElem hp]
      rfl
     repeat (first | refine b9 ?_ | refine b8 ?_ | refine c8 ?_ | refine wp_ret ?_)
     refine o7 rfl ⟨rfl,?_⟩
     exact k1.trans (Keeps.later k4 k5b fun i hi _=>by omega)
theorem bc2 (n : Nat) : Lib.itoa (n : Int) = Lib.decDigits n:=by
 unfold Lib.itoa
 rw [if_neg (by omega),show ((n : Int)).toNat = n from rfl]
theorem a84 {S : Nat → Prop} {w : World} {v : Value} {q : Rat} (hS : Up S w) (h : QV S w v q) (hl : rl q 400000000000) :
  Gives prog 48 [v] w fun v' w'=>v' = D9 (J6 q) ∧ Ext w w':=by
 obtain ⟨m,b,rfl,hm,hb⟩:=h
 obtain ⟨hl1,hl2⟩:=hl
 have hz : zl (q.den : Int) ≤ 400000000000:=by unfold zl; rw [Int.natAbs_natCast]; exact hl2
 have hn1:=I4 _ hl1
 have hn2:=I4 _ hl2
 have hi:=al4 q.num
 refine l7 func48 rfl rfl rfl ?_
 repeat (first | refine b6 ?_ | refine b7 ?_)
 refine s6 (cs:=[.bool (tst (q.num < 0)),m,.bool (tst ((q.den : Int) < 0)),b]) rfl ?_
 intro w1 g k1 hg hgs
 replace hm:=hm.to k1
 replace hb:=hb.to k1
 replace hS:=hS.to k1
 repeat (first | refine b6 ?_ | refine d8 ?_ | refine b9 ?_ | refine b8 ?_)
 refine s5 4 ?_
 apply c7
 ·intro x w1 k1 hd
  refine j5 rfl ?_
  refine b8 ?_
  exact j1
 apply c7
 ·intro x w1 k1 hd
  refine o8 rfl (hg.to k1) rfl rfl ?_
  refine b8 ?_
  exact j1
 refine c7 (e:=zE S 1) ?_ ?_
 ·intro x w1 k1 hd
  refine i6 (cv4 (z:=1) (hS.to k1) (by decide) (by decide)) rfl ?_
  rintro v2 w2 ⟨k2,h2⟩
  exact b8 (y5 k2 h2)
 refine c7 (e:=Ent.eq (.int .i64 ((q.den : Int) - 1).sign)) ?_ ?_
 ·intro x w1 k1 hd
  refine i6 (dr3 (a:=(q.den : Int)) (b:=1) (hS.to k1) ⟨b,rfl,hb.to k1⟩ hd.1 (by omega) (Nat.le_trans (K8 (k:=1) (by decide)) (by decide))) rfl ?_
  rintro v2 w2 ⟨rfl,k2⟩
  exact b8 (av4 k2)
 refine E5 (E9 ?_)
 intro x w2 k2 _
 replace hm:=hm.to k2
 replace hb:=hb.to k2
 replace hg:=hg.to k2
 have k:=k1.trans k2
 have hd1 : q.den = 1 ↔ ((q.den : Int) - 1).sign = 0:=by rw [Int.sign_eq_zero_iff_zero]; omega
 clear k1 k2
 repeat (first | refine b8 ?_ | refine c8 ?_ | refine Y9 rfl rfl ?_)
 try refine i7 ?_
 refine j4 rfl ?_ ?_ <;> intro hc
 ·repeat (first | refine o8 rfl hg rfl rfl ?_ | refine b6 ?_ | refine b7 ?_ | refine j5 rfl ?_)
  refine i6 (b64 (z:=q.num) ⟨m,rfl,hm⟩ (by unfold zl; omega)) rfl ?_
  rintro v3 w3 ⟨rfl,k3⟩
  repeat (first | refine b9 ?_ | refine b8 ?_ | refine c8 ?_ | refine wp_ret ?_ | refine q9 ?_)
  refine o7 rfl ⟨?_,k.trans k3⟩
  unfold J6
  rw [if_pos (hd1.2 hc),List.append_nil]
 repeat (first | refine b6 ?_ | refine wp_skip ?_)
 refine s5 8 ?_
 apply c7
 ·intro x w1 k1 hd
  refine j5 rfl ?_
  refine b8 ?_
  exact j1
 apply c7
 ·intro x w1 k1 hd
  refine o8 rfl (hg.to k1) rfl rfl ?_
  refine b8 ?_
  exact j1
 refine c7 (e:=Ent.eq (D9 (Lib.itoa q.num))) ?_ ?_
 ·intro x w1 k1 hd
  refine i6 (b64 (z:=q.num) ⟨m,rfl,hm.to k1⟩ (by unfold zl; omega)) rfl ?_
  rintro v2 w2 ⟨rfl,k2⟩
  exact b8 (av4 k2)
 apply c7
 ·intro x w1 k1 hd
  refine bj9 (b:=[47]) rfl rfl (by simp; omega) ?_
  refine b8 ?_
  exact j1
 apply c7
 ·intro x w1 k1 hd
  refine j5 rfl ?_
  refine b8 ?_
  exact j1
 apply c7
 ·intro x w1 k1 hd
  refine o8 rfl (hg.to k1) rfl rfl ?_
  refine b8 ?_
  exact j1
 refine c7 (e:=Ent.eq (D9 (Lib.itoa (q.den : Int)))) ?_ ?_
 ·intro x w1 k1 hd
  refine i6 (b64 (z:=(q.den : Int)) ⟨b,rfl,hb.to k1⟩ (by omega)) rfl ?_
  rintro v2 w2 ⟨rfl,k2⟩
  exact b8 (av4 k2)
 apply c7
 ·intro x w1 k1 hd
  refine bj9 rfl rfl (by rw [bc2,Lib.decDigits_length]; simp; omega) ?_
  refine b8 ?_
  exact j1
 refine E5 (E9 ?_)
 intro x3 w3 k3 _
 repeat (first | refine b9 ?_ | refine b8 ?_ | refine c8 ?_ | refine wp_ret ?_)
 refine o7 rfl ⟨?_,k.trans k3⟩
 unfold J6
 rw [if_neg (fun h=>hc (hd1.1 h)),bc2,List.append_assoc]
 rfl
end Go.Proofs.YtmjbiocildkhnaaGreatDoor
end
section
namespace Go.Proofs
open Go.Shelf
def Tryz.lays160_ren : Go.Shelf.Ren:=⟨fun | 160=>170 | 232=>190 | 231=>189 | 227=>191 | 234=>193 | 233=>192 | 236=>195 | 235=>194 | 228=>215 | 271=>218 | 151=>217 | 197=>216 | 120=>234 | 152=>233 | 260=>232 | 137=>243 | 119=>244 | 224=>213 | 225=>212 | 217=>211 | 266=>230 | n=>n,fun | 9=>9 | 4=>4 | 3=>3 | 5=>5 | 117=>222 | 116=>221 | 0=>0 | 124=>225 | 21=>21 | 105=>243 | 46=>135 | 119=>271 | 139=>274 | 138=>273 | n=>n,fun | 3=>4 | 4=>5 | n=>n⟩
theorem Tryz.lays160 : Go.Proofs.Lays.n160 Tryz.prog Tryz.lays160_ren:={
 mixed:=by kernel_rfl
 f119:=Tryz.func244.trans (congrArg some (by kernel_rfl))
 f120:=Tryz.func234.trans (congrArg some (by kernel_rfl))
 f137:=Tryz.func243.trans (congrArg some (by kernel_rfl))
 f151:=Tryz.func217.trans (congrArg some (by kernel_rfl))
 f152:=Tryz.func233.trans (congrArg some (by kernel_rfl))
 f160:=Tryz.func170.trans (congrArg some (by kernel_rfl))
 f197:=Tryz.func216.trans (congrArg some (by kernel_rfl))
 f217:=Tryz.func211.trans (congrArg some (by kernel_rfl))
 f224:=Tryz.func213.trans (congrArg some (by kernel_rfl))
 f225:=Tryz.func212.trans (congrArg some (by kernel_rfl))
 f227:=Tryz.func191.trans (congrArg some (by kernel_rfl))
 f228:=Tryz.func215.trans (congrArg some (by kernel_rfl))
 f231:=Tryz.func189.trans (congrArg some (by kernel_rfl))
 f232:=Tryz.func190.trans (congrArg some (by kernel_rfl))
 f233:=Tryz.func192.trans (congrArg some (by kernel_rfl))
 f234:=Tryz.func193.trans (congrArg some (by kernel_rfl))
 f235:=Tryz.func194.trans (congrArg some (by kernel_rfl))
 f236:=Tryz.func195.trans (congrArg some (by kernel_rfl))
 f260:=Tryz.func232.trans (congrArg some (by kernel_rfl))
 f266:=Tryz.func230.trans (congrArg some (by kernel_rfl))
 f271:=Tryz.func218.trans (congrArg some (by kernel_rfl))
 t0:=Tryz.underlying0
 a0:=Tryz.isAgg0
 z0:=Tryz.sizeOf0
 v0:=Tryz.zeroValue0
 t3:=Tryz.underlying3
 a3:=Tryz.isAgg3
 z3:=Tryz.sizeOf3
 v3:=Tryz.zeroValue3
 t4:=Tryz.underlying4
 a4:=Tryz.isAgg4
 z4:=Tryz.sizeOf4
 v4:=Tryz.zeroValue4
 t5:=Tryz.underlying5
 a5:=Tryz.isAgg5
 z5:=Tryz.sizeOf5
 v5:=Tryz.zeroValue5
 t9:=Tryz.underlying9
 a9:=Tryz.isAgg9
 z9:=Tryz.sizeOf9
 v9:=Tryz.zeroValue9
 t21:=Tryz.underlying21
 a21:=Tryz.isAgg21
 z21:=Tryz.sizeOf21
 v21:=Tryz.zeroValue21
 t46:=Tryz.underlying135
 a46:=Tryz.isAgg135
 z46:=Tryz.sizeOf135
 v46:=Tryz.zeroValue135
 t105:=Tryz.underlying243
 a105:=Tryz.isAgg243
 z105:=Tryz.sizeOf243
 v105:=Tryz.zeroValue243
 t116:=Tryz.underlying221
 a116:=Tryz.isAgg221
 z116:=Tryz.sizeOf221
 t117:=Tryz.underlying222
 a117:=Tryz.isAgg222
 z117:=Tryz.sizeOf222
 v117:=Tryz.zeroValue222
 t119:=Tryz.underlying271
 a119:=Tryz.isAgg271
 z119:=Tryz.sizeOf271
 t124:=Tryz.underlying225
 a124:=Tryz.isAgg225
 z124:=Tryz.sizeOf225
 v124:=Tryz.zeroValue225
 t138:=Tryz.underlying273
 a138:=Tryz.isAgg273
 z138:=Tryz.sizeOf273
 v138:=Tryz.zeroValue273
 t139:=Tryz.underlying274
 a139:=Tryz.isAgg274
 z139:=Tryz.sizeOf274
 v139:=Tryz.zeroValue274
 g3:=by kernel_rfl
 g4:=by kernel_rfl }
def Tryz.lays103_ren : Go.Shelf.Ren:=⟨fun | 103=>140 | 210=>169 | 206=>188 | n=>n,fun | 9=>9 | 4=>4 | 24=>178 | 3=>3 | n=>n,fun | n=>n⟩
theorem Tryz.lays103 : Go.Proofs.Lays.n103 Tryz.prog Tryz.lays103_ren:={
 mixed:=by kernel_rfl
 f103:=Tryz.func140.trans (congrArg some (by kernel_rfl))
 f206:=Tryz.func188.trans (congrArg some (by kernel_rfl))
 f210:=Tryz.func169.trans (congrArg some (by kernel_rfl))
 t3:=Tryz.underlying3
 a3:=Tryz.isAgg3
 z3:=Tryz.sizeOf3
 v3:=Tryz.zeroValue3
 t4:=Tryz.underlying4
 a4:=Tryz.isAgg4
 z4:=Tryz.sizeOf4
 v4:=Tryz.zeroValue4
 t9:=Tryz.underlying9
 a9:=Tryz.isAgg9
 z9:=Tryz.sizeOf9
 v9:=Tryz.zeroValue9
 t24:=Tryz.underlying178
 a24:=Tryz.isAgg178
 z24:=Tryz.sizeOf178
 v24:=Tryz.zeroValue178 }
open Go.RowKit in
theorem Tryz.strings_CutPrefix (s p : ByteArray) (w : World) :
  Calls Tryz.prog 140 #[.string s,.string p] w fun e w'=>e = .returned (.tuple #[.string ⟨(Lib.trimPrefix s.data.toList p.data.toList).toArray⟩,.bool (Lib.hasPrefix s.data.toList p.data.toList)]) ∧ w' = w:=Any.strings_CutPrefix Tryz.lays103 s p w
def Tryz.lays172_ren : Go.Shelf.Ren:=⟨fun | 172=>171 | 244=>196 | 245=>197 | 247=>219 | 279=>220 | 280=>221 | 281=>222 | 282=>223 | 287=>235 | 316=>236 | 171=>147 | 205=>237 | 321=>245 | 322=>246 | 243=>174 | 246=>202 | 283=>225 | 284=>226 | 285=>227 | 286=>228 | 129=>239 | 317=>238 | 318=>240 | 319=>241 | 320=>242 | 337=>247 | 338=>248 | n=>n,fun | 9=>9 | 3=>3 | 75=>189 | 76=>190 | 4=>4 | 5=>5 | 167=>246 | 37=>185 | 0=>0 | 85=>247 | 2=>2 | 168=>249 | 53=>161 | 175=>260 | 46=>135 | 210=>264 | 127=>212 | 145=>279 | 143=>277 | 21=>21 | 171=>252 | 173=>255 | 212=>267 | 51=>193 | 20=>20 | 213=>268 | 232=>281 | 233=>282 | 80=>103 | n=>n,fun | 15=>1 | 16=>2 | 17=>3 | 18=>6 | 19=>7 | n=>n⟩
theorem Tryz.lays172 : Go.Proofs.Lays.n172 Tryz.prog Tryz.lays172_ren:={
 mixed:=by kernel_rfl
 f129:=Tryz.func239.trans (congrArg some (by kernel_rfl))
 f171:=Tryz.func147.trans (congrArg some (by kernel_rfl))
 f172:=Tryz.func171.trans (congrArg some (by kernel_rfl))
 f205:=Tryz.func237.trans (congrArg some (by kernel_rfl))
 f243:=Tryz.func174.trans (congrArg some (by kernel_rfl))
 f244:=Tryz.func196.trans (congrArg some (by kernel_rfl))
 f245:=Tryz.func197.trans (congrArg some (by kernel_rfl))
 f246:=Tryz.func202.trans (congrArg some (by kernel_rfl))
 f247:=Tryz.func219.trans (congrArg some (by kernel_rfl))
 f279:=Tryz.func220.trans (congrArg some (by kernel_rfl))
 f280:=Tryz.func221.trans (congrArg some (by kernel_rfl))
 f281:=Tryz.func222.trans (congrArg some (by kernel_rfl))
 f282:=Tryz.func223.trans (congrArg some (by kernel_rfl))
 f283:=Tryz.func225.trans (congrArg some (by kernel_rfl))
 f284:=Tryz.func226.trans (congrArg some (by kernel_rfl))
 f285:=Tryz.func227.trans (congrArg some (by kernel_rfl))
 f286:=Tryz.func228.trans (congrArg some (by kernel_rfl))
 f287:=Tryz.func235.trans (congrArg some (by kernel_rfl))
 f316:=Tryz.func236.trans (congrArg some (by kernel_rfl))
 f317:=Tryz.func238.trans (congrArg some (by kernel_rfl))
 f318:=Tryz.func240.trans (congrArg some (by kernel_rfl))
 f319:=Tryz.func241.trans (congrArg some (by kernel_rfl))
 f320:=Tryz.func242.trans (congrArg some (by kernel_rfl))
 f321:=Tryz.func245.trans (congrArg some (by kernel_rfl))
 f322:=Tryz.func246.trans (congrArg some (by kernel_rfl))
 f337:=Tryz.func247.trans (congrArg some (by kernel_rfl))
 f338:=Tryz.func248.trans (congrArg some (by kernel_rfl))
 t0:=Tryz.underlying0
 a0:=Tryz.isAgg0
 z0:=Tryz.sizeOf0
 v0:=Tryz.zeroValue0
 t2:=Tryz.underlying2
 a2:=Tryz.isAgg2
 z2:=Tryz.sizeOf2
 v2:=Tryz.zeroValue2
 t3:=Tryz.underlying3
 a3:=Tryz.isAgg3
 z3:=Tryz.sizeOf3
 v3:=Tryz.zeroValue3
 t4:=Tryz.underlying4
 a4:=Tryz.isAgg4
 z4:=Tryz.sizeOf4
 v4:=Tryz.zeroValue4
 t5:=Tryz.underlying5
 a5:=Tryz.isAgg5
 z5:=Tryz.sizeOf5
 v5:=Tryz.zeroValue5
 t9:=Tryz.underlying9
 a9:=Tryz.isAgg9
 z9:=Tryz.sizeOf9
 v9:=Tryz.zeroValue9
 t20:=Tryz.underlying20
 a20:=Tryz.isAgg20
 z20:=Tryz.sizeOf20
 v20:=Tryz.zeroValue20
 t21:=Tryz.underlying21
 a21:=Tryz.isAgg21
 z21:=Tryz.sizeOf21
 v21:=Tryz.zeroValue21
 t37:=Tryz.underlying185
 a37:=Tryz.isAgg185
 z37:=Tryz.sizeOf185
 v37:=Tryz.zeroValue185
 t46:=Tryz.underlying135
 a46:=Tryz.isAgg135
 z46:=Tryz.sizeOf135
 v46:=Tryz.zeroValue135
 t51:=Tryz.underlying193
 a51:=Tryz.isAgg193
 z51:=Tryz.sizeOf193
 v51:=Tryz.zeroValue193
 t53:=Tryz.underlying161
 a53:=Tryz.isAgg161
 z53:=Tryz.sizeOf161
 v53:=Tryz.zeroValue161
 t75:=Tryz.underlying189
 a75:=Tryz.isAgg189
 z75:=Tryz.sizeOf189
 v75:=Tryz.zeroValue189
 t76:=Tryz.underlying190
 a76:=Tryz.isAgg190
 z76:=Tryz.sizeOf190
 v76:=Tryz.zeroValue190
 t85:=Tryz.underlying247
 a85:=Tryz.isAgg247
 z85:=Tryz.sizeOf247
 v85:=Tryz.zeroValue247
 t127:=Tryz.underlying212
 a127:=Tryz.isAgg212
 z127:=Tryz.sizeOf212
 v127:=Tryz.zeroValue212
 t143:=Tryz.underlying277
 a143:=Tryz.isAgg277
 z143:=Tryz.sizeOf277
 v143:=Tryz.zeroValue277
 t145:=Tryz.underlying279
 a145:=Tryz.isAgg279
 z145:=Tryz.sizeOf279
 v145:=Tryz.zeroValue279
 t167:=Tryz.underlying246
 a167:=Tryz.isAgg246
 z167:=Tryz.sizeOf246
 v167:=Tryz.zeroValue246
 t168:=Tryz.underlying249
 a168:=Tryz.isAgg249
 z168:=Tryz.sizeOf249
 v168:=Tryz.zeroValue249
 t171:=Tryz.underlying252
 a171:=Tryz.isAgg252
 z171:=Tryz.sizeOf252
 v171:=Tryz.zeroValue252
 t173:=Tryz.underlying255
 a173:=Tryz.isAgg255
 z173:=Tryz.sizeOf255
 v173:=Tryz.zeroValue255
 t175:=Tryz.underlying260
 a175:=Tryz.isAgg260
 z175:=Tryz.sizeOf260
 v175:=Tryz.zeroValue260
 t210:=Tryz.underlying264
 a210:=Tryz.isAgg264
 z210:=Tryz.sizeOf264
 v210:=Tryz.zeroValue264
 t212:=Tryz.underlying267
 a212:=Tryz.isAgg267
 z212:=Tryz.sizeOf267
 v212:=Tryz.zeroValue267
 t213:=Tryz.underlying268
 a213:=Tryz.isAgg268
 z213:=Tryz.sizeOf268
 t232:=Tryz.underlying281
 a232:=Tryz.isAgg281
 z232:=Tryz.sizeOf281
 v232:=Tryz.zeroValue281
 t233:=Tryz.underlying282
 a233:=Tryz.isAgg282
 z233:=Tryz.sizeOf282
 v233:=Tryz.zeroValue282
 g15:=by kernel_rfl
 g16:=by kernel_rfl
 g17:=by kernel_rfl
 g18:=by kernel_rfl
 g19:=by kernel_rfl }
open Go.RowKit in
theorem Tryz.strconv_Atoi (s : ByteArray) (n : Int) (hl : s.size ≤ 18) (h : Lib.atoi s.data.toList = some n) (w : World) :
  Calls Tryz.prog 171 #[.string s] w fun e w'=>e = .returned (.tuple #[.int .i64 n,.nilIface]) ∧ ∃ t,w' = Lib.bytesWorld w 5 t:=Any.strconv_Atoi Tryz.lays172 s n hl h w
def Tryz.lays217_ren : Go.Shelf.Ren:=⟨fun | 217=>211 | 266=>230 | n=>n,fun | 9=>9 | 5=>5 | 3=>3 | n=>n,fun | n=>n⟩
theorem Tryz.lays217 : Go.Proofs.Lays.n217 Tryz.prog Tryz.lays217_ren:={
 mixed:=by kernel_rfl
 f217:=Tryz.func211.trans (congrArg some (by kernel_rfl))
 f266:=Tryz.func230.trans (congrArg some (by kernel_rfl))
 t3:=Tryz.underlying3
 a3:=Tryz.isAgg3
 z3:=Tryz.sizeOf3
 v3:=Tryz.zeroValue3
 t5:=Tryz.underlying5
 a5:=Tryz.isAgg5
 z5:=Tryz.sizeOf5
 v5:=Tryz.zeroValue5
 t9:=Tryz.underlying9
 a9:=Tryz.isAgg9
 z9:=Tryz.sizeOf9
 v9:=Tryz.zeroValue9 }
open Go.RowKit Go.Lib in
theorem Tryz.stringslite_IndexByte (s : ByteArray) (c : Int) (w : World) :
  Calls Tryz.prog 211 #[.string s,.int .u8 c] w fun e w'=>e = .returned (.int .i64 (Lib.indexByte s.data.toList c.toNat.toUInt8)) ∧ w' = w:=Any.stringslite_IndexByte Tryz.lays217 s c w
end Go.Proofs
end
section
namespace Go.Proofs.YtmjbiocildkhnaaGreatDoor
open Go Go.RowKit Tryz
abbrev M5 : List UInt8:=[48,49,50,51,52,53,54,55,56,57]
theorem aa4 (c : UInt8) : M5.contains c = true ↔ Dig c:=by
 have h:=c.toNat_lt
 constructor
 ·intro h
  simp only [List.contains_eq_mem,decide_eq_true_eq,List.mem_cons,List.not_mem_nil,or_false] at h
  rcases h with rfl | rfl | rfl | rfl | rfl | rfl | rfl | rfl | rfl | rfl <;> exact ⟨by decide,by decide⟩
 rintro ⟨h1,h2⟩
 simp only [List.contains_eq_mem,decide_eq_true_eq,List.mem_cons,List.not_mem_nil,or_false]
 have e : ∀ k : UInt8,c.toNat = k.toNat → c = k:=fun k hk=>UInt8.toNat_inj.1 hk
 have : c.toNat = 48 ∨ c.toNat = 49 ∨ c.toNat = 50 ∨ c.toNat = 51 ∨ c.toNat = 52 ∨ c.toNat = 53 ∨ c.toNat = 54 ∨ c.toNat = 55 ∨ c.toNat = 56 ∨ c.toNat = 57:=by omega
 rcases this with h | h | h | h | h | h | h | h | h | h
 ·exact .inl (e 48 h)
 ·exact .inr (.inl (e 49 h))
 ·exact .inr (.inr (.inl (e 50 h)))
 ·exact .inr (.inr (.inr (.inl (e 51 h))))
 ·exact .inr (.inr (.inr (.inr (.inl (e 52 h)))))
 ·exact .inr (.inr (.inr (.inr (.inr (.inl (e 53 h))))))
 ·exact .inr (.inr (.inr (.inr (.inr (.inr (.inl (e 54 h)))))))
 ·exact .inr (.inr (.inr (.inr (.inr (.inr (.inr (.inl (e 55 h))))))))
 ·exact .inr (.inr (.inr (.inr (.inr (.inr (.inr (.inr (.inl (e 56 h)))))))))
 exact .inr (.inr (.inr (.inr (.inr (.inr (.inr (.inr (.inr (e 57 h)))))))))
theorem a05 {p : UInt8 → Bool} : ∀ {l : List UInt8},l.dropWhile p = [] ↔ ∀ x ∈ l,p x = true
 | []=>by simp
 | c :: r=>by
  rw [List.dropWhile_cons]
  split
  ·rename_i h
   rw [a05]
   simp [h]
  rename_i h
  constructor
  ·intro e; cases e
  intro e; exact absurd (e c (List.mem_cons_self ..)) h
theorem c74 (s : List UInt8) : Lib.trimS s M5 = [] ↔ ∀ c ∈ s,Dig c:=by
 unfold Lib.trimS Lib.trimLeftS Lib.trimRightS
 rw [a05]
 constructor
 ·intro h
  have h2 : ∀ c ∈ s.reverse.dropWhile (M5.contains ·),Dig c:=fun c hc=>(aa4 c).1 (h c (List.mem_reverse.2 hc))
  have h3 : s.reverse.dropWhile (M5.contains ·) = []:=by
   cases hd : s.reverse.dropWhile (M5.contains ·) with
   | nil=>rfl
   | cons c r=>
    exfalso
    have h4 : M5.contains c = true:=(aa4 c).2 (h2 c (by rw [hd]; exact List.mem_cons_self ..))
    have h5:=List.head?_dropWhile_not (M5.contains ·) s.reverse
    rw [hd] at h5
    simp only [List.head?_cons] at h5
    rw [h4] at h5
    cases h5
  intro c hc
  exact (aa4 c).1 (a05.1 h3 c (List.mem_reverse.2 hc))
 intro h c hc
 have h1:=List.mem_reverse.1 hc
 exact (aa4 c).2 (h c (List.mem_reverse.1 ((List.dropWhile_sublist _).subset h1)))
theorem cl6 {w : World} {s : List UInt8} (hl : s.length ≤ 9223372036854775807) :
  Gives prog 170 [D9 s,D9 M5] w fun v' w'=>v' = D9 (Lib.trimS s M5) ∧ Ext w w':=
 Calls.mono (Any.strings_Trim_laid Tryz.lays160 (by kernel_rfl) ⟨s.toArray⟩ ⟨M5.toArray⟩ w (by rw [af4]; exact hl) (by decide) (ascii_of_all (by decide))) fun e w' ⟨he,hw⟩=>⟨_,he,rfl,.of_below hw⟩
theorem at8 {w : World} {s : List UInt8} (hl : s.length ≤ 9223372036854775807) :
  Gives prog 141 [D9 s] w fun v' w'=>v' = .bool (tst (U0 s)) ∧ Ext w w':=by
 have hbd : ¬ (s = [] ∨ (s.head? = some 48 ∧ 1 < s.length)) → (U0 s ↔ ∀ c ∈ s,Dig c):=by
  intro h
  refine ⟨fun h2=>h2.2.1,fun h2=>⟨fun e=>h (.inl e),h2,fun h3=>?_⟩⟩
  have h4 : ¬ 1 < s.length:=fun h4=>h (.inr ⟨h3,h4⟩)
  have h5 : s ≠ []:=fun e=>h (.inl e)
  have:=List.length_pos_iff.2 h5
  omega
 refine l7 func141 rfl rfl rfl ?_
 repeat (first | refine b6 ?_ | refine d8 ?_ | refine b7 ?_ | refine c0 ?_ | refine b9 ?_ | refine b8 ?_)
 refine ai7 (b:=[]) rfl rfl ?_
 repeat (first | refine c0 ?_)
 refine b15 [(5,14)] (fun ρ w'=>ρ 14 = .bool (tst (s = [] ∨ (s.head? = some 48 ∧ 1 < s.length))) ∧ w' = w) ?_ ?_
 ·refine B9 rfl rfl ?_ ?_ <;> intro hnil
  ·repeat (first | refine b8 ?_ | refine c8 ?_ | refine s7 rfl rfl rfl ?_ | refine P0 rfl rfl ?_ | refine s3 rfl ?_)
   exact ⟨by (repeat (first | refine j2 rfl ?_ | exact f4 | refine j3 rfl ?_ | exact d9 | refine m6 rfl ?_ | refine l8 rfl ?_)),by rw [l9 (Or.inl hnil)]; rfl,rfl⟩
  obtain ⟨c,hc⟩ : ∃ c,s[0]? = some c:=⟨s[0]'(List.length_pos_iff.2 hnil),List.getElem?_eq_getElem _⟩
  have hc48 : (c.toNat : Int) = 48 ↔ s.head? = some 48:=by
   rw [List.head?_eq_getElem?,hc]
   constructor
   ·intro h
    congr 1
    apply UInt8.toNat_inj.1
    show c.toNat = 48
    omega
   intro h
   have:=Option.some.inj h
   subst this
   rfl
  repeat (first | refine b41 0 rfl rfl rfl hc ?_ | refine c0 ?_ | refine q5 rfl rfl ?_ | refine Y9 rfl rfl ?_)
  refine B9 rfl rfl ?_ ?_ <;> intro h48
  ·repeat (first | refine a34 rfl ?_ | refine c0 ?_ | refine b8 ?_ | refine c8 ?_ | refine q5 rfl rfl ?_ | refine s3 rfl ?_ | refine p7 rfl ?_ | refine S3 rfl rfl ?_)
   refine ⟨by (repeat (first | refine j2 rfl ?_ | exact f4 | refine j3 rfl ?_ | exact d9 | refine m6 rfl ?_ | refine l8 rfl ?_)),congrArg Value.bool (M4 ?_),rfl⟩
   exact ⟨fun h=>Or.inr ⟨hc48.1 h48,by omega⟩,fun h=>h.elim (fun h=>absurd h hnil) fun h=>by omega⟩
  repeat (first | refine b8 ?_ | refine c8 ?_ | refine q5 rfl rfl ?_ | refine s7 rfl rfl rfl ?_ | refine p7 rfl ?_)
  refine ⟨by (repeat (first | refine j2 rfl ?_ | exact f4 | refine j3 rfl ?_ | exact d9 | refine m6 rfl ?_ | refine l8 rfl ?_)),?_,rfl⟩
  rw [l6 (show ¬ (s = [] ∨ (s.head? = some 48 ∧ 1 < s.length)) from fun h=>h.elim hnil fun h=>h48 (hc48.2 h.1))]
  rfl
 rintro u1 w1 ⟨h14,rfl⟩
 refine j9 14 h14 ?_
 clear h14
 skip
 try refine i7 ?_
 refine j4 rfl ?_ ?_ <;> intro hbad
 ·repeat (first | refine b6 ?_ | refine b7 ?_ | refine b9 ?_ | refine b8 ?_ | refine c8 ?_ | refine wp_ret ?_ | refine q9 ?_)
  refine o7 rfl ⟨?_,.refl⟩
  rw [l6]
  rintro ⟨h1,h2,h3⟩
  rcases hbad with h | h
  ·exact h1 h
  have:=h3 h.1; omega
 repeat (first | refine b6 ?_ | refine b7 ?_ | refine c0 ?_ | refine wp_skip ?_)
 refine i6 (cl6 hl) rfl ?_
 rintro v2 w2 ⟨rfl,k2⟩
 refine ai7 (b:=[]) rfl rfl ?_
 repeat (first | refine b9 ?_ | refine b8 ?_ | refine c8 ?_ | refine wp_ret ?_)
 refine o7 rfl ⟨?_,k2⟩
 rw [M4 (c74 s),← M4 (hbd hbad)]
theorem ax7 : ∀ {l : List UInt8} {a : Nat},(∀ c ∈ l,Dig c) → Lib.decFrom a l = some (l.foldl (fun a c=>10 * a + (c.toNat - 48)) a)
 | [],a,_=>rfl
 | c :: r,a,h=>by
  have h1:=h c (List.mem_cons_self ..)
  unfold Dig at h1
  have h2:=ax7 (l:=r) (a:=a * 10 + (c.toNat - 48)) fun x hx=>h x (List.mem_cons_of_mem _ hx)
  unfold Lib.decFrom Lib.digitVal
  rw [if_pos h1]
  simp only [List.foldl_cons]
  rw [h2,Nat.mul_comm a]
theorem cm3 {l : List UInt8} (hne : l ≠ []) (h : ∀ c ∈ l,Dig c) : Lib.atoi l = some (G5 l : Int):=by
 cases l with
 | nil=>exact absurd rfl hne
 | cons c r=>
  have h1:=h c (List.mem_cons_self ..)
  unfold Dig at h1
  have e45 : (c == 45) = false:=by
   rw [beq_eq_false_iff_ne]
   rintro rfl
   exact absurd h1.1 (by decide)
  have e43 : (c == 43) = false:=by
   rw [beq_eq_false_iff_ne]
   rintro rfl
   exact absurd h1.1 (by decide)
  have e : Lib.atoi (c :: r) = if (c == 45) = true then (Lib.decNat r).map fun (m : Nat)=>-(m : Int) else if (c == 43) = true then (Lib.decNat r).map fun (m : Nat)=>(m : Int) else (Lib.decNat (c :: r)).map fun (m : Nat)=>(m : Int):=rfl
  have e2 : Lib.decNat (c :: r) = Lib.decFrom 0 (c :: r):=rfl
  rw [e,e45,e43,e2,ax7 h]
  rfl
theorem cn9 {w : World} {T : TypeId} {t : ByteArray} : Ext w (Lib.bytesWorld w T t):=.of_below (Lib.bytesWorld_below w T t)
theorem dn5 {w : World} {l : List UInt8} (hne : l ≠ []) (h : ∀ c ∈ l,Dig c) (hl : l.length ≤ 18) :
  Gives prog 171 [D9 l] w fun v' w'=>v' = .tuple #[.int .i64 (G5 l : Int),.nilIface] ∧ Ext w w':=
 Calls.mono (Tryz.strconv_Atoi ⟨l.toArray⟩ (G5 l : Int) (by rw [af4]; exact hl) (cm3 hne h) w) fun e w' ⟨he,t,hw⟩=>⟨_,he,rfl,hw ▸ cn9⟩
theorem bx0 {S : Nat → Prop} {w : World} {s : List UInt8} (hS : Up S w) (hd : ∀ c ∈ s,Dig c) (hl : s.length ≤ 1000000) :
  Gives prog 142 [D9 s] w fun v' w'=>Ext w w' ∧ s4 S 193 .u32 w' v' (G5 s):=by
 refine l7 func142 rfl rfl rfl ?_
 repeat (first | refine b6 ?_ | refine b7 ?_ | refine b9 ?_ | refine b8 ?_ | refine c8 ?_)
 try refine m9 ?_
 refine D8 ((0,0) :: [(0,0),(3,28)]) (fun k ρ w'=>∃ (L : List Nat) (v : Value),k ≤ s.length ∧ ρ 0 = D9 (s.take k) ∧ ρ 3 = v ∧ (0 < k → 9 * L.length + k = s.length) ∧ L.length ≤ s.length ∧ G5 (s.drop k) = r9 L ∧ Digs L ∧ Ext w w' ∧ Own w.heap.size 193 1 w' v L.length (L.map fun d : Nat=>.int .u32 d)) s.length ?_ ?_
 ·exact ⟨[],_,Nat.le_refl _,by rw [List.take_of_length_le (Nat.le_refl _)]; rfl,rfl,by simp,by simp,by rw [List.drop_of_length_le (Nat.le_refl _)]; rfl,Q3,.refl,Y2⟩
 rintro k u w1 ⟨L,v,hk,h0,h3,hcnt,hLl,U3,hLd,k1,ho⟩
 refine j9 0 h0 (j9 3 h3 ?_)
 clear h0 h3
 have htk : (s.take k).length = k:=by rw [List.length_take]; omega
 repeat (first | refine a34 rfl ?_ | refine b6 ?_ | refine d8 ?_ | refine b7 ?_ | refine c0 ?_ | refine b8 ?_ | refine c8 ?_ | refine S3 rfl rfl ?_)
 try refine i7 ?_
 refine j4 rfl ?_ ?_ <;> intro hc
 ·obtain ⟨cut,hcut⟩ : ∃ cut,cut = k - 9:=⟨_,rfl⟩
  have hmax : max (0 : Int) (((s.take k).length : Int) - 9) = (cut : Int):=by omega
  obtain ⟨ch,hch⟩ : ∃ ch,ch = (s.take k).drop cut:=⟨_,rfl⟩
  have hchl : ch.length = k - cut:=by rw [hch,List.length_drop,htk]
  have hchd : ∀ c ∈ ch,Dig c:=fun c hc=>hd c (List.mem_of_mem_take (List.mem_of_mem_drop (hch ▸ hc)))
  have hchne : ch ≠ []:=by intro e; rw [e] at hchl; simp at hchl; omega
  have hdv:=cj9 hchd
  have hdv9 : G5 ch < 1000000000:=by
   have : 10 ^ ch.length ≤ 10 ^ 9:=Nat.pow_le_pow_right (by omega) (by omega)
   omega
  have hsd : s.drop cut = ch ++ s.drop k:=by
   rw [hch]
   conv=>lhs; rw [← List.take_append_drop k s]
   rw [List.drop_append_of_le_length (by omega)]
  repeat (first | refine a34 rfl ?_ | refine b6 ?_ | refine b7 ?_ | refine c0 ?_ | refine b9 ?_ | refine b8 ?_ | refine c8 ?_ | refine p9 ?_ | refine wp_skip ?_ | refine s9 rfl rfl ?_ | refine cu1 rfl rfl ?_)
  rw [hmax]
  repeat (first | refine aw3 cut rfl rfl rfl (by omega) ?_)
  rw [← hch]
  refine i6 (dn5 hchne hchd (by omega)) rfl ?_
  rintro v2 w2 ⟨rfl,k2⟩
  repeat (first | refine b6 ?_ | refine b7 ?_ | refine c0 ?_ | refine b9 ?_ | refine b8 ?_ | refine B2 rfl rfl ?_ | refine N3 rfl (ab2 (by omega) (by omega)) ?_)
  refine X3 (by conv=>(lhs; whnf)) rfl ?_
  intro w3 g k3 hg hgs
  refine O2 (by conv=>(lhs; whnf)) (X4 (X4 ho k2) k3) rfl hg (by omega) rfl (fun u hu=>by rw [List.mem_singleton.1 hu]; rfl) (by unfold maxLen; omega) (by omega) (by have:=k1.size; have:=k2.size; have:=k3.size; omega) ?_
  intro v4 w4 ho4 k4
  have hlen : (L ++ [G5 ch]).length = L.length + 1:=by rw [List.length_append]; rfl
  repeat (first | refine aq8 cut rfl rfl rfl (by omega) ?_ | refine b7 ?_ | refine c0 ?_ | refine b9 ?_ | refine b8 ?_ | refine c8 ?_ | refine aa3 ?_)
  refine ⟨by (repeat (first | refine j2 rfl ?_ | exact f4 | refine j3 rfl ?_ | exact d9 | refine m6 rfl ?_ | refine l8 rfl ?_)),cut,by omega,L ++ [G5 ch],v4,by omega,?_,rfl,by rw [hlen]; omega,by rw [hlen]; omega,?_,hLd.append (Digs.cons hdv9 Q3),?_,by simpa using ho4⟩
  ·show D9 ((s.take k).take cut) = _
   rw [List.take_take,Nat.min_eq_left (by omega)]
  ·rw [hsd,b38,U3,ag1,List.length_drop,show s.length - k = 9 * L.length by have:=hcnt (by omega); omega,← ac6,Nat.mul_comm (G5 ch)]
   omega
  exact Keeps.later ((k1.trans k2).trans k3) k4 fun i hi _ e=>by have:=(ho.lt i e.symm).1; omega
 obtain rfl : k = 0:=by omega
 rw [List.drop_zero] at U3
 repeat (first | refine b6 ?_ | refine b7 ?_ | refine c0 ?_ | refine wp_exit ?_)
 refine i6 (bf1 (S:=S) (v:=v) (l:=L) (Row.of_own ho hS) hLd) rfl ?_
 rintro v2 w2 ⟨rfl,h2⟩
 repeat (first | refine b9 ?_ | refine b8 ?_ | refine c8 ?_ | refine wp_ret ?_)
 refine o7 rfl ⟨k1,?_⟩
 rw [U3]
 exact h2
theorem cj3 (s : List UInt8) : Lib.hasPrefix s [45] = tst (Z3 s):=by
 unfold Lib.hasPrefix Z3
 cases s with
 | nil=>rw [l6 (by simp)]; rfl
 | cons c r=>
  by_cases h : c = 45
  ·subst h
   rw [l9 (by rfl)]
   simp [List.isPrefixOf]
  rw [l6 (by simpa using h)]
  simp [List.isPrefixOf]
  exact fun e=>h e.symm
theorem cu6 (s : List UInt8) : Lib.trimPrefix s [45] = Dgs s:=by
 unfold Lib.trimPrefix Dgs
 rw [cj3]
 by_cases h : Z3 s
 ·rw [l9 h,if_pos h]; rfl
 rw [l6 h,if_neg h]; rfl
theorem b51 {w : World} {s : List UInt8} :
  Gives prog 140 [D9 s,D9 [45]] w fun v' w'=>v' = .tuple #[D9 (Dgs s),.bool (tst (Z3 s))] ∧ w' = w:=
 Calls.mono (Tryz.strings_CutPrefix ⟨s.toArray⟩ ⟨[45].toArray⟩ w) fun e w' ⟨he,hw⟩=>⟨_,he,by
  show Value.tuple #[.string ⟨(Lib.trimPrefix s [45]).toArray⟩,.bool (Lib.hasPrefix s [45])] = _
  rw [cu6,cj3],hw⟩
theorem dg8 (l : List UInt8) (c : UInt8) : (Lib.indexByte l c = -1 ∧ c ∉ l) ∨ ∃ a b,l = a ++ c :: b ∧ c ∉ a ∧ Lib.indexByte l c = (a.length : Int):=by
 induction l with
 | nil=>exact .inl ⟨rfl,by simp⟩
 | cons x l ih=>
  unfold Lib.indexByte
  by_cases hx : x = c
  ·subst hx
   exact .inr ⟨[],l,rfl,by simp,by simp⟩
  have hb : (x == c) = false:=by simpa using hx
  rcases ih with ⟨h1,h2⟩ | ⟨a,b,rfl,h2,h3⟩
  ·refine .inl ⟨by simp [hb,h1],?_⟩
   intro h
   rcases List.mem_cons.1 h with h | h
   ·exact hx h.symm
   exact h2 h
  refine .inr ⟨x :: a,b,rfl,?_,?_⟩
  ·intro h
   rcases List.mem_cons.1 h with h | h
   ·exact hx h.symm
   exact h2 h
  rw [h3]
  have : ((a.length : Int) == -1) = false:=by simp
  simp [hb,this]
theorem ct6 {P : Program} {n : Nat} {Q : E4} {ρ : Fr} {w : World} {all rest : List Oper} {d : Tmp} {ty : TypeId} {pos : String} {aft : Array Edge} {t : TypeId} [st : StrT P t] {x : Operand} {l : List UInt8} (m : Int) (hv : ev ρ x = D9 l) (hm : (l.length : Int) = m)
  (h : WpR P n all Q rest (upd ρ d (.int .i64 m)) w) : WpR P n all Q (⟨some d,.call ⟨.builtin .len,#[x],#[t]⟩,ty,pos,aft,none⟩ :: rest) ρ w:=a34 hv (by rw [hm]; exact h)
theorem bx8 {w : World} {s : List UInt8} :
  Gives prog 211 [D9 s,.int .u8 47] w fun v' w'=>v' = .int .i64 (Lib.indexByte s 47) ∧ w' = w:=
 Calls.mono (Tryz.stringslite_IndexByte ⟨s.toArray⟩ 47 w) fun e w' ⟨he,hw⟩=>⟨_,he,rfl,hw⟩
theorem c89 {w : World} {s : List UInt8} (hl : s.length ≤ 9223372036854775806) :
  Gives prog 187 [D9 s,D9 [47]] w fun v' w'=>v' = .int .i64 (Lib.indexByte s 47) ∧ w' = w:=by
 refine l7 func187 rfl rfl rfl ?_
 repeat (first | refine ct6 1 rfl rfl ?_ | refine b6 ?_ | refine y0 ?_ | refine b7 ?_ | refine c0 ?_ | refine b9 ?_ | refine b8 ?_ | refine p9 ?_ | refine q5 rfl rfl ?_ | refine Y9 rfl rfl ?_ | refine b92 rfl rfl (by omega) ?_)
 refine ai7 (a:=[47]) (b:=s) rfl rfl ?_
 repeat (first | refine b9 ?_ | refine b8 ?_ | refine c8 ?_ | refine p7 rfl ?_)
 try refine i7 ?_
 refine j4 rfl ?_ ?_ <;> intro hc
 ·have h47 : s = [47]:=by simpa using hc.symm
  subst h47
  repeat (first | refine b6 ?_ | refine b7 ?_ | refine b9 ?_ | refine b8 ?_ | refine c8 ?_ | refine wp_ret ?_ | refine q9 ?_ | refine J9 ?_)
  exact S7 rfl (by conv=>(lhs; whnf)) ⟨by rw [show Lib.indexByte [47] 47 = 0 from by simp [Lib.indexByte]],rfl⟩
 repeat (first | refine b41 0 rfl rfl rfl (c:=47) rfl ?_ | refine b6 ?_ | refine b7 ?_ | refine c0 ?_ | refine b9 ?_ | refine b8 ?_ | refine c8 ?_ | refine Y9 rfl rfl ?_ | refine a49 rfl (by omega) ?_)
 refine i6 (bx8 (s:=s)) rfl ?_
 rintro v2 w2 ⟨rfl,rfl⟩
 repeat (first | refine b9 ?_ | refine b8 ?_ | refine c8 ?_ | refine wp_ret ?_ | refine q9 ?_ | refine J9 ?_)
 exact o7 rfl ⟨rfl,rfl⟩
def dw4 (v : Value) (s : List UInt8) : Prop:=((47 : UInt8) ∉ s ∧ v = .tuple #[D9 s,D9 [],.bool false]) ∨ ∃ a b,s = a ++ 47 :: b ∧ (47 : UInt8) ∉ a ∧ v = .tuple #[D9 a,D9 b,.bool true]
theorem dh2 {w : World} {s : List UInt8} (hl : s.length ≤ 9223372036854775806) :
  Gives prog 168 [D9 s,D9 [47]] w fun v' w'=>Ext w w' ∧ dw4 v' s:=by
 refine l7 func168 rfl rfl rfl ?_
 repeat (first | refine b6 ?_ | refine d8 ?_ | refine b7 ?_ | refine c0 ?_ | refine b9 ?_ | refine b8 ?_)
 refine i6 (c89 hl) rfl ?_
 rintro v1 w1 ⟨rfl,rfl⟩
 repeat (first | refine b6 ?_ | refine b7 ?_ | refine c0 ?_ | refine b9 ?_ | refine b8 ?_ | refine c8 ?_ | refine ad7 rfl rfl ?_)
 rcases dg8 s 47 with ⟨h1,h2⟩ | ⟨a,b,rfl,h2,h3⟩
 ·rw [h1]
  repeat (first | refine b6 ?_ | refine b7 ?_ | refine c0 ?_ | refine b9 ?_ | refine b8 ?_ | refine c8 ?_ | refine wp_ret ?_ | refine wp_skip ?_ | refine a97 rfl (by omega) ?_)
  exact c04 rfl (B0 (by conv=>(lhs; whnf))) (B0 (by conv=>(lhs; whnf))) (B0 (by conv=>(lhs; whnf))) ⟨.refl,.inl ⟨h2,rfl⟩⟩
 rw [h3]
 have hla : a.length + 1 ≤ (a ++ 47 :: b).length:=by simp
 repeat (first | refine b6 ?_ | refine a49 rfl (by omega) ?_)
 refine s5 10 ?_
 apply c7
 ·intro x w1 k1 hd
  refine c0 ?_
  refine b8 ?_
  exact j1
 apply c7
 ·intro x w1 k1 hd
  refine c0 ?_
  refine b8 ?_
  exact j1
 apply c7
 ·intro x w1 k1 hd
  refine aq8 a.length rfl rfl rfl (by omega) ?_
  refine b8 ?_
  exact j1
 apply c7
 ·intro x w1 k1 hd
  refine c0 ?_
  refine b8 ?_
  exact j1
 apply c7
 ·intro x w1 k1 hd
  refine c0 ?_
  refine b8 ?_
  exact j1
 apply c7
 ·intro x w1 k1 hd
  refine c0 ?_
  refine b8 ?_
  exact j1
 apply c7
 ·intro x w1 k1 hd
  refine ct6 1 rfl rfl ?_
  refine b8 ?_
  exact j1
 apply c7
 ·intro x w1 k1 hd
  refine A4 rfl rfl ?_
  refine b8 ?_
  exact j1
 apply c7
 ·intro x w1 k1 hd
  refine aw3 (a.length + 1) rfl rfl rfl (by omega) ?_
  refine b8 ?_
  exact j1
 apply c7
 ·intro x w1 k1 hd
  refine b9 ?_
  refine b8 ?_
  exact j1
 refine E5 (E9 ?_)
 intro x w2 k2 _
 repeat (first | refine b9 ?_ | refine b8 ?_ | refine c8 ?_ | refine wp_ret ?_ | refine q9 ?_)
 refine c04 rfl (B0 (by conv=>(lhs; whnf))) (B0 (by conv=>(lhs; whnf))) (B0 (by conv=>(lhs; whnf))) ⟨k2,.inr ⟨a,b,rfl,h2,?_⟩⟩
 rw [List.take_left' rfl,show a ++ 47 :: b = (a ++ [47]) ++ b by simp,List.drop_left' (by simp)]
theorem dz7 {w : World} {s : List UInt8} (hl : s.length ≤ 9223372036854775806) :
  Gives prog 139 [D9 s,D9 [47]] w fun v' w'=>Ext w w' ∧ dw4 v' s:=by
 refine l7 func139 rfl rfl rfl ?_
 repeat (first | refine b6 ?_ | refine b7 ?_ | refine c0 ?_ | refine b9 ?_ | refine b8 ?_)
 refine i6 (dh2 hl) rfl ?_
 rintro v1 w1 ⟨k1,h1⟩
 rcases h1 with ⟨h1,rfl⟩ | ⟨a,b,h1,h2,rfl⟩
 ·repeat (first | refine b9 ?_ | refine b8 ?_ | refine c8 ?_ | refine wp_ret ?_ | refine B2 rfl rfl ?_)
  exact c04 rfl (B0 (by conv=>(lhs; whnf))) (B0 (by conv=>(lhs; whnf))) (B0 (by conv=>(lhs; whnf))) ⟨k1,.inl ⟨h1,rfl⟩⟩
 repeat (first | refine b9 ?_ | refine b8 ?_ | refine c8 ?_ | refine wp_ret ?_ | refine B2 rfl rfl ?_)
 exact c04 rfl (B0 (by conv=>(lhs; whnf))) (B0 (by conv=>(lhs; whnf))) (B0 (by conv=>(lhs; whnf))) ⟨k1,.inr ⟨a,b,h1,h2,rfl⟩⟩
def cw4 (s : List UInt8) (n : Int) (d : Nat) : Prop:=
 (d = 0 ∧ (47 : UInt8) ∉ s ∧ s = Lib.itoa n) ∨ (2 ≤ d ∧ ∃ a,(47 : UInt8) ∉ a ∧ s = a ++ 47 :: Lib.decDigits d ∧ a = Lib.itoa n)
def bd6 (d : Nat) : Nat:=if d = 0 then 1 else d
theorem cc1 {s : List UInt8} {n : Int} {d : Nat} (h : cw4 s n d) (hg : Nat.gcd (bd6 d) n.natAbs = 1) : ∃ q : Rat,q.num = n ∧ bot q = d ∧ s = J6 q:=by
 unfold bd6 at hg
 rcases h with ⟨rfl,h1,h2⟩ | ⟨h0,a,h1,rfl,h2⟩
 ·exact ⟨(n : Rat),rfl,cg3 n,(az4 h1 _).2 ⟨rfl,h2⟩⟩
 rw [if_neg (by omega),Nat.gcd_comm] at hg
 obtain ⟨q,h3,h4⟩:=dt7 n (d:=d) (by omega) hg
 refine ⟨q,h3,?_,(ax8 h1 q).2 ⟨by omega,by rw [h3]; exact h2,by rw [h4]⟩⟩
 unfold bot
 rw [if_neg (by omega),h4]
theorem cn3 {s : List UInt8} {n : Int} {d : Nat} (h : cw4 s n d) (hg : Nat.gcd (bd6 d) n.natAbs ≠ 1) : ∀ q,s ≠ J6 q:=fun q hq=>by
 unfold bd6 at hg
 rcases h with ⟨rfl,h1,h2⟩ | ⟨h0,a,h1,rfl,h2⟩
 ·rw [if_pos rfl,Nat.gcd_one_left] at hg
  exact hg rfl
 rw [if_neg (by omega),Nat.gcd_comm] at hg
 obtain ⟨h3,h4,h5⟩:=(ax8 h1 q).1 hq
 have h6:=congrArg G5 h5
 rw [P9,P9] at h6
 rw [h2] at h4
 have h7:=ba1 h4
 subst h6 h7
 exact hg (dc9 q)
theorem c77 {n j k : Nat} (h : n < 10 ^ j) (hj : j ≤ 9 * k) : dl n ≤ k:=by
 refine K8 ?_
 rw [ac6]
 exact Nat.lt_of_lt_of_le h (a43 hj)
theorem c13 {z : Int} {s : List UInt8} (h : s = Lib.itoa z) {k : Nat} (hl : s.length ≤ 9 * k) : zl z ≤ k:=cq3 (Nat.le_trans (bf7 z) (h ▸ hl))
theorem ds3 {S : Nat → Prop} {w : World} {x m b : Value} {d : Nat} (hS : Up S w) (h1 : x.oneCell' = true) (h2 : m.oneCell' = true) (hb : s4 S 193 .u32 w b d) :
  Gives prog 134 [.agg #[x,m,b]] w fun v' w'=>Ext w w' ∧ s4 S 193 .u32 w' v' (bd6 d):=by
 have hl:=@H6 d
 unfold dl at hl
 unfold bd6
 refine l7 func134 rfl rfl rfl ?_
 have k : Ext w w:=.refl
 repeat (first | refine b6 ?_ | refine b7 ?_)
 refine s6 (cs:=[x,m,b]) rfl ?_
 intro w_1 g k_1 hg hs_1
 have hsg : w.heap.size ≤ g:=Nat.le_trans k.size hs_1
 clear hs_1
 replace hS:=hS.to k_1
 replace hb:=hb.to k_1
 replace k:=k.trans k_1
 clear k_1
 repeat (first | refine i1 rfl hg rfl ?_ | refine b6 ?_ | refine d8 ?_ | refine b7 ?_ | refine b9 ?_ | refine b8 ?_ | refine c8 ?_ | refine A0 (by conv=>(lhs; whnf)) (by assumption) ?_ | refine Y9 rfl rfl ?_ | refine j5 rfl ?_)
 try refine i7 ?_
 refine j4 rfl ?_ ?_ <;> intro hc
 ·repeat (first | refine b6 ?_ | refine b7 ?_)
  refine i6 (cy3 hS) rfl ?_
  rintro v_2 w_2 ⟨k_2,h3⟩
  replace hS:=hS.to k_2
  replace hb:=hb.to k_2
  replace hg:=hg.to k_2
  replace k:=k.trans k_2
  clear k_2
  repeat (first | refine b9 ?_ | refine b8 ?_ | refine c8 ?_ | refine wp_ret ?_ | refine q9 ?_)
  refine o7 rfl ⟨k,?_⟩
  rw [if_pos (hl.1 (by omega))]
  exact h3
 repeat (first | refine i1 rfl hg rfl ?_ | refine b6 ?_ | refine b7 ?_ | refine b9 ?_ | refine b8 ?_ | refine c8 ?_ | refine wp_ret ?_ | refine wp_skip ?_ | refine j5 rfl ?_)
 refine o7 rfl ⟨k,?_⟩
 rw [if_neg (fun h=>hc (by have:=hl.2 h; omega))]
 exact hb
theorem df9 {S : Nat → Prop} {w : World} {va : Value} {a : Nat} (ha : s4 S 193 .u32 w va a) :
  Gives prog 144 [va] w fun v' w'=>v' = .bool (tst (a = 1)) ∧ Ext w w':=(bn6 ha).mono fun _ _ ⟨h,e⟩=>⟨h,e ▸ .refl⟩
theorem db8 (s : List UInt8) : (¬ U0 (Dgs s) ∨ (Z3 s ∧ Dgs s = [48])) ↔ ∀ z,s ≠ Lib.itoa z:=by
 constructor
 ·rintro (h | ⟨h1,h2⟩) z hz
  ·exact h ((bo3 s).1 ⟨z,hz⟩).1
  exact ((bo3 s).1 ⟨z,hz⟩).2 h1 (by rw [h2]; rfl)
 intro h
 by_cases hd : U0 (Dgs s)
 ·right
  have h2 : ¬ (Z3 s → (Dgs s).head? ≠ some 48):=fun h2=>h _ (br2 hd h2)
  by_cases hn : Z3 s
  ·refine ⟨hn,?_⟩
   have h3 : (Dgs s).head? = some 48:=Classical.byContradiction fun h3=>h2 fun _=>h3
   have h4:=hd.2.2 h3
   match hds : Dgs s,h3,h4 with
   | [c],h3,_=>simp at h3; rw [h3]
  exact absurd (fun h3=>absurd h3 hn) h2
 exact .inl hd
theorem dc8 {b : List UInt8} (h : U0 b) (h0 : b ≠ [48]) (h1 : b ≠ [49]) : 2 ≤ G5 b:=by
 have h2:=Y8 h
 rcases Nat.lt_or_ge (G5 b) 2 with h3 | h3
 ·exfalso
  have h4 : G5 b = 0 ∨ G5 b = 1:=by omega
  rcases h4 with h4 | h4
  ·rw [h4,Lib.decDigits_one (by decide)] at h2; exact h0 h2.symm
  rw [h4,Lib.decDigits_one (by decide)] at h2; exact h1 h2.symm
 exact h3
theorem c03 {b : List UInt8} (h : ¬ (U0 b ∧ b ≠ [48] ∧ b ≠ [49])) {d : Nat} (hd : 2 ≤ d) : b ≠ Lib.decDigits d:=by
 rintro rfl
 refine h ⟨af9 d,fun e=>?_,fun e=>?_⟩
 ·have:=congrArg G5 e; rw [P9,show G5 [48] = 0 from rfl] at this; omega
 have:=congrArg G5 e; rw [P9,show G5 [49] = 1 from rfl] at this; omega
theorem cb8 (s : List UInt8) : (ap9 s).natAbs = G5 (Dgs s) ∧ (ap9 s < 0 ↔ Z3 s ∧ 0 < G5 (Dgs s)):=by
 unfold ap9
 split
 ·rename_i h; exact ⟨by omega,⟨fun h2=>⟨h,by omega⟩,fun h2=>by omega⟩⟩
 rename_i h; exact ⟨by omega,⟨fun h2=>by omega,fun h2=>absurd h2.1 h⟩⟩
def dk1 (s a b : List UInt8) (has : Bool) : Prop:=(has = false ∧ (47 : UInt8) ∉ s ∧ a = s ∧ b = []) ∨ (has = true ∧ s = a ++ 47 :: b ∧ (47 : UInt8) ∉ a)
theorem c12 {s a b : List UInt8} {has : Bool} (h : dk1 s a b has) (hb : (∀ z,a ≠ Lib.itoa z) ∨ (has = true ∧ ¬ (U0 b ∧ b ≠ [48] ∧ b ≠ [49]))) : ∀ q,s ≠ J6 q:=fun q hq=>by
 rcases h with ⟨rfl,h1,rfl,rfl⟩ | ⟨rfl,rfl,h1⟩
 ·rcases hb with hb | ⟨hb,_⟩
  ·exact hb _ ((az4 h1 q).1 hq).2
  cases hb
 obtain ⟨h2,h3,h4⟩:=(ax8 h1 q).1 hq
 rcases hb with hb | ⟨_,hb⟩
 ·exact hb _ h3
 have:=q.den_pos
 exact c03 hb (d:=q.den) (by omega) h4
theorem c90 {S : Nat → Prop} {w : World} {s : List UInt8} (hS : Up S w) (hl : s.length ≤ 140737488351232) :
  Gives prog 98 [D9 s] w fun v' w'=>Ext w w' ∧
   ((70000 < s.length ∧ v' = .tuple #[.agg #[.bool false,.slice none 0 0,.slice none 0 0],.int .i64 2]) ∨ (s.length ≤ 70000 ∧ (∀ q,s ≠ J6 q) ∧ v' = .tuple #[.agg #[.bool false,.slice none 0 0,.slice none 0 0],.int .i64 10]) ∨ (s.length ≤ 70000 ∧ ∃ q,s = J6 q ∧ be9 S w' v' q)):=by
 refine l7 func98 rfl rfl rfl ?_
 have k : Ext w w:=.refl
 repeat (first | refine b6 ?_ | refine b7 ?_)
 refine q8 (cs:=[.bool false,.slice none 0 0,.slice none 0 0]) rfl ?_
 intro w_1 g k_1 hg hs_1
 have hsg : w.heap.size ≤ g:=Nat.le_trans k.size hs_1
 clear hs_1
 replace hS:=hS.to k_1
 replace k:=k.trans k_1
 clear k_1
 repeat (first | refine a34 rfl ?_ | refine b6 ?_ | refine d8 ?_ | refine b7 ?_ | refine c0 ?_ | refine b9 ?_ | refine b8 ?_ | refine c8 ?_ | refine S3 rfl rfl ?_)
 try refine i7 ?_
 refine j4 rfl ?_ ?_ <;> intro hlong
 ·repeat (first | refine b6 ?_ | refine b7 ?_)
  refine au6 (cs:=[.bool false,.slice none 0 0,.slice none 0 0]) rfl ?_
  refine E6 rfl (by conv=>(lhs; whnf)) hg rfl rfl rfl rfl ?_
  intro w_2 k_2 h_2
  replace hS:=hS.to k_2
  replace k : Ext w w_2:=k.past k_2 hsg
  replace hg:=h_2
  clear h_2 k_2
  repeat (first | refine b9 ?_ | refine b8 ?_ | refine c8 ?_ | refine wp_ret ?_ | refine q9 ?_)
  exact bd8 rfl (n6 hg rfl) (B0 (by conv=>(lhs; whnf))) ⟨k,.inl ⟨by omega,rfl⟩⟩
 ·repeat (first | refine b6 ?_ | refine b7 ?_ | refine c0 ?_ | refine wp_skip ?_)
  refine i6 (dz7 (s:=s) (by omega)) rfl ?_
  rintro v_2 w_2 ⟨k_2,c1⟩
  replace hS:=hS.to k_2
  replace hg:=hg.to k_2
  replace k:=k.trans k_2
  clear k_2
  obtain ⟨a,b,has,rfl,hf⟩ : ∃ a b has,v_2 = .tuple #[D9 a,D9 b,.bool has] ∧ dk1 s a b has:=by
   rcases c1 with ⟨h1,rfl⟩ | ⟨a,b,rfl,h1,rfl⟩
   ·exact ⟨s,[],false,rfl,.inl ⟨rfl,h1,rfl,rfl⟩⟩
   exact ⟨a,b,true,rfl,.inr ⟨rfl,rfl,h1⟩⟩
  have hal : a.length ≤ 70000 ∧ b.length ≤ 70000:=by
   rcases hf with ⟨_,_,rfl,rfl⟩ | ⟨_,rfl,_⟩
   ·exact ⟨by omega,by simp⟩
   simp at hlong; exact ⟨by omega,by omega⟩
  clear c1
  have hDl:=dq4 a
  repeat (first | refine b6 ?_ | refine b7 ?_ | refine c0 ?_ | refine b9 ?_ | refine b8 ?_ | refine B2 rfl rfl ?_)
  refine i6 (b51 (s:=a)) rfl ?_
  rintro v3 w3 ⟨rfl,rfl⟩
  repeat (first | refine b6 ?_ | refine d8 ?_ | refine b7 ?_ | refine c0 ?_ | refine b9 ?_ | refine b8 ?_ | refine B2 rfl rfl ?_)
  refine i6 (at8 (s:=Dgs a) (by omega)) rfl ?_
  rintro v_3 w_3 ⟨rfl,k_3⟩
  replace hS:=hS.to k_3
  replace hg:=hg.to k_3
  replace k:=k.trans k_3
  clear k_3
  repeat (first | refine c0 ?_ | refine az0 rfl ?_)
  have hba:=db8 a
  have hgd : ¬ (∀ z,a ≠ Lib.itoa z) → U0 (Dgs a):=fun hbad=>Classical.byContradiction fun h=>hbad (hba.1 (.inl h))
  refine b15 [(27,50)] (fun ρ w'=>ρ 50 = .bool (tst ((∀ z,a ≠ Lib.itoa z) ∨ (has = true ∧ ¬ (U0 b ∧ b ≠ [48] ∧ b ≠ [49])))) ∧ Ext w_3 w') ?_ ?_
  ·by_cases hbad : ∀ z,a ≠ Lib.itoa z
   ·by_cases hd : U0 (Dgs a)
    ·rcases hba.2 hbad with h | ⟨h1,h2⟩
     ·exact absurd hd h
     rw [l6 (show ¬ ¬ U0 (Dgs a) from fun h=>h hd),l9 h1]
     repeat (first | refine c0 ?_ | refine q5 rfl rfl ?_)
     refine ai7 (b:=[48]) rfl rfl ?_
     rw [l9 h2]
     repeat (first | refine c0 ?_ | refine b8 ?_ | refine c8 ?_ | refine q5 rfl rfl ?_ | refine s7 rfl rfl rfl ?_ | refine P0 rfl rfl ?_ | refine s3 rfl ?_ | refine p7 rfl ?_)
     exact ⟨by (repeat (first | refine j2 rfl ?_ | exact f4 | refine j3 rfl ?_ | exact d9 | refine m6 rfl ?_ | refine l8 rfl ?_)),by rw [l9 (Or.inl hbad)]; rfl,.refl⟩
    rw [l9 hd]
    repeat (first | refine c0 ?_ | refine b8 ?_ | refine c8 ?_ | refine s7 rfl rfl rfl ?_ | refine P0 rfl rfl ?_ | refine s3 rfl ?_)
    exact ⟨by (repeat (first | refine j2 rfl ?_ | exact f4 | refine j3 rfl ?_ | exact d9 | refine m6 rfl ?_ | refine l8 rfl ?_)),by rw [l9 (Or.inl hbad)]; rfl,.refl⟩
   rw [l6 (show ¬ ¬ U0 (Dgs a) from fun h=>h (hgd hbad))]
   by_cases hn : Z3 a
   ·have h48 : ¬ Dgs a = [48]:=fun h=>hbad (hba.1 (.inr ⟨hn,h⟩))
    rw [l9 hn]
    repeat (first | refine c0 ?_ | refine q5 rfl rfl ?_)
    refine ai7 (b:=[48]) rfl rfl ?_
    rw [l6 h48]
    cases has
    ·repeat (first | refine c0 ?_ | refine b8 ?_ | refine c8 ?_ | refine q5 rfl rfl ?_ | refine s7 rfl rfl rfl ?_ | refine P0 rfl rfl ?_ | refine s3 rfl ?_ | refine p7 rfl ?_)
     exact ⟨by (repeat (first | refine j2 rfl ?_ | exact f4 | refine j3 rfl ?_ | exact d9 | refine m6 rfl ?_ | refine l8 rfl ?_)),congrArg Value.bool (l6 (fun h=>h.elim hbad fun h2=>Bool.noConfusion h2.1)).symm,.refl⟩
    repeat (first | refine c0 ?_ | refine q5 rfl rfl ?_ | refine s3 rfl ?_ | refine p7 rfl ?_)
    refine i6 (at8 (s:=b) (by omega)) rfl ?_
    rintro v5 w5 ⟨rfl,k5⟩
    by_cases hd : U0 b
    ·rw [l9 hd]
     repeat (first | refine c0 ?_ | refine q5 rfl rfl ?_ | refine av3 rfl ?_)
     refine ai7 (b:=[48]) rfl rfl ?_
     by_cases h0 : b = [48]
     ·rw [l9 h0]
      repeat (first | refine c0 ?_ | refine b8 ?_ | refine c8 ?_ | refine q5 rfl rfl ?_ | refine s7 rfl rfl rfl ?_ | refine s3 rfl ?_ | refine p7 rfl ?_)
      exact ⟨by (repeat (first | refine j2 rfl ?_ | exact f4 | refine j3 rfl ?_ | exact d9 | refine m6 rfl ?_ | refine l8 rfl ?_)),congrArg Value.bool (l9 (Or.inr ⟨rfl,fun h=>h.2.1 h0⟩)).symm,k5⟩
     rw [l6 h0]
     repeat (first | refine c0 ?_ | refine q5 rfl rfl ?_ | refine p7 rfl ?_)
     refine ai7 (b:=[49]) rfl rfl ?_
     repeat (first | refine b8 ?_ | refine c8 ?_ | refine q5 rfl rfl ?_ | refine s3 rfl ?_ | refine p7 rfl ?_)
     refine ⟨by (repeat (first | refine j2 rfl ?_ | exact f4 | refine j3 rfl ?_ | exact d9 | refine m6 rfl ?_ | refine l8 rfl ?_)),congrArg Value.bool (M4 ?_),k5⟩
     exact ⟨fun h=>Or.inr ⟨rfl,fun h2=>h2.2.2 h⟩,fun h=>Classical.byContradiction fun h2=>h.elim hbad fun h=>h.2 ⟨hd,h0,h2⟩⟩
    rw [l6 hd]
    repeat (first | refine c0 ?_ | refine b8 ?_ | refine c8 ?_ | refine q5 rfl rfl ?_ | refine s7 rfl rfl rfl ?_ | refine s3 rfl ?_ | refine p7 rfl ?_ | refine av3 rfl ?_)
    exact ⟨by (repeat (first | refine j2 rfl ?_ | exact f4 | refine j3 rfl ?_ | exact d9 | refine m6 rfl ?_ | refine l8 rfl ?_)),congrArg Value.bool (l9 (Or.inr ⟨rfl,fun h=>hd h.1⟩)).symm,k5⟩
   rw [l6 hn]
   cases has
   ·repeat (first | refine c0 ?_ | refine b8 ?_ | refine c8 ?_ | refine q5 rfl rfl ?_ | refine s7 rfl rfl rfl ?_ | refine P0 rfl rfl ?_ | refine p7 rfl ?_)
    exact ⟨by (repeat (first | refine j2 rfl ?_ | exact f4 | refine j3 rfl ?_ | exact d9 | refine m6 rfl ?_ | refine l8 rfl ?_)),congrArg Value.bool (l6 (fun h=>h.elim hbad fun h2=>Bool.noConfusion h2.1)).symm,.refl⟩
   repeat (first | refine c0 ?_ | refine q5 rfl rfl ?_ | refine s7 rfl rfl rfl ?_ | refine p7 rfl ?_)
   refine i6 (at8 (s:=b) (by omega)) rfl ?_
   rintro v5 w5 ⟨rfl,k5⟩
   by_cases hd : U0 b
   ·rw [l9 hd]
    repeat (first | refine c0 ?_ | refine q5 rfl rfl ?_ | refine av3 rfl ?_)
    refine ai7 (b:=[48]) rfl rfl ?_
    by_cases h0 : b = [48]
    ·rw [l9 h0]
     repeat (first | refine c0 ?_ | refine b8 ?_ | refine c8 ?_ | refine q5 rfl rfl ?_ | refine s7 rfl rfl rfl ?_ | refine s3 rfl ?_ | refine p7 rfl ?_)
     exact ⟨by (repeat (first | refine j2 rfl ?_ | exact f4 | refine j3 rfl ?_ | exact d9 | refine m6 rfl ?_ | refine l8 rfl ?_)),congrArg Value.bool (l9 (Or.inr ⟨rfl,fun h=>h.2.1 h0⟩)).symm,k5⟩
    rw [l6 h0]
    repeat (first | refine c0 ?_ | refine q5 rfl rfl ?_ | refine p7 rfl ?_)
    refine ai7 (b:=[49]) rfl rfl ?_
    repeat (first | refine b8 ?_ | refine c8 ?_ | refine q5 rfl rfl ?_ | refine s3 rfl ?_ | refine p7 rfl ?_)
    refine ⟨by (repeat (first | refine j2 rfl ?_ | exact f4 | refine j3 rfl ?_ | exact d9 | refine m6 rfl ?_ | refine l8 rfl ?_)),congrArg Value.bool (M4 ?_),k5⟩
    exact ⟨fun h=>Or.inr ⟨rfl,fun h2=>h2.2.2 h⟩,fun h=>Classical.byContradiction fun h2=>h.elim hbad fun h=>h.2 ⟨hd,h0,h2⟩⟩
   rw [l6 hd]
   repeat (first | refine c0 ?_ | refine b8 ?_ | refine c8 ?_ | refine q5 rfl rfl ?_ | refine s7 rfl rfl rfl ?_ | refine s3 rfl ?_ | refine p7 rfl ?_ | refine av3 rfl ?_)
   exact ⟨by (repeat (first | refine j2 rfl ?_ | exact f4 | refine j3 rfl ?_ | exact d9 | refine m6 rfl ?_ | refine l8 rfl ?_)),congrArg Value.bool (l9 (Or.inr ⟨rfl,fun h=>hd h.1⟩)).symm,k5⟩
  rintro u5 w5 ⟨h50,k5⟩
  refine j9 50 h50 ?_
  clear h50
  replace hS:=hS.to k5
  replace hg:=hg.to k5
  replace k:=k.trans k5
  clear k5
  skip
  refine j4 rfl ?_ ?_ <;> intro hb0
  ·have hq:=c12 hf hb0
   repeat (first | refine b6 ?_ | refine b7 ?_)
   refine au6 (cs:=[.bool false,.slice none 0 0,.slice none 0 0]) rfl ?_
   refine E6 rfl (by conv=>(lhs; whnf)) hg rfl rfl rfl rfl ?_
   intro w_5 k_5 h_5
   replace hS:=hS.to k_5
   replace k : Ext w w_5:=k.past k_5 hsg
   replace hg:=h_5
   clear h_5 k_5
   repeat (first | refine b9 ?_ | refine b8 ?_ | refine c8 ?_ | refine wp_ret ?_ | refine q9 ?_)
   exact bd8 rfl (n6 hg rfl) (B0 (by conv=>(lhs; whnf))) ⟨k,.inr (.inl ⟨by omega,hq,rfl⟩)⟩
  have hbad : ¬ ∀ z,a ≠ Lib.itoa z:=fun h=>hb0 (.inl h)
  have hb2 : ¬ (has = true ∧ ¬ (U0 b ∧ b ≠ [48] ∧ b ≠ [49])):=fun h=>hb0 (.inr h)
  have hgood : U0 (Dgs a) ∧ (Z3 a → (Dgs a).head? ≠ some 48):=(bo3 a).1 (Classical.byContradiction fun h=>hbad fun z hz=>h ⟨z,hz⟩)
  have hav : a = Lib.itoa (ap9 a):=br2 hgood.1 hgood.2
  obtain ⟨hnv1,hnv2⟩:=cb8 a
  obtain ⟨d,hd⟩ : ∃ d,d = if has = true then G5 b else 0:=⟨_,rfl⟩
  have hparts : cw4 s (ap9 a) d:=by
   rcases hf with ⟨rfl,h1,rfl,rfl⟩ | ⟨rfl,rfl,h1⟩
   ·exact .inl ⟨by rw [hd,if_neg (by decide)],h1,hav⟩
   have h2 : U0 b ∧ b ≠ [48] ∧ b ≠ [49]:=Classical.byContradiction fun h=>hb2 ⟨rfl,h⟩
   rw [if_pos rfl] at hd
   refine .inr ⟨by rw [hd]; exact dc8 h2.1 h2.2.1 h2.2.2,a,h1,?_,hav⟩
   rw [hd,Y8 h2.1]
  have hbd : has = true → ∀ c ∈ b,Dig c:=fun h=>(Classical.byContradiction (p:=U0 b) fun h2=>hb2 ⟨h,fun h3=>h2 h3.1⟩).2.1
  have hls : dl d ≤ 7778:=by
   rw [hd]
   split
   ·rename_i h
    exact c77 (cj9 (hbd h)) (by omega)
   ·rw [df0]
    omega
  have hln : zl (ap9 a) ≤ 7778:=c13 hav (by omega)
  have hlk : dl (bd6 d) ≤ 7778:=by
   unfold bd6
   split
   ·exact Nat.le_trans (K8 (k:=1) (by decide)) (by decide)
   exact hls
  repeat (first | refine b6 ?_ | refine b7 ?_ | refine c0 ?_ | refine wp_skip ?_)
  refine i6 (bx0 hS hgood.1.2.1 (by omega)) rfl ?_
  rintro v_5 w_5 ⟨k_5,h1⟩
  replace hS:=hS.to k_5
  replace hg:=hg.to k_5
  replace k:=k.trans k_5
  clear k_5
  refine i6 (U2 (p:=Z3 a) (n:=G5 (Dgs a)) (ap9 a) h1 hnv1 hnv2) rfl ?_
  rintro v_6 w_6 ⟨k_6,m,rfl,h2⟩
  replace hS:=hS.to k_6
  replace hg:=hg.to k_6
  replace h1:=h1.to k_6
  replace k:=k.trans k_6
  clear k_6
  refine a45 (by conv=>(lhs; whnf)) ?_
  skip
  refine d08 (zs:=[.bool false,.slice none 0 0,.slice none 0 0]) (us:=[.bool (tst (ap9 a < 0)),m,.slice none 0 0]) rfl (fun _=>rfl) rfl rfl (cz0 rfl h2.one rfl) ?_
  intro w_7 g9 k_7 hs_7 hg9
  have hsg9 : w.heap.size ≤ g9:=Nat.le_trans k.size hs_7
  have ne_g_g9 : g ≠ g9:=fun e=>by have:=hg.lt; omega
  clear hs_7
  replace hS:=hS.to k_7
  replace hg:=hg.to k_7
  replace h2:=h2.to k_7
  replace k:=k.trans k_7
  clear k_7
  have hgg : g ≠ g9:=ne_g_g9
  repeat (first | refine b6 ?_ | refine d8 ?_ | refine b7 ?_ | refine c0 ?_ | refine b8 ?_ | refine c8 ?_)
  first | refine m9 ?_ | refine E7 ?_ | refine B6 ?_ | skip
  refine an5 [(58,60)] (fun ρ w'=>∃ bt,Up S w' ∧ Ext w w' ∧ Blk w' g 41 [.bool false,.slice none 0 0,.slice none 0 0] ∧ Blk w' g9 41 [.bool (tst (ap9 a < 0)),m,bt] ∧ s4 S 193 .u32 w' m (ap9 a).natAbs ∧ s4 S 193 .u32 w' bt d) ?_ ?_
  ·cases has
   ·rw [if_neg (by decide)] at hd
    subst hd
    repeat (first | refine c8 ?_ | refine wp_skip ?_ | refine wp_cond_false rfl ?_)
    exact ⟨by (repeat (first | refine j2 rfl ?_ | exact f4 | refine j3 rfl ?_ | exact d9 | refine m6 rfl ?_ | refine l8 rfl ?_)),_,hS,k,hg,hg9,h2,.nil⟩
   rw [if_pos rfl] at hd
   subst hd
   repeat (first | refine b7 ?_ | refine c0 ?_ | refine wp_cond_true rfl ?_)
   refine i6 (bx0 hS (hbd rfl) (by omega)) rfl ?_
   rintro v_8 w_8 ⟨k_8,h3⟩
   replace hS:=hS.to k_8
   replace hg:=hg.to k_8
   replace h2:=h2.to k_8
   replace hg9:=hg9.to k_8
   replace k:=k.trans k_8
   clear k_8
   repeat (first | refine j5 rfl ?_)
   refine J4 rfl rfl hg9 (show 0 + 2 < 3 by omega) h3.one ?_
   intro w_9 k_9 h_9
   replace hS:=hS.to k_9
   replace hg:=hg.wr k_9 (by omega)
   replace h2:=h2.wrT k_9 hg9 (by decide)
   replace h3:=h3.wrT k_9 hg9 (by decide)
   replace k : Ext w w_9:=k.past k_9 hsg9
   replace hg9:=h_9
   clear h_9 k_9
   repeat (first | refine b8 ?_ | refine c8 ?_)
   exact ⟨by (repeat (first | refine j2 rfl ?_ | exact f4 | refine j3 rfl ?_ | exact d9 | refine m6 rfl ?_ | refine l8 rfl ?_)),_,hS,k,hg,hg9,h2,h3⟩
  rintro u6 w6 ⟨bt,hS,k,hg,hg9,h2,h3⟩
  have hm1:=h2.one
  have hb1:=h3.one
  repeat (first | refine b6 ?_ | refine d8 ?_)
  refine s5 7 ?_
  apply c7
  ·intro x w1 k1 hd
   refine o9 rfl (hg9.to k1) rfl ?_
   refine b8 ?_
   exact j1
  refine c7 (e:=ak5 S 193 .u32 (bd6 d)) ?_ ?_
  ·intro x w1 k1 hd
   refine i6 (ds3 (x:=.bool (tst (ap9 a < 0))) (m:=m) (b:=bt) (hS.to k1) rfl hm1 (h3.to k1)) rfl ?_
   rintro v2 w2 ⟨k2,h2⟩
   exact b8 (y5 k2 h2)
  apply c7
  ·intro x w1 k1 hd
   refine j5 rfl ?_
   refine b8 ?_
   exact j1
  apply c7
  ·intro x w1 k1 hd
   refine j5 rfl ?_
   refine b8 ?_
   exact j1
  apply c7
  ·intro x w1 k1 hd
   refine i1 rfl (hg9.to k1) rfl ?_
   refine b8 ?_
   exact j1
  refine c7 (e:=ak5 S 193 .u32 (Nat.gcd (bd6 d) (ap9 a).natAbs)) ?_ ?_
  ·intro x w1 k1 hd
   refine i6 (dk5 (hS.to k1) hd.2.2.2.1 (h2.to k1) (by omega) (Nat.le_trans hln (by decide))) rfl ?_
   rintro v2 w2 ⟨k2,h2⟩
   exact b8 (y5 k2 h2)
  refine c7 (e:=Ent.eq (.bool (tst (Nat.gcd (bd6 d) (ap9 a).natAbs = 1)))) ?_ ?_
  ·intro x w1 k1 hd
   refine i6 (df9 (S:=S) hd.1) rfl ?_
   rintro v2 w2 ⟨rfl,k2⟩
   exact b8 (do7 (rfl) k2)
  refine E5 (E9 ?_)
  intro x w7 k7 _
  replace hS:=hS.to k7
  replace hg:=hg.to k7
  replace hg9:=hg9.to k7
  replace h2:=h2.to k7
  replace h3:=h3.to k7
  replace k:=k.trans k7
  clear k7
  repeat (first | refine b8 ?_ | refine c8 ?_ | refine az0 rfl ?_)
  refine j4 rfl ?_ ?_ <;> intro hgc
  ·have hq:=cn3 hparts hgc
   repeat (first | refine b6 ?_ | refine b7 ?_)
   refine au6 (cs:=[.bool false,.slice none 0 0,.slice none 0 0]) rfl ?_
   refine E6 rfl (by conv=>(lhs; whnf)) hg rfl rfl rfl rfl ?_
   intro w_9 k_9 h_9
   replace hS:=hS.to k_9
   replace hg9:=hg9.wr k_9 (by omega)
   replace h2:=h2.wrT k_9 hg (by decide)
   replace h3:=h3.wrT k_9 hg (by decide)
   replace k : Ext w w_9:=k.past k_9 hsg
   replace hg:=h_9
   clear h_9 k_9
   repeat (first | refine b9 ?_ | refine b8 ?_ | refine c8 ?_ | refine wp_ret ?_ | refine q9 ?_)
   exact bd8 rfl (n6 hg rfl) (B0 (by conv=>(lhs; whnf))) ⟨k,.inr (.inl ⟨by omega,hq,rfl⟩)⟩
  obtain ⟨q,hq1,hq2,hq3⟩:=cc1 hparts (Classical.not_not.1 hgc)
  have hq : RatV S w7 (.agg #[.bool (tst (ap9 a < 0)),m,bt]) q:=by
   rw [← hq1]
   refine ⟨m,bt,rfl,?_,?_⟩
   ·rw [hq1]; exact h2
   rw [hq2]; exact h3
  repeat (first | refine o9 rfl hg9 rfl ?_ | refine b6 ?_ | refine b7 ?_ | refine wp_skip ?_ | refine am5 ?_)
  refine i6 (ai2 hS hq) rfl ?_
  rintro v_9 w_9 ⟨k_9,r,e,rfl,hor⟩
  replace hS:=hS.to k_9
  replace hg:=hg.to k_9
  replace k:=k.trans k_9
  clear k_9
  rcases hor with ⟨hf,rfl,mr,br,rfl,hm,hb⟩ | ⟨hf,rfl,mr,br,rfl,hm,hb⟩
  ·skip
   repeat (first | refine B2 rfl rfl ?_)
   refine E6 rfl rfl hg rfl rfl hm.one hb.one ?_
   intro w_10 k_10 h_10
   replace hS:=hS.to k_10
   replace hm:=hm.wrT k_10 hg (by decide)
   replace hb:=hb.wrT k_10 hg (by decide)
   replace k : Ext w w_10:=k.past k_10 hsg
   replace hg:=h_10
   clear h_10 k_10
   repeat (first | refine b9 ?_ | refine b8 ?_ | refine c8 ?_ | refine wp_ret ?_)
   exact bd8 rfl (n6 hg rfl) (B0 (by conv=>(lhs; whnf))) ⟨k,.inr (.inr ⟨by omega,q,hq3,_,_,rfl,.inl ⟨hf,rfl,mr,br,rfl,hm,hb⟩⟩)⟩
  skip
  repeat (first | refine B2 rfl rfl ?_)
  refine E6 rfl rfl hg rfl rfl hm.one hb.one ?_
  intro w_10 k_10 h_10
  replace hS:=hS.to k_10
  replace hm:=hm.wrT k_10 hg (by decide)
  replace hb:=hb.wrT k_10 hg (by decide)
  replace k : Ext w w_10:=k.past k_10 hsg
  replace hg:=h_10
  clear h_10 k_10
  repeat (first | refine b9 ?_ | refine b8 ?_ | refine c8 ?_ | refine wp_ret ?_)
  exact bd8 rfl (n6 hg rfl) (B0 (by conv=>(lhs; whnf))) ⟨k,.inr (.inr ⟨by omega,q,hq3,_,_,rfl,.inr ⟨hf,rfl,mr,br,rfl,hm,hb⟩⟩)⟩
theorem m6 {W : List (Nat × Nat)} {ρ ρ' : Fr} {d : Nat} {v : Value} (hd : inW W d = true) (h : W8 W ρ ρ') : W8 W (upd ρ d v) ρ':=by
 intro i hi
 rw [h i hi,L9]
 cases hb : Nat.beq i d with
 | false=>rfl
 | true=>rw [Nat.eq_of_beq_eq_true hb,hd] at hi; cases hi
theorem bg4 (z : Int) {d : Nat} (hd : 0 < d) : (mkRat z d).num.natAbs ≤ z.natAbs ∧ (mkRat z d).den ≤ d:=by
 obtain ⟨h1,h2,_,_⟩:=ac9 z hd
 rw [h1,h2]
 exact ⟨Nat.div_le_self ..,Nat.div_le_self ..⟩
theorem r7 {a b : Rat} {n m : Nat} (ha : rl a n) (hb : rl b m) : rl (a * b) (n + m):=by
 rw [a32]
 obtain ⟨h1,h2⟩:=bg4 (a.num * b.num) (Nat.mul_pos a.den_pos b.den_pos)
 have h3:=ae6 a.num.natAbs b.num.natAbs
 have h4:=ae6 a.den b.den
 rw [Int.natAbs_mul] at h1
 obtain ⟨a1,a2⟩:=ha
 obtain ⟨b1,b2⟩:=hb
 exact ⟨Nat.le_trans (G8 h1) (by omega),Nat.le_trans (G8 h2) (by omega)⟩
theorem H9 {a : Rat} {n m : Nat} (h : rl a n) (hm : n ≤ m) : rl a m:=⟨Nat.le_trans h.1 hm,Nat.le_trans h.2 hm⟩
theorem j7 {a : Rat} {n m : Nat} (h : rl a n) (hm : n ≤ m:=by omega) : rl a m:=
 H9 h hm
theorem ab8 {a b : Rat} {n m : Nat} (ha : rl a n) (hb : rl b m) : rl (a + b) (n + m + 1):=by
 rw [Rat.add_def']
 obtain ⟨h1,h2⟩:=bg4 (a.num * b.den + b.num * a.den) (Nat.mul_pos a.den_pos b.den_pos)
 have h3:=bs4 (a.num * b.den) (b.num * a.den)
 have h4:=R3 a.num b.den
 have h5:=R3 b.num a.den
 have h6:=ae6 a.den b.den
 have h7 : zl (a.den : Int) = dl a.den:=by unfold zl; rw [Int.natAbs_natCast]
 have h8 : zl (b.den : Int) = dl b.den:=by unfold zl; rw [Int.natAbs_natCast]
 obtain ⟨a1,a2⟩:=ha
 obtain ⟨b1,b2⟩:=hb
 have a1' : zl a.num ≤ n:=a1
 have b1' : zl b.num ≤ m:=b1
 refine ⟨Nat.le_trans (G8 h1) ?_,Nat.le_trans (G8 h2) (by omega)⟩
 show zl _ ≤ _
 omega
theorem ae5 {a : Rat} {n : Nat} (ha : rl a n) : rl (-a) n:=by
 refine ⟨?_,?_⟩
 ·rw [Rat.neg_num,Int.natAbs_neg]; exact ha.1
 rw [Rat.neg_den]; exact ha.2
theorem cb3 {a b : Rat} {n m : Nat} (ha : rl a n) (hb : rl b m) : rl (a - b) (n + m + 1):=by
 rw [Rat.sub_eq_add_neg]
 exact ab8 ha (ae5 hb)
theorem X1 {a b : Rat} {n m : Nat} (ha : rl a n) (hb : rl b m) (hb0 : b.num ≠ 0) : rl (a / b) (n + m):=by
 rw [ak9 a b hb0]
 obtain ⟨h1,h2⟩:=bg4 (a.num * b.den * b.num.sign) (d:=a.den * b.num.natAbs) (Nat.mul_pos a.den_pos (by omega))
 rw [b19 a b hb0] at h1
 have h4:=ae6 a.num.natAbs b.den
 have h6:=ae6 a.den b.num.natAbs
 obtain ⟨a1,a2⟩:=ha
 obtain ⟨b1,b2⟩:=hb
 exact ⟨Nat.le_trans (G8 h1) (by omega),Nat.le_trans (G8 h2) (by omega)⟩
def do1 (x : Rat) (e : Int) (q : Rat) : Prop:=(R1 q ∧ e = 0 ∧ x = q) ∨ (¬ R1 q ∧ e = 11 ∧ x = 0)
end Go.Proofs.YtmjbiocildkhnaaGreatDoor
end
section
namespace Go.Proofs.YtmjbiocildkhnaaGreatDoor
open Go Tryz
@[ext] structure T3 where
 x : Rat
 y : Rat
 z : Rat
namespace T3
def dot (p q : T3) : Rat:=p.x * q.x + p.y * q.y + p.z * q.z
def cross (p q : T3) : T3:=⟨p.y * q.z - p.z * q.y,p.z * q.x - p.x * q.z,p.x * q.y - p.y * q.x⟩
def None (p : T3) : Prop:=p.x = 0 ∧ p.y = 0 ∧ p.z = 0
instance (p : T3) : Decidable p.None:=by unfold None; exact inferInstance
def lead (p : T3) : Rat:=if p.x ≠ 0 then p.x else if p.y ≠ 0 then p.y else p.z
def over (p : T3) (k : Rat) : T3:=⟨p.x / k,p.y / k,p.z / k⟩
def normal (p : T3) : T3:=p.over p.lead
theorem lead_ne {p : T3} (h : ¬ p.None) : p.lead ≠ 0:=by
 unfold lead
 unfold None at h
 split
 ·assumption
 split
 ·assumption
 grind
def Same (p q : T3) : Prop:=(p.cross q).None
def Flat (p q r : T3) : Prop:=(p.cross q).dot r = 0
instance (p q : T3) : Decidable (Same p q):=by unfold Same; exact inferInstance
instance (p q r : T3) : Decidable (Flat p q r):=by unfold Flat; exact inferInstance
end T3
def tl (p : T3) (n : Nat) : Prop:=rl p.x n ∧ rl p.y n ∧ rl p.z n
theorem G6 {p : T3} {m n : Nat} (h : tl p m) (k : m ≤ n) : tl p n:=⟨H9 h.1 k,H9 h.2.1 k,H9 h.2.2 k⟩
theorem cb4 {p q : T3} {m n : Nat} (hp : tl p m) (hq : tl q n) : rl (p.dot q) (3 * (m + n) + 2):=
 j7 (ab8 (ab8 (r7 hp.1 hq.1) (r7 hp.2.1 hq.2.1)) (r7 hp.2.2 hq.2.2))
theorem y6 {p q : T3} {m n : Nat} (hp : tl p m) (hq : tl q n) : tl (p.cross q) (2 * (m + n) + 1):=
 ⟨j7 (cb3 (r7 hp.2.1 hq.2.2) (r7 hp.2.2 hq.2.1)),j7 (cb3 (r7 hp.2.2 hq.1) (r7 hp.1 hq.2.2)),j7 (cb3 (r7 hp.1 hq.2.1) (r7 hp.2.1 hq.1))⟩
theorem b34 {a b : Nat} (h : a ≤ b) : dl a ≤ dl b:=K8 (Nat.lt_of_le_of_lt h (B5 b))
theorem ax0 {a c : Int} {n : Nat} (ha : zl a ≤ n) (hc : zl c ≤ n) (hn : 1 ≤ n) : rl ((a : Rat) / (c : Rat)) n:=by
 by_cases h : c = 0
 ·subst h
  rw [show ((0 : Int) : Rat) = 0 from rfl,Rat.div_def,Rat.inv_zero,Rat.mul_zero]
  exact ⟨K8 (show 0 < 1000000000 ^ n from Nat.pow_pos (by decide)),Nat.le_trans (K8 (k:=1) (show 1 < 1000000000 ^ 1 by decide)) hn⟩
 have h1 : ((c : Int) : Rat).num ≠ 0:=h
 rw [ak9 _ _ h1]
 show rl (mkRat (a * (1 : Nat) * c.sign) (1 * c.natAbs)) n
 rw [Nat.one_mul]
 have hp : 0 < c.natAbs:=by omega
 obtain ⟨e1,e2,_,_⟩:=ac9 (a * (1 : Nat) * c.sign) hp
 have e3 : (a * (1 : Nat) * c.sign).natAbs = a.natAbs:=by
  rw [Int.natAbs_mul,Int.natAbs_mul,Int.natAbs_sign_of_ne_zero h]
  simp
 refine ⟨?_,?_⟩
 ·rw [e1,e3]; exact Nat.le_trans (b34 (Nat.div_le_self _ _)) ha
 rw [e2]; exact Nat.le_trans (b34 (Nat.div_le_self _ _)) hc
def il (p : T3) (n : Nat) : Prop:=∃ (k : Rat) (a b c : Int),k ≠ 0 ∧ p = ⟨k * a,k * b,k * c⟩ ∧ zl a ≤ n ∧ zl b ≤ n ∧ zl c ≤ n
theorem cg4 {a b : Int} {m n : Nat} (ha : zl a ≤ m) (hb : zl b ≤ n) : zl (a * b) ≤ m + n:=by
 refine K8 ?_
 rw [Int.natAbs_mul,Nat.pow_add]
 exact Nat.mul_lt_mul'' (Nat.lt_of_lt_of_le (B5 _) (X5 ha)) (Nat.lt_of_lt_of_le (B5 _) (X5 hb))
theorem bs5 (a : Rat) : a * (a.den : Rat) = (a.num : Rat):=by
 have h : a = Rat.divInt a.num a.den:=by rw [Rat.divInt_ofNat]; exact (Rat.mkRat_self a).symm
 rw [Rat.divInt_eq_div,Rat.intCast_natCast] at h
 have d : (a.den : Rat) ≠ 0:=by have:=a.den_pos; exact fun h=>by have:=Rat.natCast_eq_zero_iff.1 h; omega
 grind
theorem bb8 {p : T3} {n : Nat} (h : tl p n) : il p (3 * n):=by
 obtain ⟨⟨h1,h2⟩,⟨h3,h4⟩,⟨h5,h6⟩⟩:=h
 have d1 : (p.x.den : Rat) ≠ 0:=by have:=p.x.den_pos; exact fun h=>by have:=Rat.natCast_eq_zero_iff.1 h; omega
 have d2 : (p.y.den : Rat) ≠ 0:=by have:=p.y.den_pos; exact fun h=>by have:=Rat.natCast_eq_zero_iff.1 h; omega
 have d3 : (p.z.den : Rat) ≠ 0:=by have:=p.z.den_pos; exact fun h=>by have:=Rat.natCast_eq_zero_iff.1 h; omega
 have e1 : p.x * (p.x.den : Rat) = (p.x.num : Rat):=bs5 p.x
 have e2 : p.y * (p.y.den : Rat) = (p.y.num : Rat):=bs5 p.y
 have e3 : p.z * (p.z.den : Rat) = (p.z.num : Rat):=bs5 p.z
 refine ⟨1 / ((p.x.den : Rat) * p.y.den * p.z.den),p.x.num * (p.y.den : Int) * (p.z.den : Int),p.y.num * (p.x.den : Int) * (p.z.den : Int),p.z.num * (p.x.den : Int) * (p.y.den : Int),?_,?_,?_,?_,?_⟩
 ·grind
 ·ext <;> simp only [Rat.intCast_mul,Rat.intCast_natCast] <;> grind
 all_goals
  refine Nat.le_trans (cg4 (cg4 (m:=n) (n:=n) ?_ ?_) (n:=n) ?_) (by omega) <;> assumption
theorem az8 {p : T3} {n : Nat} (h : il p n) (hn : 1 ≤ n) : tl p.normal n:=by
 obtain ⟨k,a,b,c,h1,h2,h3,h4,h5⟩:=h
 have key : ∃ l : Int,zl l ≤ n ∧ p.lead = k * l:=by
  have ex : p.x = k * a:=congrArg T3.x h2
  have ey : p.y = k * b:=congrArg T3.y h2
  have ez : p.z = k * c:=congrArg T3.z h2
  unfold T3.lead
  split
  ·exact ⟨a,h3,ex⟩
  split
  ·exact ⟨b,h4,ey⟩
  exact ⟨c,h5,ez⟩
 obtain ⟨l,hl,el⟩:=key
 have ek : ∀ z : Int,k * (z : Rat) / (k * (l : Rat)) = (z : Rat) / (l : Rat):=fun z=>by
  by_cases h0 : (l : Rat) = 0
  ·rw [h0,Rat.mul_zero,Rat.div_def,Rat.div_def,Rat.inv_zero,Rat.mul_zero,Rat.mul_zero]
  grind
 have ex : p.normal.x = (a : Rat) / (l : Rat):=by rw [← ek]; simp only [T3.normal,T3.over,el]; rw [congrArg T3.x h2]
 have ey : p.normal.y = (b : Rat) / (l : Rat):=by rw [← ek]; simp only [T3.normal,T3.over,el]; rw [congrArg T3.y h2]
 have ez : p.normal.z = (c : Rat) / (l : Rat):=by rw [← ek]; simp only [T3.normal,T3.over,el]; rw [congrArg T3.z h2]
 exact ⟨ex ▸ ax0 h3 hl hn,ey ▸ ax0 h4 hl hn,ez ▸ ax0 h5 hl hn⟩
end Go.Proofs.YtmjbiocildkhnaaGreatDoor
end
section
namespace Go.Proofs.YtmjbiocildkhnaaGreatDoor
open Go Go.RowKit Tryz
inductive Ch where
 | val (x : Value)
 | ag (n : Nat) (x : Value)
 | int (k : IntKind) (z : Int)
 | lit (k : IntKind) (z : Int)
 | bb (x : Bool)
 | tp (p : Prop)
 | ptr (b o : Nat)
 | fn (g : FuncId) (cap : List (Nat ⊕ Value))
 | sl (x : Value) (m : Nat)
 | str (l : List UInt8)
 | win (b o m c : Nat)
def ar7 (β : Nat → Nat) : Nat ⊕ Value → Value
 | .inl b=>.pointer (some ⟨β b,0,none⟩)
 | .inr x=>x
noncomputable def Ch.den (β : Nat → Nat) : Ch → Value
 | .val x=>x
 | .ag _ x=>x
 | .int k z=>.int k z
 | .lit k z=>.int k z
 | .bb x=>.bool x
 | .tp p=>.bool (tst p)
 | .ptr b o=>.pointer (some ⟨β b,o,none⟩)
 | .fn g cap=>.func (.func g) #[] (cap.map (ar7 β)).toArray
 | .sl x _=>x
 | .str l=>D9 l
 | .win b o m c=>.slice (some ⟨β b,o,none⟩) m c
noncomputable def Ch.cells (β : Nat → Nat) : Ch → List Value
 | .ag _ x=>x.cells.toList
 | c=>[c.den β]
def Ch.size : Ch → Nat
 | .ag n _=>n
 | _=>1
def Ch.Ok (m : Nat) : Ch → Prop
 | .val x=>x.oneCell' = true
 | .ag n x=>∃ cs : List Value,x = .agg cs.toArray ∧ cs.length = n ∧ ∀ u ∈ cs,u.oneCell' = true
 | .ptr b _=>b < m
 | .fn _ cap=>∀ b,Sum.inl b ∈ cap → b < m
 | .sl x l=>∃ a c,x = .slice a l c ∧ l ≤ c
 | .win b _ _ _=>b < m
 | _=>True
noncomputable def f5 (β : Nat → Nat) (l : List Ch) : List Value:=l.flatMap (Ch.cells β)
def W6 : List Ch → Nat
 | []=>0
 | c :: r=>c.size + W6 r
inductive SV where
 | one (c : Ch)
 | agg (l : List Ch)
 | tup (l : List (Bool × List Ch))
 | und
noncomputable def ao0 (β : Nat → Nat) : Bool × List Ch → Value
 | (true,l)=>.agg (f5 β l).toArray
 | (false,c :: _)=>c.den β
 | (false,[])=>undef
noncomputable def SV.den (β : Nat → Nat) : SV → Value
 | .one c=>c.den β
 | .agg l=>.agg (f5 β l).toArray
 | .tup l=>.tuple (l.map (ao0 β)).toArray
 | .und=>undef
def SV.Ok (m : Nat) : SV → Prop
 | .one c=>c.Ok m
 | .agg l=>∀ c ∈ l,c.Ok m
 | .tup l=>∀ p ∈ l,∀ c ∈ p.2,c.Ok m
 | .und=>True
def SV.chunks : SV → Option (List Ch)
 | .one c=>some [c]
 | .agg l=>some l
 | _=>none
section
variable {m m' : Nat} {β β' : Nat → Nat}
theorem Ch.Ok.le {c : Ch} (h : c.Ok m) (hm : m ≤ m') : c.Ok m':=by
 cases c with
 | ptr b o=>exact Nat.lt_of_lt_of_le h hm
 | fn g cap=>exact fun b hb=>Nat.lt_of_lt_of_le (h b hb) hm
 | win b o m c=>exact Nat.lt_of_lt_of_le h hm
 | _=>exact h
theorem SV.Ok.le {s : SV} (h : s.Ok m) (hm : m ≤ m') : s.Ok m':=by
 cases s with
 | one c=>exact Ch.Ok.le (c:=c) h hm
 | agg l=>exact fun c hc=>(h c hc).le hm
 | tup l=>exact fun p hp c hc=>(h p hp c hc).le hm
 | und=>trivial
theorem Ch.cells_ok {c : Ch} (h : c.Ok m) : (c.cells β).length = c.size ∧ ∀ u ∈ c.cells β,u.oneCell' = true:=by
 cases c with
 | val x=>exact ⟨rfl,fun u hu=>by rw [List.mem_singleton.1 hu]; exact h⟩
 | ag n x=>
  obtain ⟨cs,rfl,hl,h1⟩:=h
  exact ⟨by simpa [Ch.cells,Value.cells,Ch.size] using hl,fun u hu=>h1 u (by simpa [Ch.cells,Value.cells] using hu)⟩
 | sl x l=>
  obtain ⟨a,c,rfl,_⟩:=h
  exact ⟨rfl,fun u hu=>by rw [List.mem_singleton.1 hu]; rfl⟩
 | _=>exact ⟨rfl,fun u hu=>by rw [List.mem_singleton.1 hu]; rfl⟩
theorem Ch.cells_den {c : Ch} (h : c.Ok m) : (c.den β).cells = (c.cells β).toArray:=by
 cases c with
 | val x=>exact ag9 h
 | ag n x=>obtain ⟨cs,rfl,hl,h1⟩:=h; simp [Ch.den,Ch.cells]
 | sl x l=>obtain ⟨a,c,rfl,_⟩:=h; rfl
 | _=>rfl
theorem Ch.den_congr {c : Ch} (hb : ∀ i,i < m → β i = β' i) (h : c.Ok m) : c.den β = c.den β':=by
 cases c with
 | ptr b o=>simp only [Ch.den]; rw [hb b h]
 | fn g cap=>
  simp only [Ch.den]
  congr 2
  refine List.map_congr_left fun x hx=>?_
  cases x with
  | inl b=>simp only [ar7]; rw [hb b (h b hx)]
  | inr x=>rfl
 | win b o n c=>simp only [Ch.den]; rw [hb b h]
 | _=>rfl
theorem Ch.cells_congr {c : Ch} (hb : ∀ i,i < m → β i = β' i) (h : c.Ok m) : c.cells β = c.cells β':=by
 cases c with
 | ag n x=>rfl
 | _=>exact congrArg (fun x=>[x]) (Ch.den_congr hb h)
theorem I2 {l : List Ch} (hb : ∀ i,i < m → β i = β' i) (h : ∀ c ∈ l,c.Ok m) : f5 β l = f5 β' l:=by
 induction l with
 | nil=>rfl
 | cons c r ih=>
  simp only [f5,List.flatMap_cons] at ih ⊢
  rw [Ch.cells_congr hb (h c (List.mem_cons_self ..)),ih fun c hc=>h c (List.mem_cons_of_mem _ hc)]
theorem SV.den_congr {s : SV} (hb : ∀ i,i < m → β i = β' i) (h : s.Ok m) : s.den β = s.den β':=by
 cases s with
 | one c=>exact Ch.den_congr hb h
 | agg l=>simp only [SV.den]; rw [I2 hb h]
 | tup l=>
  simp only [SV.den]
  congr 2
  refine List.map_congr_left fun p hp=>?_
  have h1:=h p hp
  obtain ⟨g,l⟩:=p
  cases g with
  | true=>simp only [ao0]; rw [I2 hb h1]
  | false=>
   cases l with
   | nil=>rfl
   | cons c r=>exact Ch.den_congr hb (h1 c (List.mem_cons_self ..))
 | und=>rfl
theorem O1 {l : List Ch} (h : ∀ c ∈ l,c.Ok m) : (f5 β l).length = W6 l:=by
 induction l with
 | nil=>rfl
 | cons c r ih=>
  have h1:=(Ch.cells_ok (β:=β) (h c (List.mem_cons_self ..))).1
  have h2:=ih fun c hc=>h c (List.mem_cons_of_mem _ hc)
  simp only [f5,List.flatMap_cons,List.length_append,W6] at h2 ⊢
  omega
theorem X0 {l : List Ch} (h : ∀ c ∈ l,c.Ok m) : ∀ u ∈ f5 β l,u.oneCell' = true:=by
 intro u hu
 obtain ⟨c,hc,hu⟩:=List.mem_flatMap.1 hu
 exact (Ch.cells_ok (h c hc)).2 u hu
theorem SV.chunks_ok {s : SV} {l : List Ch} (h : s.chunks = some l) (ok : s.Ok m) : (s.den β).cells = (f5 β l).toArray ∧ ∀ c ∈ l,c.Ok m:=by
 cases s with
 | one c=>
  simp only [SV.chunks,Option.some.injEq] at h
  subst h
  exact ⟨by simp only [SV.den,f5,List.flatMap_cons,List.flatMap_nil,List.append_nil]; exact Ch.cells_den ok,fun c hc=>by rw [List.mem_singleton.1 hc]; exact ok⟩
 | agg l'=>
  simp only [SV.chunks,Option.some.injEq] at h
  subst h
  exact ⟨rfl,ok⟩
 | tup l'=>cases h
 | und=>cases h
end
def ar9 : List Ch → Nat → Option (List Ch)
 | _,0=>some []
 | [],_ + 1=>none
 | c :: r,s=>bif Nat.ble c.size s then (ar9 r (s - c.size)).map (c :: ·) else none
def ldL : List Ch → Nat → Nat → Option (List Ch)
 | l,0,s=>ar9 l s
 | [],_ + 1,_=>none
 | c :: r,o,s=>bif Nat.ble c.size o then ldL r (o - c.size) s else none
def ak4 : List Ch → Nat → Option (List Ch)
 | l,0=>some l
 | [],_ + 1=>none
 | c :: r,s=>bif Nat.ble c.size s then ak4 r (s - c.size) else none
def stL : List Ch → Nat → Nat → List Ch → Option (List Ch)
 | l,0,s,new=>(ak4 l s).map (new ++ ·)
 | [],_ + 1,_,_=>none
 | c :: r,o,s,new=>bif Nat.ble c.size o then (stL r (o - c.size) s new).map (c :: ·) else none
def mkV : Bool → List Ch → Option SV
 | true,[.ag n x]=>some (.one (.ag n x))
 | true,l=>some (.agg l)
 | false,[.ag _ _]=>none
 | false,[c]=>some (.one c)
 | false,_=>none
section
variable {m : Nat} {β : Nat → Nat}
theorem bk0 : ∀ {l : List Ch} {s : Nat} {l' : List Ch},ar9 l s = some l' → (∀ c ∈ l,c.Ok m) → (f5 β l).take s = f5 β l' ∧ (f5 β l').length = s ∧ ∀ c ∈ l',c.Ok m:=by
 intro l
 induction l with
 | nil=>
  intro s l' h hok
  cases s with
  | zero=>simp only [ar9,Option.some.injEq] at h; subst h; exact ⟨rfl,rfl,hok⟩
  | succ s=>cases h
 | cons c r ih=>
  intro s l' h hok
  cases s with
  | zero=>simp only [ar9,Option.some.injEq] at h; subst h; exact ⟨rfl,rfl,fun _ hc=>by cases hc⟩
  | succ s=>
   simp only [ar9] at h
   cases hb : Nat.ble c.size (s + 1) with
   | false=>rw [hb] at h; cases h
   | true=>
    rw [hb] at h
    have hle:=Nat.le_of_ble_eq_true hb
    have hc:=(Ch.cells_ok (β:=β) (hok c (List.mem_cons_self ..))).1
    cases ht : ar9 r (s + 1 - c.size) with
    | none=>rw [ht] at h; cases h
    | some r'=>
     rw [ht] at h
     simp only [cond_true,Option.map_some,Option.some.injEq] at h
     subst h
     obtain ⟨h1,h2,h3⟩:=ih ht fun c hc=>hok c (List.mem_cons_of_mem _ hc)
     refine ⟨?_,?_,?_⟩
     ·simp only [f5,List.flatMap_cons] at h1 ⊢
      rw [List.take_append,hc,h1,List.take_of_length_le (by omega)]
     ·simp only [f5,List.flatMap_cons,List.length_append] at h2 ⊢
      omega
     intro d hd
     rcases List.mem_cons.1 hd with rfl | hd
     ·exact hok _ (List.mem_cons_self ..)
     exact h3 d hd
theorem cz9 : ∀ {l : List Ch} {o s : Nat} {l' : List Ch},ldL l o s = some l' → (∀ c ∈ l,c.Ok m) →
  ((f5 β l).drop o).take s = f5 β l' ∧ (f5 β l').length = s ∧ ∀ c ∈ l',c.Ok m:=by
 intro l
 induction l with
 | nil=>
  intro o s l' h hok
  cases o with
  | zero=>simp only [ldL] at h; simpa using bk0 h hok
  | succ o=>cases h
 | cons c r ih=>
  intro o s l' h hok
  cases o with
  | zero=>simp only [ldL] at h; simpa using bk0 h hok
  | succ o=>
   simp only [ldL] at h
   cases hb : Nat.ble c.size (o + 1) with
   | false=>rw [hb] at h; cases h
   | true=>
    rw [hb] at h
    simp only [cond_true] at h
    have hle:=Nat.le_of_ble_eq_true hb
    have hc:=(Ch.cells_ok (β:=β) (hok c (List.mem_cons_self ..))).1
    obtain ⟨h1,h2,h3⟩:=ih h fun c hc=>hok c (List.mem_cons_of_mem _ hc)
    refine ⟨?_,h2,h3⟩
    rw [← h1]
    simp only [f5,List.flatMap_cons]
    rw [List.drop_append,hc,List.drop_eq_nil_of_le (by omega),List.nil_append]
theorem cn5 : ∀ {l : List Ch} {s : Nat} {l' : List Ch},ak4 l s = some l' → (∀ c ∈ l,c.Ok m) → (f5 β l).drop s = f5 β l' ∧ s ≤ (f5 β l).length ∧ ∀ c ∈ l',c.Ok m:=by
 intro l
 induction l with
 | nil=>
  intro s l' h hok
  cases s with
  | zero=>simp only [ak4,Option.some.injEq] at h; subst h; exact ⟨rfl,Nat.zero_le _,hok⟩
  | succ s=>cases h
 | cons c r ih=>
  intro s l' h hok
  cases s with
  | zero=>simp only [ak4,Option.some.injEq] at h; subst h; exact ⟨rfl,Nat.zero_le _,hok⟩
  | succ s=>
   simp only [ak4] at h
   cases hb : Nat.ble c.size (s + 1) with
   | false=>rw [hb] at h; cases h
   | true=>
    rw [hb] at h
    simp only [cond_true] at h
    have hle:=Nat.le_of_ble_eq_true hb
    have hc:=(Ch.cells_ok (β:=β) (hok c (List.mem_cons_self ..))).1
    obtain ⟨h1,h2,h3⟩:=ih h fun c hc=>hok c (List.mem_cons_of_mem _ hc)
    refine ⟨?_,?_,h3⟩
    ·rw [← h1]
     simp only [f5,List.flatMap_cons]
     rw [List.drop_append,hc,List.drop_eq_nil_of_le (by omega),List.nil_append]
    simp only [f5,List.flatMap_cons,List.length_append] at h2 ⊢
    omega
theorem bq9 : ∀ {l : List Ch} {o s : Nat} {new l' : List Ch},stL l o s new = some l' → (∀ c ∈ l,c.Ok m) → (∀ c ∈ new,c.Ok m) →
  (f5 β l).take o ++ f5 β new ++ (f5 β l).drop (o + s) = f5 β l' ∧ o + s ≤ (f5 β l).length ∧ ∀ c ∈ l',c.Ok m:=by
 have base : ∀ {l : List Ch} {s : Nat} {new l' : List Ch},(ak4 l s).map (new ++ ·) = some l' → (∀ c ∈ l,c.Ok m) → (∀ c ∈ new,c.Ok m) →
   (f5 β l).take 0 ++ f5 β new ++ (f5 β l).drop (0 + s) = f5 β l' ∧ 0 + s ≤ (f5 β l).length ∧ ∀ c ∈ l',c.Ok m:=by
  intro l s new l' h hok hnew
  cases hd : ak4 l s with
  | none=>rw [hd] at h; cases h
  | some r=>
   rw [hd] at h
   simp only [Option.map_some,Option.some.injEq] at h
   subst h
   obtain ⟨h1,h2,h3⟩:=cn5 (β:=β) hd hok
   refine ⟨?_,by omega,?_⟩
   ·rw [Nat.zero_add,h1]
    simp [f5]
   intro c hc
   rcases List.mem_append.1 hc with h | h
   ·exact hnew c h
   exact h3 c h
 intro l
 induction l with
 | nil=>
  intro o s new l' h hok hnew
  cases o with
  | zero=>exact base (by simpa only [stL] using h) hok hnew
  | succ o=>cases h
 | cons c r ih=>
  intro o s new l' h hok hnew
  cases o with
  | zero=>exact base (by simpa only [stL] using h) hok hnew
  | succ o=>
   simp only [stL] at h
   cases hb : Nat.ble c.size (o + 1) with
   | false=>rw [hb] at h; cases h
   | true=>
    rw [hb] at h
    have hle:=Nat.le_of_ble_eq_true hb
    have hc:=(Ch.cells_ok (β:=β) (hok c (List.mem_cons_self ..))).1
    cases hs : stL r (o + 1 - c.size) s new with
    | none=>rw [hs] at h; cases h
    | some r'=>
     rw [hs] at h
     simp only [cond_true,Option.map_some,Option.some.injEq] at h
     subst h
     obtain ⟨h1,h2,h3⟩:=ih hs (fun c hc=>hok c (List.mem_cons_of_mem _ hc)) hnew
     refine ⟨?_,?_,?_⟩
     ·simp only [f5,List.flatMap_cons] at h1 ⊢
      rw [← h1]
      rw [List.take_append,List.drop_append,hc,List.take_of_length_le (by omega),List.drop_eq_nil_of_le (by omega),List.nil_append]
      rw [show o + 1 + s - c.size = o + 1 - c.size + s by omega]
      simp
     ·simp only [f5,List.flatMap_cons,List.length_append] at h2 ⊢
      omega
     intro d hd
     rcases List.mem_cons.1 hd with rfl | hd
     ·exact hok _ (List.mem_cons_self ..)
     exact h3 d hd
theorem c31 {g : Bool} {l : List Ch} {s : SV} (h : mkV g l = some s) (hok : ∀ c ∈ l,c.Ok m) :
  s.Ok m ∧ (g = true → s.den β = .agg (f5 β l).toArray) ∧ (g = false → f5 β l = [s.den β]):=by
 unfold mkV at h
 split at h
 ·simp only [Option.some.injEq] at h
  subst h
  have h1:=hok _ (List.mem_cons_self ..)
  refine ⟨h1,fun _=>?_,fun h=>by cases h⟩
  obtain ⟨cs,rfl,hl,h2⟩:=h1
  simp [SV.den,Ch.den,f5,Ch.cells,Value.cells]
 ·simp only [Option.some.injEq] at h
  subst h
  exact ⟨hok,fun _=>rfl,fun h=>by cases h⟩
 ·cases h
 ·rename_i c hne
  simp only [Option.some.injEq] at h
  subst h
  refine ⟨hok _ (List.mem_cons_self ..),(fun h=>by cases h),fun _=>?_⟩
  simp only [f5,List.flatMap_cons,List.flatMap_nil,List.append_nil,SV.den]
  cases c with
  | ag n x=>exact absurd rfl (hne n x)
  | _=>rfl
 cases h
end
inductive TKd where
 | int (k : IntKind)
 | bool
 | str
 | slice (e : TypeId)
 | array (n : Nat) (e : TypeId)
 | struct (fs : List (Nat × Nat × Bool))
 | iface
 | ptr (e : TypeId)
 | other
structure TI where
 size : Nat
 bytes : Nat
 agg : Bool
 zero : List Ch
 kind : TKd
abbrev Env:=List (TypeId × TI)
def Env.get : Env → TypeId → Option TI
 | [],_=>none
 | (i,t) :: r,d=>bif Nat.beq i d then some t else Env.get r d
def a88 (P : Program) : List Field → List (Nat × Nat × Bool) → Bool
 | [],[]=>true
 | f :: r,p :: q=>(Nat.beq f.offset p.1) && (match P.info? f.type with | some i=>Nat.beq i.size p.2.1 | none=>false) && (match a50 (P.underlying f.type) with | some g=>g == p.2.2 | none=>false) && a88 P r q
 | _,_=>false
def br5 (P : Program) (t : TypeId) : TKd → Prop
 | .int k=>P.underlying t = some (.int k)
 | .bool=>P.underlying t = some .bool
 | .str=>P.underlying t = some .string
 | .slice e=>P.underlying t = some (.slice e)
 | .array n e=>P.underlying t = some (.array n e)
 | .struct fs=>∃ fl : Array Field,P.underlying t = some (.struct fl) ∧ a88 P fl.toList fs = true ∧
   ∀ w,(fl.mapM fun f=>Prod.mk f.offset <$> sizeOf f.type : Sem _).run P w = .ok (fs.map fun p=>(p.1,p.2.1)).toArray w
 | .iface=>∃ ms,P.underlying t = some (.interface ms)
 | .ptr e=>P.underlying t = some (.pointer e)
 | .other=>True
structure TyOk (P : Program) (t : TypeId) (ti : TI) : Prop where
 ty : ∃ z,TyI P t ti.size ti.bytes z ti.agg ∧ z.cells = (f5 (fun _=>0) ti.zero).toArray
 ok : ∀ c ∈ ti.zero,c.Ok 0
 kind : br5 P t ti.kind
def EnvOk (P : Program) (E : Env) : Prop:=∀ p ∈ E,TyOk P p.1 p.2
theorem EnvOk.get {P : Program} {E : Env} (h : EnvOk P E) : ∀ {t : TypeId} {ti : TI},E.get t = some ti → TyOk P t ti:=by
 induction E with
 | nil=>intro t ti h; cases h
 | cons p r ih=>
  obtain ⟨i,u⟩:=p
  intro t ti hg
  simp only [Env.get] at hg
  cases hb : Nat.beq i t with
  | true=>
   rw [hb] at hg
   simp only [cond_true,Option.some.injEq] at hg
   subst hg
   obtain rfl:=Nat.eq_of_beq_eq_true hb
   exact h _ (List.mem_cons_self ..)
  | false=>
   rw [hb] at hg
   exact ih (fun p hp=>h p (List.mem_cons_of_mem _ hp)) hg
theorem a47 {P : Program} : ∀ {fl : List Field} {fs : List (Nat × Nat × Bool)},a88 P fl fs = true → ∀ (f : Nat) (p : Nat × Nat × Bool),fs[f]? = some p →
  ∃ fd i,fl[f]? = some fd ∧ fd.offset = p.1 ∧ P.info? fd.type = some i ∧ i.size = p.2.1 ∧ a50 (P.underlying fd.type) = some p.2.2:=by
 intro fl
 induction fl with
 | nil=>
  intro fs h f p hp
  cases fs with
  | nil=>simp at hp
  | cons q r=>cases h
 | cons a r ih=>
  intro fs h f p hp
  cases fs with
  | nil=>cases h
  | cons q r'=>
   simp only [a88,Bool.and_eq_true] at h
   obtain ⟨⟨⟨h1,h2⟩,h3⟩,h4⟩:=h
   cases f with
   | zero=>
    simp only [List.getElem?_cons_zero,Option.some.injEq] at hp
    subst hp
    cases hi : P.info? a.type with
    | none=>rw [hi] at h2; cases h2
    | some i=>
     rw [hi] at h2
     cases hg : a50 (P.underlying a.type) with
     | none=>rw [hg] at h3; cases h3
     | some g=>
      rw [hg] at h3
      exact ⟨a,i,rfl,Nat.eq_of_beq_eq_true h1,hi,Nat.eq_of_beq_eq_true h2,by rw [hg]; simpa using h3⟩
   | succ f=>
    simp only [List.getElem?_cons_succ] at hp ⊢
    exact ih h4 f p hp
structure AbsE where
 Q : Nat → Prop
 R : World → Prop
 frame : ∀ w w',R w → w.heap.size ≤ w'.heap.size → (∀ k,Q k → w'.heap[k]? = w.heap[k]?) → R w'
inductive HE where
 | blk (T : TypeId) (l : List Ch)
 | row (T : TypeId) (s : Nat) (v : Value) (n : Nat) (cs : List Value)
 | gone
 | abs (A : AbsE)
 | hid (T : TypeId) (l : List Ch)
structure Bs where
 n : Nat
 K : Nat → Prop
 m : Nat
 b : Nat → Nat
abbrev Bs.of (n : Nat) (K : Nat → Prop) : Bs:=⟨n,K,0,fun _=>0⟩
def H4 : List (Nat × SV) → Nat → Option SV
 | [],_=>none
 | (i,s) :: r,d=>bif Nat.beq i d then some s else H4 r d
def nth : List HE → Nat → Option HE
 | [],_=>none
 | h :: _,0=>some h
 | _ :: r,i + 1=>nth r i
def Y4 : List HE → Nat → HE → List HE
 | [],_,_=>[]
 | _ :: r,0,x=>x :: r
 | h :: r,i + 1,x=>h :: Y4 r i x
theorem M1 : ∀ (l : List HE) (i : Nat),nth l i = l[i]?:=by
 intro l
 induction l with
 | nil=>intro i; simp [nth]
 | cons h r ih=>intro i; cases i with
  | zero=>simp [nth]
  | succ i=>simp [nth,ih]
theorem N5 : ∀ (l : List HE) (i : Nat) (x : HE),Y4 l i x = l.set i x:=by
 intro l
 induction l with
 | nil=>intro i x; simp [Y4]
 | cons h r ih=>intro i x; cases i with
  | zero=>simp [Y4]
  | succ i=>simp [Y4,ih]
def ar2 : Value → Option Ch
 | .int k z=>some (.lit k z)
 | .bool x=>some (.bb x)
 | .string s=>some (.str s.data.toList)
 | .slice a m c=>bif Nat.ble m c then some (.sl (.slice a m c) m) else none
 | .agg _=>none
 | .tuple _=>none
 | .float k x=>some (.val (.float k x))
 | .complex k x y=>some (.val (.complex k x y))
 | .pointer x=>some (.val (.pointer x))
 | .map x=>some (.val (.map x))
 | .chan x=>some (.val (.chan x))
 | .func f a b=>some (.val (.func f a b))
 | .nilFunc=>some (.val .nilFunc)
 | .iface t x=>some (.val (.iface t x))
 | .nilIface=>some (.val .nilIface)
def b31 : List Value → Option (List Ch)
 | []=>some []
 | x :: r=>match ar2 x,b31 r with | some c,some l=>some (c :: l) | _,_=>none
def di8 : Value → Option SV
 | .agg cs=>(b31 cs.toList).map .agg
 | .tuple cs=>match cs.toList with | []=>some .und | _=>none
 | x=>(ar2 x).map .one
def opd (fr : List (Nat × SV)) : Operand → Option SV
 | .tmp t=>H4 fr t
 | .const v=>di8 v
 | .global g=>some (.one (.val (.pointer (some ⟨g,0,none⟩))))
 | .func f=>some (.one (.fn f []))
theorem bh8 {β : Nat → Nat} {m : Nat} {x : Value} {c : Ch} (h : ar2 x = some c) : c.den β = x ∧ c.Ok m ∧ x.oneCell' = true:=by
 cases x <;> simp only [ar2,Option.some.injEq] at h
 case string s=>subst h; exact ⟨by show Value.string ⟨s.data.toList.toArray⟩ = _; simp,trivial,rfl⟩
 case slice a n k=>
  cases hb : Nat.ble n k with
  | false=>rw [hb] at h; cases h
  | true=>
   rw [hb] at h
   simp only [cond_true,Option.some.injEq] at h
   subst h
   exact ⟨rfl,⟨_,_,rfl,Nat.le_of_ble_eq_true hb⟩,rfl⟩
 case agg=>cases h
 case tuple=>cases h
 all_goals (subst h; exact ⟨rfl,(by first | trivial | rfl),rfl⟩)
theorem ci1 {β : Nat → Nat} {m : Nat} : ∀ {l : List Value} {r : List Ch},b31 l = some r → f5 β r = l ∧ ∀ c ∈ r,c.Ok m:=by
 intro l
 induction l with
 | nil=>intro r h; simp only [b31,Option.some.injEq] at h; subst h; exact ⟨rfl,fun _ hc=>by cases hc⟩
 | cons x r ih=>
  intro q h
  simp only [b31] at h
  cases h1 : ar2 x with
  | none=>rw [h1] at h; cases h
  | some c=>
   cases h2 : b31 r with
   | none=>rw [h1,h2] at h; cases h
   | some l=>
    rw [h1,h2] at h
    simp only [Option.some.injEq] at h
    subst h
    obtain ⟨e1,e2,e3⟩:=bh8 (β:=β) (m:=m) h1
    obtain ⟨e4,e5⟩:=ih h2
    refine ⟨?_,?_⟩
    ·simp only [f5,List.flatMap_cons] at e4 ⊢
     rw [e4]
     have h3:=Ch.cells_den (β:=β) e2
     rw [e1,ag9 e3] at h3
     have h4:=congrArg Array.toList h3
     simp only at h4
     rw [← h4]
     rfl
    intro d hd
    rcases List.mem_cons.1 hd with rfl | hd
    ·exact e2
    exact e5 d hd
theorem di7 {β : Nat → Nat} {m : Nat} {x : Value} {s : SV} (h : di8 x = some s) : x = s.den β ∧ s.Ok m:=by
 have one : ∀ {x : Value} {s : SV},(ar2 x).map .one = some s → x = s.den β ∧ s.Ok m:=by
  intro x s h
  cases h1 : ar2 x with
  | none=>rw [h1] at h; cases h
  | some c=>
   rw [h1] at h
   simp only [Option.map_some,Option.some.injEq] at h
   subst h
   obtain ⟨e1,e2,_⟩:=bh8 (β:=β) (m:=m) h1
   exact ⟨e1.symm,e2⟩
 cases x
 case agg cs=>
  simp only [di8] at h
  cases h1 : b31 cs.toList with
  | none=>rw [h1] at h; cases h
  | some l=>
   rw [h1] at h
   simp only [Option.map_some,Option.some.injEq] at h
   subst h
   obtain ⟨e1,e2⟩:=ci1 (β:=β) (m:=m) h1
   exact ⟨by simp [SV.den,e1],e2⟩
 case tuple cs=>
  simp only [di8] at h
  split at h
  ·rename_i h1
   simp only [Option.some.injEq] at h
   subst h
   refine ⟨?_,trivial⟩
   have : cs = #[]:=by simpa using h1
   subst this
   rfl
  cases h
 all_goals exact one h
def Kn (β : Nat → Nat) (m : Nat) (x : Option SV) (v : Value) : Prop:=∀ s,x = some s → v = s.den β ∧ s.Ok m
theorem ab1 {β : Nat → Nat} {m : Nat} {fr : List (Nat × SV)} {ρ : Fr} {x : Operand} (h : ∀ t,x = .tmp t → Kn β m (H4 fr t) (ρ t)) : Kn β m (opd fr x) (ev ρ x):=by
 cases x with
 | tmp t=>exact h t rfl
 | const v=>intro s hs; exact di7 hs
 | global g=>intro s hs; simp only [opd,Option.some.injEq] at hs; subst hs; exact ⟨rfl,rfl⟩
 | func f=>
  intro s hs
  simp only [opd,Option.some.injEq] at hs
  subst hs
  exact ⟨rfl,fun b hb=>by cases hb⟩
def InR : IntKind → Int → Prop
 | .i8,z=>-128 ≤ z ∧ z ≤ 127
 | .i16,z=>-32768 ≤ z ∧ z ≤ 32767
 | .i32,z=>-2147483648 ≤ z ∧ z ≤ 2147483647
 | .i64,z=>-9223372036854775808 ≤ z ∧ z ≤ 9223372036854775807
 | .u8,z=>0 ≤ z ∧ z ≤ 255
 | .u16,z=>0 ≤ z ∧ z ≤ 65535
 | .u32,z=>0 ≤ z ∧ z ≤ 4294967295
 | .u64,z=>0 ≤ z ∧ z ≤ 18446744073709551615
theorem InR.wrap {k : IntKind} {z : Int} (h : InR k z) : k.wrap z = z:=by
 cases k <;> simp only [InR] at h <;> simp [IntKind.wrap,IntKind.signed,IntKind.bits] <;> omega
def L5 : List Prop → Prop
 | []=>True
 | p :: r=>p ∧ L5 r
theorem a41 {a b : List Prop} : L5 (a ++ b) ↔ L5 a ∧ L5 b:=by
 induction a with
 | nil=>simp [L5]
 | cons p r ih=>simp [L5,ih,and_assoc]
inductive Eff where
 | put (s : SV) (vc : List Prop)
 | mk (T : TypeId) (l : List Ch) (s : SV)
 | wr (b : Nat) (l : List Ch)
def cj0 : Value → Option (List Ch)
 | .agg cs=>b31 cs.toList
 | x=>(ar2 x).map fun c=>[c]
def r8 (z : Value) : List Ch:=(cj0 z).getD []
theorem b01 {β : Nat → Nat} {m : Nat} {z : Value} {l : List Ch} (h : cj0 z = some l) : z.cells = (f5 β l).toArray ∧ ∀ c ∈ l,c.Ok m:=by
 have one : ∀ {x : Value},(ar2 x).map (fun c=>[c]) = some l → x.cells = (f5 β l).toArray ∧ ∀ c ∈ l,c.Ok m:=by
  intro x h
  cases h1 : ar2 x with
  | none=>rw [h1] at h; cases h
  | some c=>
   rw [h1] at h
   simp only [Option.map_some,Option.some.injEq] at h
   subst h
   obtain ⟨e1,e2,e3⟩:=bh8 (β:=β) (m:=m) h1
   refine ⟨?_,fun d hd=>by rw [List.mem_singleton.1 hd]; exact e2⟩
   have:=Ch.cells_den (β:=β) e2
   rw [e1] at this
   simpa [f5] using this
 cases z
 case agg cs=>
  obtain ⟨e1,e2⟩:=ci1 (β:=β) (m:=m) h
  exact ⟨by rw [e1]; simp [Value.cells],e2⟩
 all_goals exact one h
theorem z8 {P : Program} {t : TypeId} {s b : Nat} {z : Value} {g : Bool} {kd : TKd} (ty : TyI P t s b z g) (hz : (cj0 z).isSome = true) (hk : br5 P t kd) : TyOk P t ⟨s,b,g,r8 z,kd⟩:=by
 cases h : cj0 z with
 | none=>rw [h] at hz; cases hz
 | some l=>
  have e : r8 z = l:=by unfold r8; rw [h]; rfl
  rw [e]
  exact ⟨⟨z,ty,(b01 (m:=0) h).1⟩,(b01 (β:=fun _=>0) h).2,hk⟩
theorem cq0 {P : Program} : EnvOk P []:=fun p hp=>by cases hp
theorem p6 {P : Program} {p : TypeId × TI} {E : Env} (h : TyOk P p.1 p.2) (r : EnvOk P E) : EnvOk P (p :: E):=fun q hq=>by
 rcases List.mem_cons.1 hq with rfl | hq
 ·exact h
 exact r q hq
def ac7 (P : Program) (ρ : Operand → Value) (o : Op) (ty : TypeId) (w : World) (v : Value) : Prop:=∀ d pos aft g,(execOp ρ ⟨d,o,ty,pos,aft,g⟩).run P w = .ok (.value v) w
section
variable {P : Program} {E : Env} {β : Nat → Nat} {m : Nat} {w : World} {ty : TypeId} {ρ : Operand → Value}
def bq2 : Option SV → Option SV → Option SV → Option Eff
 | some (.one (.bb true)),x,_=>x.map fun s=>.put s []
 | some (.one (.bb false)),_,y=>y.map fun s=>.put s []
 | _,_,_=>none
theorem F2 {s s' : SV} {vc vc' : List Prop} (h : Eff.put s vc = Eff.put s' vc') : s = s' ∧ vc = vc':=by cases h; exact ⟨rfl,rfl⟩
theorem an2 {x : Option SV} {s : SV} {vc : List Prop} (h : (x.map fun s=>Eff.put s []) = some (.put s vc)) : x = some s:=by
 cases x with
 | none=>cases h
 | some y=>simp only [Option.map_some,Option.some.injEq] at h; rw [(F2 h).1]
theorem b82 {c x y : Operand} {cs xs ys : Option SV} {s : SV} {vc : List Prop} (hc : Kn β m cs (ρ c)) (hx : Kn β m xs (ρ x)) (hy : Kn β m ys (ρ y)) (h : bq2 cs xs ys = some (.put s vc)) :
  ac7 P ρ (.pick c x y) ty w (s.den β) ∧ s.Ok m:=by
 unfold bq2 at h
 split at h
 ·have h1:=hc _ rfl
  have h2:=hx _ (an2 h)
  refine ⟨fun d pos aft g=>?_,h2.2⟩
  simp [execOp,h1.1,SV.den,Ch.den,asBool,h2.1]
 ·have h1:=hc _ rfl
  have h2:=hy _ (an2 h)
  refine ⟨fun d pos aft g=>?_,h2.2⟩
  simp [execOp,h1.1,SV.den,Ch.den,asBool,h2.1]
 cases h
def arr (x : Ch) (p : Prop) : Option (Ch × List Prop):=some (x,[p])
def pur (x : Ch) : Option (Ch × List Prop):=some (x,[])
def b77 (op : BinOp) (k : IntKind) (a b : Int) : Option (Ch × List Prop):=
 match op with
 | .add=>pur (.lit k (k.wrap (a + b)))
 | .sub=>pur (.lit k (k.wrap (a - b)))
 | .mul=>pur (.lit k (k.wrap (a * b)))
 | .quo=>bif decide (b = 0) then none else pur (.lit k (k.wrap (a.tdiv b)))
 | .rem=>bif decide (b = 0) then none else pur (.lit k (a.tmod b))
 | .eql=>pur (.bb (decide (a = b)))
 | .neq=>pur (.bb (!decide (a = b)))
 | .lss=>pur (.bb (decide (a < b)))
 | .leq=>pur (.bb (decide (a ≤ b)))
 | .gtr=>pur (.bb (decide (b < a)))
 | .geq=>pur (.bb (decide (b ≤ a)))
 | _=>none
def bf3 (op : BinOp) (k : IntKind) (a b : Int) : Option (Ch × List Prop):=
 match op with
 | .add=>arr (.int k (a + b)) (InR k (a + b))
 | .sub=>arr (.int k (a - b)) (InR k (a - b))
 | .mul=>arr (.int k (a * b)) (InR k (a * b))
 | .quo=>arr (.int k (a / b)) (0 ≤ a ∧ 0 < b ∧ InR k (a / b))
 | .rem=>arr (.int k (a % b)) (0 ≤ a ∧ 0 < b)
 | .eql=>pur (.tp (a = b))
 | .neq=>pur (.tp (a ≠ b))
 | .lss=>pur (.tp (a < b))
 | .leq=>pur (.tp (a ≤ b))
 | .gtr=>pur (.tp (b < a))
 | .geq=>pur (.tp (b ≤ a))
 | _=>none
def a07 : Ch → Option Prop
 | .bb x=>some (x = true)
 | .tp p=>some p
 | _=>none
def bu2 (op : BinOp) (x y : Ch) : Option (Ch × List Prop):=
 match a07 x,a07 y with
 | some p,some q=>match op with
  | .eql=>pur (.tp (p ↔ q))
  | .neq=>pur (.tp (¬ (p ↔ q)))
  | _=>none
 | _,_=>none
def ca1 (op : BinOp) (a b : List UInt8) : Option (Ch × List Prop):=
 match op with
 | .eql=>pur (.tp (a = b))
 | .neq=>pur (.tp (a ≠ b))
 | .add=>arr (.str (a ++ b)) (a.length + b.length ≤ 9223372036854775807)
 | _=>none
def ck4 (E : Env) (t : TypeId) : Bool:=match E.get t with | some ti=>(match ti.kind with | .bool=>true | _=>false) | none=>false
def do5 (E : Env) (op : BinOp) (t : TypeId) : Ch → Ch → Option (Ch × List Prop)
 | .lit k a,.lit k' b=>bif decide (k = k') then b77 op k a b else none
 | .lit k a,.int k' b=>bif decide (k = k') then bf3 op k a b else none
 | .int k a,.lit k' b=>bif decide (k = k') then bf3 op k a b else none
 | .int k a,.int k' b=>bif decide (k = k') then bf3 op k a b else none
 | .str a,.str b=>ca1 op a b
 | x,y=>bif ck4 E t then bu2 op x y else none
theorem co8 {op : BinOp} {k : IntKind} {a b : Int} {c : Ch} {vc : List Prop} (h : b77 op k a b = some (c, vc)) :
    (binOp op 0 (.int k a) (.int k b)).run P w = .ok (c.den β) w ∧ c.Ok m ∧ (∀ t, (binOp op t (.int k a) (.int k b)) = binOp op 0 (.int k a) (.int k b)) := by
  have hb0 : ∀ {x : Option (Ch × List Prop)}, (bif decide (b = 0) then none else x) = some (c, vc) → b ≠ 0 ∧ x = some (c, vc) := by
    intro x h
    by_cases e : b = 0
    · rw [decide_eq_true e] at h; cases h
    · rw [decide_eq_false e] at h; exact ⟨e, h⟩
  cases op <;> simp only [b77, pur, Option.some.injEq, Prod.mk.injEq] at h
  case quo =>
    obtain ⟨h1, h2⟩ := hb0 h
    simp only [Option.some.injEq, Prod.mk.injEq] at h2
    obtain ⟨rfl, rfl⟩ := h2
    exact ⟨by simp [binOp, Op.intDiv, h1, Ch.den], trivial, fun t => rfl⟩
  case rem =>
    obtain ⟨h1, h2⟩ := hb0 h
    simp only [Option.some.injEq, Prod.mk.injEq] at h2
    obtain ⟨rfl, rfl⟩ := h2
    exact ⟨by simp [binOp, Op.intDiv, h1, Ch.den], trivial, fun t => rfl⟩
  all_goals first
    | (cases h; done)
    | (obtain ⟨rfl, rfl⟩ := h
       exact ⟨by simp [binOp, Op.intArith, Op.intCmp, Ch.den]; try (first | rfl | (by_cases e : a = b <;> simp [e, bne])), trivial, fun t => rfl⟩)
theorem a30 {op : BinOp} {k : IntKind} {a b : Int} {c : Ch} {vc : List Prop} (h : bf3 op k a b = some (c,vc)) (hv : L5 vc) :
  (binOp op 0 (.int k a) (.int k b)).run P w = .ok (c.den β) w ∧ c.Ok m ∧ (∀ t,(binOp op t (.int k a) (.int k b)) = binOp op 0 (.int k a) (.int k b)):=by
 have e1 : (a == b) = tst (a = b):=by rw [← N9,Bool.eq_iff_iff]; simp
 have e2 : (a != b) = tst (a ≠ b):=by rw [← N9,Bool.eq_iff_iff]; simp
 cases op <;> simp only [bf3,pur,arr,Option.some.injEq,Prod.mk.injEq] at h
 all_goals first
  | (cases h; done)
  | skip
 case quo=>
  obtain ⟨rfl,rfl⟩:=h
  obtain ⟨⟨h0,h1,h2⟩,_⟩:=hv
  exact ⟨by simp [binOp,Op.intDiv,show b ≠ 0 by omega,Ch.den,bg2 h0,h2.wrap],trivial,fun t=>rfl⟩
 case rem=>
  obtain ⟨rfl,rfl⟩:=h
  obtain ⟨⟨h0,h1⟩,_⟩:=hv
  exact ⟨by simp [binOp,Op.intDiv,show b ≠ 0 by omega,Ch.den,b06 h0],trivial,fun t=>rfl⟩
 case add=>obtain ⟨rfl,rfl⟩:=h; exact ⟨by simp [binOp,Op.intArith,Ch.den,InR.wrap hv.1],trivial,fun t=>rfl⟩
 case sub=>obtain ⟨rfl,rfl⟩:=h; exact ⟨by simp [binOp,Op.intArith,Ch.den,InR.wrap hv.1],trivial,fun t=>rfl⟩
 case mul=>obtain ⟨rfl,rfl⟩:=h; exact ⟨by simp [binOp,Op.intArith,Ch.den,InR.wrap hv.1],trivial,fun t=>rfl⟩
 all_goals
  obtain ⟨rfl,rfl⟩:=h
  exact ⟨by simp [binOp,Op.intCmp,Ch.den,e1,e2,N9],trivial,fun t=>rfl⟩
theorem bk2 {c : Ch} {p : Prop} (h : a07 c = some p) : c.den β = .bool (tst p):=by
 cases c <;> simp only [a07,Option.some.injEq] at h <;> first | (cases h; done) | skip
 case bb x=>subst h; cases x; exact congrArg Value.bool (l6 (by simp)).symm; exact congrArg Value.bool (l9 rfl).symm
 case tp q=>subst h; rfl
theorem b67 {op : BinOp} {x y c : Ch} {t : TypeId} {vc : List Prop} (ht : P.underlying t = some .bool) (h : bu2 op x y = some (c,vc)) :
  (binOp op t (x.den β) (y.den β)).run P w = .ok (c.den β) w ∧ c.Ok m ∧ (∃ u u',x.den β = .bool u ∧ y.den β = .bool u'):=by
 have bt : BoolT P t:=⟨ht⟩
 unfold bu2 at h
 cases hx : a07 x with
 | none=>rw [hx] at h; cases h
 | some p=>
  cases hy : a07 y with
  | none=>rw [hx,hy] at h; cases h
  | some q=>
   rw [hx,hy] at h
   have e1:=bk2 (β:=β) hx
   have e2:=bk2 (β:=β) hy
   have e3 : (tst p == tst q) = tst (p ↔ q):=by
    by_cases hp : p <;> by_cases hq : q
    ·rw [l9 hp,l9 hq,l9 ⟨fun _=>hq,fun _=>hp⟩]; rfl
    ·rw [l9 hp,l6 hq,l6 fun h=>hq (h.1 hp)]; rfl
    ·rw [l6 hp,l9 hq,l6 fun h=>hp (h.2 hq)]; rfl
    rw [l6 hp,l6 hq,l9 ⟨fun h=>(hp h).elim,fun h=>(hq h).elim⟩]; rfl
   cases op <;> simp only [pur,Option.some.injEq,Prod.mk.injEq] at h <;> first | (cases h; done) | skip
   ·obtain ⟨rfl,rfl⟩:=h
    rw [e1,e2]
    exact ⟨by simp [binOp,ah5,Ch.den,e3],trivial,_,_,rfl,rfl⟩
   obtain ⟨rfl,rfl⟩:=h
   rw [e1,e2]
   exact ⟨by simp [binOp,ah5,Ch.den,e3,bne,a87],trivial,_,_,rfl,rfl⟩
theorem cl8 {op : BinOp} {a b : List UInt8} {c : Ch} {vc : List Prop} (h : ca1 op a b = some (c,vc)) (hv : L5 vc) :
  (binOp op 0 (D9 a) (D9 b)).run P w = .ok (c.den β) w ∧ c.Ok m ∧ (∀ t,(binOp op t (D9 a) (D9 b)) = binOp op 0 (D9 a) (D9 b)):=by
 have e0 : (a == b) = tst (a = b):=by
  rw [← N9,Bool.eq_iff_iff]
  simp
 cases op <;> simp only [ca1,pur,arr,Option.some.injEq,Prod.mk.injEq] at h <;> first | (cases h; done) | skip
 ·obtain ⟨rfl,rfl⟩:=h
  have h1 : ¬ (((⟨a.toArray⟩ : ByteArray).size + (⟨b.toArray⟩ : ByteArray).size : Nat) : Int) > IntKind.i64.max:=by
   show ¬ ((a.toArray.size + b.toArray.size : Nat) : Int) > IntKind.i64.max
   have:=hv.1
   simp [IntKind.max,IntKind.signed,IntKind.bits]
   omega
  have h2 : (⟨a.toArray⟩ : ByteArray) ++ ⟨b.toArray⟩ = ⟨(a ++ b).toArray⟩:=by
   apply ByteArray.ext
   simp
  exact ⟨by simp only [binOp,Op.stringOp,if_neg h1,h2,Ch.den]; simp,trivial,fun t=>rfl⟩
 ·obtain ⟨rfl,rfl⟩:=h
  exact ⟨by simp [binOp,Op.stringOp,Ch.den,e0],trivial,fun t=>rfl⟩
 obtain ⟨rfl,rfl⟩:=h
 exact ⟨by simp [binOp,Op.stringOp,Ch.den,bne,e0,a87],trivial,fun t=>rfl⟩
end
section
variable {P : Program} {E : Env} {β : Nat → Nat} {m : Nat} {w : World} {ty : TypeId} {ρ : Operand → Value}
def cc4 (E : Env) (op : BinOp) (t : TypeId) : Option SV → Option SV → Option Eff
 | some (.one x),some (.one y)=>(do5 E op t x y).map fun r=>.put (.one r.1) r.2
 | _,_=>none
theorem cm0 {op : BinOp} {t t' : TypeId} {x y : Operand} {xs ys : Option SV} {s : SV} {vc : List Prop} (hE : EnvOk P E) (hx : Kn β m xs (ρ x)) (hy : Kn β m ys (ρ y)) (h : cc4 E op t xs ys = some (.put s vc)) (hv : L5 vc) :
  ac7 P ρ (.binOp op t x y t') ty w (s.den β) ∧ s.Ok m:=by
 unfold cc4 at h
 split at h
 ·rename_i cx cy
  have h1:=(hx _ rfl).1
  have h2:=(hy _ rfl).1
  simp only [SV.den] at h1 h2
  cases hb : do5 E op t cx cy with
  | none=>rw [hb] at h; cases h
  | some r=>
   obtain ⟨c,vc'⟩:=r
   rw [hb] at h
   simp only [Option.map_some,Option.some.injEq] at h
   obtain ⟨rfl,rfl⟩:=F2 h
   unfold do5 at hb
   have hk : ∀ {k k' : IntKind} {o : Option (Ch × List Prop)},(bif decide (k = k') then o else none) = some (c,vc') → k = k' ∧ o = some (c,vc'):=by
    intro k k' o h
    by_cases e : k = k'
    ·rw [decide_eq_true e] at h; exact ⟨e,h⟩
    rw [decide_eq_false e] at h; cases h
   have num : ∀ {k : IntKind} {a b : Int},ρ x = .int k a → ρ y = .int k b → (binOp op 0 (.int k a) (.int k b)).run P w = .ok (c.den β) w ∧ c.Ok m ∧ (∀ t,(binOp op t (.int k a) (.int k b)) = binOp op 0 (.int k a) (.int k b)) →
     ac7 P ρ (.binOp op t x y t') ty w ((SV.one c).den β) ∧ (SV.one c).Ok m:=by
    intro k a b e1 e2 hr
    refine ⟨fun d pos aft g=>?_,hr.2.1⟩
    have e3 : (eqGuard op t x y (.int k a) (.int k b)).run P w = .ok () w:=by cases op <;> rfl
    simp [execOp,e1,e2,e3,hr.2.2 t,hr.1,SV.den]
   split at hb
   ·obtain ⟨hkk,hb2⟩:=hk hb; subst hkk; exact num h1 h2 (co8 hb2)
   ·obtain ⟨hkk,hb2⟩:=hk hb; subst hkk; exact num h1 h2 (a30 hb2 hv)
   ·obtain ⟨hkk,hb2⟩:=hk hb; subst hkk; exact num h1 h2 (a30 hb2 hv)
   ·obtain ⟨hkk,hb2⟩:=hk hb; subst hkk; exact num h1 h2 (a30 hb2 hv)
   ·rename_i a b
    have hr:=cl8 (P:=P) (β:=β) (m:=m) (w:=w) hb hv
    refine ⟨fun d pos aft g=>?_,hr.2.1⟩
    simp only [Ch.den] at h1 h2
    have e3 : (eqGuard op t x y (D9 a) (D9 b)).run P w = .ok () w:=by cases op <;> rfl
    simp [execOp,h1,h2,e3,hr.2.2 t,hr.1,SV.den]
   unfold ck4 at hb
   cases ht : E.get t with
   | none=>rw [ht] at hb; cases hb
   | some ti=>
    simp only [ht] at hb
    have hkd:=(hE.get ht).kind
    cases hk2 : ti.kind <;> simp only [hk2] at hb hkd <;> first | (cases hb; done) | skip
    simp only [cond_true] at hb
    obtain ⟨hr1,hr2,u,u',e4,e5⟩:=b67 (P:=P) (β:=β) (m:=m) (w:=w) hkd hb
    refine ⟨fun d pos aft g=>?_,hr2⟩
    have e3 : (eqGuard op t x y (ρ x) (ρ y)).run P w = .ok () w:=by rw [h1,h2,e4,e5]; cases op <;> rfl
    simp [execOp,e3]
    rw [h1,h2,hr1]
    rfl
 cases h
def cy8 (op : UnOp) : Option SV → Option Eff
 | some (.one (.bb x))=>match op with | .not=>some (.put (.one (.bb (!x))) []) | _=>none
 | some (.one (.tp p))=>match op with | .not=>some (.put (.one (.tp (¬ p))) []) | _=>none
 | some (.one (.lit k z))=>match op with | .neg=>some (.put (.one (.lit k (k.wrap (0 - z)))) []) | _=>none
 | some (.one (.int k z))=>match op with | .neg=>some (.put (.one (.int k (0 - z))) [InR k (0 - z)]) | _=>none
 | _=>none
theorem cy7 {op : UnOp} {t : TypeId} {x : Operand} {xs : Option SV} {s : SV} {vc : List Prop} (hx : Kn β m xs (ρ x)) (h : cy8 op xs = some (.put s vc)) (hv : L5 vc) :
  ac7 P ρ (.unOp op t x) ty w (s.den β) ∧ s.Ok m:=by
 unfold cy8 at h
 split at h
 ·have h1:=(hx _ rfl).1
  cases op <;> simp only [Option.some.injEq] at h <;> first | (cases h; done) | skip
  obtain ⟨rfl,rfl⟩:=F2 h
  exact ⟨fun d pos aft g=>by simp [execOp,h1,SV.den,Ch.den,Op.unary],trivial⟩
 ·have h1:=(hx _ rfl).1
  cases op <;> simp only [Option.some.injEq] at h <;> first | (cases h; done) | skip
  obtain ⟨rfl,rfl⟩:=F2 h
  exact ⟨fun d pos aft g=>by simp [execOp,h1,SV.den,Ch.den,Op.unary,a87],trivial⟩
 ·have h1:=(hx _ rfl).1
  cases op <;> simp only [Option.some.injEq] at h <;> first | (cases h; done) | skip
  obtain ⟨rfl,rfl⟩:=F2 h
  exact ⟨fun d pos aft g=>by simp [execOp,h1,SV.den,Ch.den,Op.unary,Op.intArith],trivial⟩
 ·have h1:=(hx _ rfl).1
  cases op <;> simp only [Option.some.injEq] at h <;> first | (cases h; done) | skip
  obtain ⟨rfl,rfl⟩:=F2 h
  have h2:=hv.1.wrap
  exact ⟨fun d pos aft g=>by simp [execOp,h1,SV.den,Ch.den,Op.unary,Op.intArith]; simpa using h2,trivial⟩
 cases h
def B8 (E : Env) (t : TypeId) : TKd:=match E.get t with | some ti=>ti.kind | none=>.other
theorem D2 {t : TypeId} (hE : EnvOk P E) : br5 P t (B8 E t):=by
 unfold B8
 cases h : E.get t with
 | none=>trivial
 | some ti=>exact (hE.get h).kind
def br9 (E : Env) (src dst : TypeId) : Option SV → Option Eff
 | some (.one (.lit _ z))=>match B8 E src,B8 E dst with | .int _,.int k=>some (.put (.one (.lit k (k.wrap z))) []) | _,_=>none
 | some (.one (.int _ z))=>match B8 E src,B8 E dst with | .int j,.int k=>bif j.signed && !k.signed then some (.put (.one (.int k (k.wrap z))) []) else some (.put (.one (.int k z)) [InR k z]) | _,_=>none
 | some (.one (.str l))=>match B8 E src,B8 E dst with | .str,.str=>some (.put (.one (.str l)) []) | _,_=>none
 | _=>none
theorem b55 {src dst : TypeId} {x : Operand} {xs : Option SV} {s : SV} {vc : List Prop} (hE : EnvOk P E) (hx : Kn β m xs (ρ x)) (h : br9 E src dst xs = some (.put s vc)) (hv : L5 vc) :
  ac7 P ρ (.convert src dst x) ty w (s.den β) ∧ s.Ok m:=by
 have h2:=D2 (t:=src) hE
 have h3:=D2 (t:=dst) hE
 unfold br9 at h
 split at h
 ·have h1:=(hx _ rfl).1
  split at h <;> first | (cases h; done) | skip
  rename_i e1 e2
  rw [e1] at h2
  rw [e2] at h3
  simp only [Option.some.injEq] at h
  obtain ⟨rfl,rfl⟩:=F2 h
  exact ⟨fun d pos aft g=>by simp [execOp,h1,SV.den,Ch.den,convert,run_underlying h2,run_underlying h3,Conv.intToInt],trivial⟩
 ·have h1:=(hx _ rfl).1
  split at h <;> first | (cases h; done) | skip
  rename_i j k e1 e2
  rw [e1] at h2
  rw [e2] at h3
  cases hb : (j.signed && !k.signed) with
  | true=>
   rw [hb] at h
   simp only [cond_true,Option.some.injEq] at h
   obtain ⟨rfl,rfl⟩:=F2 h
   exact ⟨fun d pos aft g=>by simp [execOp,h1,SV.den,Ch.den,convert,run_underlying h2,run_underlying h3,Conv.intToInt],trivial⟩
  | false=>
   rw [hb] at h
   simp only [cond_false,Option.some.injEq] at h
   obtain ⟨rfl,rfl⟩:=F2 h
   exact ⟨fun d pos aft g=>by simp [execOp,h1,SV.den,Ch.den,convert,run_underlying h2,run_underlying h3,Conv.intToInt,hv.1.wrap],trivial⟩
 ·have h1:=(hx _ rfl).1
  split at h <;> first | (cases h; done) | skip
  rename_i e1 e2
  rw [e1] at h2
  rw [e2] at h3
  simp only [Option.some.injEq] at h
  obtain ⟨rfl,rfl⟩:=F2 h
  exact ⟨fun d pos aft g=>by simp [execOp,h1,SV.den,Ch.den,convert,run_underlying h2,run_underlying h3],trivial⟩
 cases h
def ci4 : Option SV → Option (Nat ⊕ Value)
 | some (.one (.ptr b 0))=>some (.inl b)
 | some (.one (.val x))=>some (.inr x)
 | some (.one (.sl x _))=>some (.inr x)
 | some (.one (.int k z))=>some (.inr (.int k z))
 | some (.one (.lit k z))=>some (.inr (.int k z))
 | some (.one (.str l))=>some (.inr (D9 l))
 | some (.one (.ag _ x))=>some (.inr x)
 | _=>none
def at3 : List (Option SV) → Option (List (Nat ⊕ Value))
 | []=>some []
 | x :: r=>match ci4 x,at3 r with | some c,some l=>some (c :: l) | _,_=>none
theorem cu0 {x : Option SV} {c : Nat ⊕ Value} {v : Value} (hx : Kn β m x v) (h : ci4 x = some c) : v = ar7 β c ∧ ∀ b,c = .inl b → b < m:=by
 unfold ci4 at h
 split at h <;> first | (cases h; done) | skip
 all_goals
  have h1:=hx _ rfl
  simp only [Option.some.injEq] at h
  subst h
 ·exact ⟨h1.1,fun b hb=>by cases hb; exact h1.2⟩
 all_goals exact ⟨h1.1,fun b hb=>by cases hb⟩
theorem cp6 : ∀ {xs : List (Option SV)} {vs : List Value} {cs : List (Nat ⊕ Value)},xs.length = vs.length → (∀ i,Kn β m (xs.getD i none) (vs.getD i undef)) → at3 xs = some cs → vs = cs.map (ar7 β) ∧ ∀ b,Sum.inl b ∈ cs → b < m:=by
 intro xs
 induction xs with
 | nil=>
  intro vs cs hl hk h
  simp only [at3,Option.some.injEq] at h
  subst h
  cases vs with
  | nil=>exact ⟨rfl,fun b hb=>by cases hb⟩
  | cons v r=>simp at hl
 | cons x r ih=>
  intro vs cs hl hk h
  cases vs with
  | nil=>simp at hl
  | cons v vr=>
   simp only [at3] at h
   cases h1 : ci4 x with
   | none=>rw [h1] at h; cases h
   | some c=>
    cases h2 : at3 r with
    | none=>rw [h1,h2] at h; cases h
    | some l=>
     rw [h1,h2] at h
     simp only [Option.some.injEq] at h
     subst h
     have h3:=cu0 (hk 0) h1
     have h4:=ih (by simpa using hl) (fun i=>hk (i + 1)) h2
     refine ⟨?_,?_⟩
     ·have e0 : v = ar7 β c:=h3.1
      rw [List.map_cons,← h4.1,← e0]
     intro b hb
     rcases List.mem_cons.1 hb with e | hb
     ·exact h3.2 b e.symm
     exact h4.2 b hb
def bp2 (fn : Fn) (first : Array Operand) (caps : List (Option SV)) : Option Eff:=
 match fn,first.toList with
 | .func g,[]=>(at3 caps).map fun l=>.put (.one (.fn g l)) []
 | _,_=>none
theorem ca5 {fn : Fn} {first cap : Array Operand} {f : Operand → Option SV} {s : SV} {vc : List Prop} (hx : ∀ x,x ∈ cap.toList → Kn β m (f x) (ρ x)) (h : bp2 fn first (cap.toList.map f) = some (.put s vc)) :
  ac7 P ρ (.makeFunc fn first cap) ty w (s.den β) ∧ s.Ok m:=by
 unfold bp2 at h
 split at h
 ·rename_i g hf
  have hf' : first = #[]:=by simpa using hf
  subst hf'
  cases hc : at3 (cap.toList.map f) with
  | none=>rw [hc] at h; cases h
  | some l=>
   rw [hc] at h
   simp only [Option.map_some,Option.some.injEq] at h
   obtain ⟨rfl,rfl⟩:=F2 h
   have hk:=cp6 (β:=β) (m:=m) (vs:=cap.toList.map ρ) (by simp) (fun i=>by
    simp only [List.getD_eq_getElem?_getD,List.getElem?_map]
    cases hi : cap.toList[i]? with
    | none=>intro s hs; simp at hs
    | some x=>simpa using hx x (List.mem_of_getElem? hi)) hc
   refine ⟨fun d pos aft g=>?_,hk.2⟩
   have e : Array.map ρ cap = (l.map (ar7 β)).toArray:=by rw [← hk.1,← Array.toList_map,Array.toArray_toList]
   simp [execOp,Instr.makeFunc,SV.den,Ch.den,e]
 cases h
def a03 (E : Env) (T : TypeId) (f : Nat) : Option SV → Option Eff
 | some (.one (.ptr b o))=>match B8 E T with
  | .struct fs=>match (fs[f]? : Option (Nat × Nat × Bool)) with
   | some p=>bif Nat.beq p.2.1 0 then none else some (.put (.one (.ptr b (o + p.1))) [])
   | none=>none
  | _=>none
 | _=>none
theorem U1 (g o k : Nat) : (⟨g,o,none⟩ : Addr).add k = ⟨g,o + k,none⟩:=by
 unfold Addr.add
 split <;> simp_all
theorem bt7 {T : TypeId} {f : Nat} {x : Operand} {xs : Option SV} {s : SV} {vc : List Prop} (hE : EnvOk P E) (hx : Kn β m xs (ρ x)) (h : a03 E T f xs = some (.put s vc)) :
  ac7 P ρ (.fieldAddr T x f) ty w (s.den β) ∧ s.Ok m:=by
 have h2:=D2 (t:=T) hE
 unfold a03 at h
 split at h <;> first | (cases h; done) | skip
 rename_i b o
 have h1:=hx _ rfl
 split at h <;> first | (cases h; done) | skip
 rename_i fs e1
 rw [e1] at h2
 obtain ⟨fl,h3,h4,h5⟩:=h2
 split at h <;> first | (cases h; done) | skip
 rename_i p e2
 obtain ⟨fd,i,h6,h7,h8,h9,h10⟩:=a47 h4 f p e2
 cases hz : Nat.beq p.2.1 0 with
 | true=>rw [hz] at h; cases h
 | false=>
  rw [hz] at h
  simp only [cond_false,Option.some.injEq] at h
  obtain ⟨rfl,rfl⟩:=F2 h
  refine ⟨fun d pos aft g=>?_,h1.2⟩
  have hf : fl[f]? = some fd:=by simpa using h6
  have hn : i.size ≠ 0:=by rw [h9]; intro e; rw [e] at hz; cases hz
  simp [execOp,h1.1,SV.den,Ch.den,Instr.fieldAt,run_underlying h3,hf,Instr.sureAddr,fieldPlace,sizeOf,typeInfo,h8,hn,h7,U1]
def ba6 (E : Env) (T : TypeId) (f : Nat) : Option SV → Option Eff
 | some (.agg l)=>match B8 E T with
  | .struct fs=>match (fs[f]? : Option (Nat × Nat × Bool)) with
   | some p=>((ldL l p.1 p.2.1).bind (mkV p.2.2)).map fun s=>.put s []
   | none=>none
  | _=>none
 | _=>none
theorem cw5 {t : TypeId} {i : TypeInfo} (h : P.info? t = some i) : (sizeOf t).run P w = .ok i.size w:=by simp [sizeOf,typeInfo,h]
theorem ci8 {t : TypeId} {g : Bool} (h : a50 (P.underlying t) = some g) : (isAgg t).run P w = .ok g w:=by
 cases hu : P.underlying t with
 | none=>rw [hu] at h; cases h
 | some d=>
  rw [hu] at h
  cases d <;> simp [a50] at h <;> subst h <;> simp [isAgg,run_underlying hu]
theorem b42 {t : TypeId} {l l' : List Ch} {o sz : Nat} {g : Bool} {s : SV} {i : TypeInfo} (hi : P.info? t = some i) (hs : i.size = sz) (hg : a50 (P.underlying t) = some g) (hok : ∀ c ∈ l,c.Ok m)
  (h1 : ldL l o sz = some l') (h2 : mkV g l' = some s) : (part t (f5 β l).toArray o).run P w = .ok (s.den β) w ∧ s.Ok m:=by
 obtain ⟨e1,e2,e3⟩:=cz9 (β:=β) h1 hok
 obtain ⟨e4,e5,e6⟩:=c31 (β:=β) h2 e3
 refine ⟨?_,e4⟩
 cases g with
 | true=>
  have e7 : (f5 β l).toArray.extract o (o + sz) = (f5 β l').toArray:=by
   rw [← e1]
   apply Array.toList_inj.1
   simp [List.extract_eq_take_drop]
  simp only [part,Sem.run_bind,ci8 hg,Result.andThen,cw5 hi,hs,if_true,Sem.run_pure,e7,e5 rfl]
 | false=>
  have e7:=e6 rfl
  rw [e7] at e1 e2
  have e8 : (f5 β l)[o]? = some (s.den β):=by
   have : (((f5 β l).drop o).take sz)[0]? = some (s.den β):=by rw [e1]; rfl
   rw [List.getElem?_take] at this
   split at this
   ·simpa using this
   cases this
  simp [part,ci8 hg,e8]
theorem b14 {T : TypeId} {f : Nat} {x : Operand} {xs : Option SV} {s : SV} {vc : List Prop} (hE : EnvOk P E) (hx : Kn β m xs (ρ x)) (h : ba6 E T f xs = some (.put s vc)) :
  ac7 P ρ (.field T x f) ty w (s.den β) ∧ s.Ok m:=by
 have h2:=D2 (t:=T) hE
 unfold ba6 at h
 split at h <;> first | (cases h; done) | skip
 rename_i l
 have h1:=hx _ rfl
 split at h <;> first | (cases h; done) | skip
 rename_i fs e1
 rw [e1] at h2
 obtain ⟨fl,h3,h4,h5⟩:=h2
 split at h <;> first | (cases h; done) | skip
 rename_i p e2
 obtain ⟨fd,i,h6,h7,h8,h9,h10⟩:=a47 h4 f p e2
 have h11:=an2 h
 cases hl : ldL l p.1 p.2.1 with
 | none=>rw [hl] at h11; cases h11
 | some l'=>
  rw [hl] at h11
  simp only [Option.bind_some] at h11
  obtain ⟨h12,h13⟩:=b42 (P:=P) (w:=w) (β:=β) h8 h9 h10 h1.2 hl h11
  refine ⟨fun d pos aft g=>?_,h13⟩
  have hf : fl[f]? = some fd:=by simpa using h6
  simp [execOp,h1.1,SV.den,Instr.field,run_underlying h3,hf,asAgg,h7,h12]
def a22 (E : Env) (T : TypeId) : Option SV → Option SV → Option Eff
 | some (.one (.ptr b o)),some (.one (.lit _ z))=>match B8 E T with
  | .array n e=>match E.get e with
   | some ti=>bif decide (0 ≤ z) && decide (z < n) then some (.put (.one (.ptr b (o + z.toNat * ti.size))) []) else none
   | none=>none
  | _=>none
 | some (.one (.win b o n c)),some (.one (.lit _ z))=>match B8 E T with
  | .slice e=>match E.get e with
   | some ti=>bif decide (0 ≤ z) && decide (z < n) then some (.put (.one (.ptr b (o + z.toNat * ti.size))) []) else none
   | none=>none
  | _=>none
 | _,_=>none
theorem bt3 {T : TypeId} {x y : Operand} {xs ys : Option SV} {s : SV} {vc : List Prop} (hE : EnvOk P E) (hx : Kn β m xs (ρ x)) (hy : Kn β m ys (ρ y)) (h : a22 E T xs ys = some (.put s vc)) :
  ac7 P ρ (.indexAddr T x y) ty w (s.den β) ∧ s.Ok m:=by
 have h2:=D2 (t:=T) hE
 unfold a22 at h
 have fin : ∀ {z : Int} {n b o : Nat} {e : TypeId} {ti : TI},(bif decide (0 ≤ z) && decide (z < n) then some (Eff.put (.one (.ptr b (o + z.toNat * ti.size))) []) else none) = some (.put s vc) →
   (0 ≤ z ∧ z < n) ∧ s = .one (.ptr b (o + z.toNat * ti.size)):=by
  intro z n b o e ti h
  by_cases hr : 0 ≤ z ∧ z < n
  ·rw [decide_eq_true hr.1,decide_eq_true hr.2] at h
   simp only [Bool.and_self,cond_true,Option.some.injEq] at h
   exact ⟨hr,(F2 h).1.symm⟩
  exfalso
  have : (decide (0 ≤ z) && decide (z < n)) = false:=by
   rw [Bool.and_eq_false_iff,decide_eq_false_iff_not,decide_eq_false_iff_not]
   exact Decidable.not_and_iff_or_not.1 hr
  rw [this] at h
  cases h
 split at h <;> first | (cases h; done) | skip
 ·have h1:=hx _ rfl
  have h3:=hy _ rfl
  split at h <;> first | (cases h; done) | skip
  rename_i e1
  rw [e1] at h2
  split at h <;> first | (cases h; done) | skip
  rename_i ti e2
  obtain ⟨zz,hty,_⟩:=(hE.get e2).ty
  obtain ⟨hr,rfl⟩:=fin (e:=0) h
  refine ⟨fun d pos aft g=>?_,h1.2⟩
  simp [execOp,h1.1,h3.1,SV.den,Ch.den,Instr.indexAt,asIntOf,run_underlying h2,Instr.sureAddr,hr.1,hr.2,hty.runSize w,U1]
 have h1:=hx _ rfl
 have h3:=hy _ rfl
 split at h <;> first | (cases h; done) | skip
 rename_i e1
 rw [e1] at h2
 split at h <;> first | (cases h; done) | skip
 rename_i ti e2
 obtain ⟨zz,hty,_⟩:=(hE.get e2).ty
 obtain ⟨hr,rfl⟩:=fin (e:=0) h
 refine ⟨fun d pos aft g=>?_,h1.2⟩
 simp [execOp,h1.1,h3.1,SV.den,Ch.den,Instr.indexAt,asIntOf,run_underlying h2,Instr.sureAddr,hr.1,hr.2,hty.runSize w,U1]
def ba3 (E : Env) (T : TypeId) : Option SV → Option SV → Option Eff
 | some (.agg l),some (.one (.lit _ z))=>match B8 E T with
  | .array n e=>match E.get e with
   | some ti=>bif decide (0 ≤ z) && decide (z < n) then ((ldL l (z.toNat * ti.size) ti.size).bind (mkV ti.agg)).map fun s=>.put s [] else none
   | none=>none
  | _=>none
 | _,_=>none
theorem b40 {T : TypeId} {x y : Operand} {xs ys : Option SV} {s : SV} {vc : List Prop} (hE : EnvOk P E) (hx : Kn β m xs (ρ x)) (hy : Kn β m ys (ρ y)) (h : ba3 E T xs ys = some (.put s vc)) :
  ac7 P ρ (.index T x y) ty w (s.den β) ∧ s.Ok m:=by
 have h2:=D2 (t:=T) hE
 unfold ba3 at h
 split at h <;> first | (cases h; done) | skip
 have h1:=hx _ rfl
 have h3:=hy _ rfl
 split at h <;> first | (cases h; done) | skip
 rename_i e1
 rw [e1] at h2
 split at h <;> first | (cases h; done) | skip
 rename_i l k z _ n e _ ti e2
 obtain ⟨zz,hty,_⟩:=(hE.get e2).ty
 by_cases hr : 0 ≤ z ∧ z < n
 ·rw [decide_eq_true hr.1,decide_eq_true hr.2] at h
  simp only [Bool.and_self,cond_true] at h
  have h11:=an2 h
  cases hl : ldL l (z.toNat * ti.size) ti.size with
  | none=>rw [hl] at h11; cases h11
  | some l'=>
   rw [hl] at h11
   simp only [Option.bind_some] at h11
   obtain ⟨i,hi,hi2,_⟩:=hty.ex
   obtain ⟨h12,h13⟩:=b42 (P:=P) (w:=w) (β:=β) hi hi2 hty.aggp h1.2 hl h11
   refine ⟨fun d pos aft g=>?_,h13⟩
   simp [execOp,h1.1,h3.1,SV.den,Ch.den,Instr.index,asIntOf,run_underlying h2,hr.1,hr.2,hty.runSize w,h12]
 exfalso
 have : (decide (0 ≤ z) && decide (z < n)) = false:=by
  rw [Bool.and_eq_false_iff,decide_eq_false_iff_not,decide_eq_false_iff_not]
  exact Decidable.not_and_iff_or_not.1 hr
 rw [this] at h
 cases h
def c50 : Bool × List Ch → Option SV
 | (true,l)=>some (.agg l)
 | (false,[c])=>some (.one c)
 | _=>none
def ar3 (i : Nat) : Option SV → Option Eff
 | some (.tup l)=>match (l[i]? : Option (Bool × List Ch)) with | some p=>(c50 p).map fun s=>.put s [] | none=>none
 | _=>none
theorem bj0 {i : Nat} {x : Operand} {xs : Option SV} {s : SV} {vc : List Prop} (hx : Kn β m xs (ρ x)) (h : ar3 i xs = some (.put s vc)) :
  ac7 P ρ (.extract x i) ty w (s.den β) ∧ s.Ok m:=by
 unfold ar3 at h
 split at h <;> first | (cases h; done) | skip
 rename_i l
 have h1:=hx _ rfl
 split at h <;> first | (cases h; done) | skip
 rename_i p hp
 have h2:=an2 h
 have hok:=h1.2 p (List.mem_of_getElem? hp)
 have hd : s.den β = ao0 β p ∧ s.Ok m:=by
  unfold c50 at h2
  split at h2 <;> first | (cases h2; done) | skip
  ·simp only [Option.some.injEq] at h2; subst h2; exact ⟨rfl,hok⟩
  simp only [Option.some.injEq] at h2; subst h2; exact ⟨rfl,hok _ (List.mem_cons_self ..)⟩
 refine ⟨fun d pos aft g=>?_,hd.2⟩
 have h1' : ρ x = .tuple (l.map (ao0 β)).toArray:=h1.1
 simp [execOp,h1',Instr.extract,hp,hd.1]
def cd1 : Option SV → Option Eff
 | some (.one (.ptr b o))=>some (.put (.one (.ptr b o)) [])
 | _=>none
theorem cl9 {x : Operand} {xs : Option SV} {s : SV} {vc : List Prop} (hx : Kn β m xs (ρ x)) (h : cd1 xs = some (.put s vc)) :
  ac7 P ρ (.nilCheck x) ty w (s.den β) ∧ s.Ok m:=by
 unfold cd1 at h
 split at h <;> first | (cases h; done) | skip
 have h1:=hx _ rfl
 simp only [Option.some.injEq] at h
 obtain ⟨rfl,rfl⟩:=F2 h
 refine ⟨fun d pos aft g=>?_,h1.2⟩
 simp [execOp,h1.1,SV.den,Ch.den]
end
def HE.mine (b : Nat) : HE → Nat → Prop
 | .blk _ _,k=>k = b
 | .row _ _ v _ _,k=>v.ownBlock = some k
 | .gone,_=>False
 | .abs A,k=>A.Q k
 | .hid _ _,k=>k = b
def m7 (β : Nat → Nat) (hp : List HE) (i k : Nat) : Prop:=∃ e,hp[i]? = some e ∧ e.mine (β i) k
theorem O6 {β : Nat → Nat} {hp : List HE} {i k : Nat} {e : HE} (h : hp[i]? = some e) : m7 β hp i k ↔ e.mine (β i) k:=by
 unfold m7
 rw [h]
 exact ⟨fun ⟨e',h1,h2⟩=>by cases h1; exact h2,fun h=>⟨e,rfl,h⟩⟩
theorem ad1 {β : Nat → Nat} {hp : List HE} {i k : Nat} (h : hp[i]? = none) : ¬ m7 β hp i k:=by
 unfold m7
 rw [h]
 rintro ⟨e,h1,_⟩
 cases h1
structure Mem (base : Bs) (hp : List HE) (β : Nat → Nat) (w : World) : Prop where
 blk : ∀ (i : Nat) (T : TypeId) (l : List Ch),hp[i]? = some (HE.blk T l) → Blk w (β i) T (f5 β l) ∧ ∀ c ∈ l,c.Ok hp.length
 row : ∀ (i : Nat) (T : TypeId) (s : Nat) (v : Value) (n : Nat) (cs : List Value),hp[i]? = some (HE.row T s v n cs) → Own 0 T s w v n cs
 abs : ∀ (i : Nat) (A : AbsE),hp[i]? = some (HE.abs A) → A.R w
 low : ∀ i k,m7 β hp i k → (base.n ≤ k ∨ ¬ base.K k) ∧ k < w.heap.size
 apart : ∀ i j k,m7 β hp i k → m7 β hp j k → i = j
def Sof (S0 : Nat → Prop) (β : Nat → Nat) (hp : List HE) : Nat → Prop:=fun k=>S0 k ∧ ∀ i,¬ m7 β hp i k
section
variable {P : Program} {E : Env} {β : Nat → Nat} {m : Nat} {w : World} {ty : TypeId} {ρ : Operand → Value}
def ay0 (E : Env) (hp : List HE) (T : TypeId) : Option SV → Option Eff
 | some (.one (.ptr b o))=>match E.get T,nth hp b with
  | some ti,some (.blk _ l)=>((ldL l o ti.size).bind (mkV ti.agg)).map fun s=>.put s []
  | _,_=>none
 | _=>none
theorem bv7 {T : TypeId} {ti : TI} {g o : Nat} {T' : TypeId} {l l' : List Ch} {s : SV} (hT : TyOk P T ti) (hb : Blk w g T' (f5 β l)) (hok : ∀ c ∈ l,c.Ok m) (h1 : ldL l o ti.size = some l') (h2 : mkV ti.agg l' = some s) :
  (loadVar T ⟨g,o,none⟩).run P w = .ok (s.den β) w ∧ s.Ok m:=by
 obtain ⟨e1,e2,e3⟩:=cz9 (β:=β) h1 hok
 obtain ⟨e4,e5,e6⟩:=c31 (β:=β) h2 e3
 obtain ⟨z,hty,_⟩:=hT.ty
 have hcell : ∀ i,i < (f5 β l').length → w.cell? ⟨g,o + i,none⟩ = (f5 β l')[i]?:=by
  intro i hi
  have h3 : (f5 β l')[i]? = (f5 β l)[o + i]?:=by
   rw [← e1,List.getElem?_take,if_pos (by omega),List.getElem?_drop]
  rw [h3]
  have h4 : o + i < (f5 β l).length:=by
   have : (f5 β l')[i]? ≠ none:=by simp; omega
   rw [h3] at this
   simpa using this
  rw [List.getElem?_eq_getElem h4]
  exact hb.cell (List.getElem?_eq_getElem h4)
 refine ⟨?_,e4⟩
 cases hg : ti.agg with
 | true=>
  rw [hg] at hty
  rw [e5 hg]
  exact ak2 hty e2 hcell
 | false=>
  rw [hg] at hty
  have e7:=e6 hg
  have h5:=hcell 0 (by rw [e7]; simp)
  rw [e7] at h5
  exact Z0 hty (by simpa using h5)
theorem at7 {base : Bs} {hp : List HE} {T : TypeId} {x : Operand} {xs : Option SV} {s : SV} {vc : List Prop} (hE : EnvOk P E) (hm : Mem base hp β w) (hx : Kn β m xs (ρ x)) (h : ay0 E hp T xs = some (.put s vc)) :
  (∀ d pos aft g,(execOp ρ ⟨d,.load T x,ty,pos,aft,g⟩).run P w = .ok (.value (s.den β)) w) ∧ s.Ok hp.length:=by
 unfold ay0 at h
 split at h <;> first | (cases h; done) | skip
 rename_i b o
 have h1:=(hx _ rfl).1
 split at h <;> first | (cases h; done) | skip
 rename_i ti T' l e1 e2
 have h11:=an2 h
 rw [M1] at e2
 obtain ⟨hb,hok⟩:=hm.blk b T' l e2
 cases hl : ldL l o ti.size with
 | none=>rw [hl] at h11; cases h11
 | some l'=>
  rw [hl] at h11
  simp only [Option.bind_some] at h11
  obtain ⟨h2,h3⟩:=bv7 (P:=P) (hE.get e1) hb hok hl h11
  refine ⟨fun d pos aft g=>?_,h3⟩
  simp [execOp,h1,SV.den,Ch.den,Instr.loadAt,Instr.sureAddr,h2]
def bh3 (E : Env) (hp : List HE) (T : TypeId) : Option SV → Option SV → Option Eff
 | some (.one (.ptr b o)),some y=>match E.get T,nth hp b,y.chunks with
  | some ti,some (.blk _ l),some new=>bif Nat.beq (W6 new) ti.size then (stL l o ti.size new).map fun l'=>.wr b l' else none
  | _,_,_=>none
 | _,_=>none
theorem bw1 {base : Bs} {hp : List HE} {T : TypeId} {x y : Operand} {xs ys : Option SV} {b : Nat} {l' : List Ch} (hE : EnvOk P E) (hm : Mem base hp β w) (hx : Kn β hp.length xs (ρ x)) (hy : Kn β hp.length ys (ρ y))
  (h : bh3 E hp T xs ys = some (.wr b l')) : ∃ T' l w',hp[b]? = some (HE.blk T' l) ∧ (∀ c ∈ l',c.Ok hp.length) ∧ Wrt (β b) w w' ∧ Blk w' (β b) T' (f5 β l') ∧
   ∀ d pos aft g,(execOp ρ ⟨d,.store T x y,ty,pos,aft,g⟩).run P w = .ok .skip w':=by
 unfold bh3 at h
 split at h <;> first | (cases h; done) | skip
 rename_i b' o yv
 have h1:=(hx _ rfl).1
 have h2:=hy _ rfl
 split at h <;> first | (cases h; done) | skip
 rename_i ti T' l new e1 e2 e3
 cases hs : Nat.beq (W6 new) ti.size with
 | false=>rw [hs] at h; cases h
 | true=>
  rw [hs] at h
  simp only [cond_true] at h
  cases hst : stL l o ti.size new with
  | none=>rw [hst] at h; cases h
  | some l2=>
   rw [hst] at h
   simp only [Option.map_some,Option.some.injEq] at h
   cases h
   rw [M1] at e2
   obtain ⟨hb,hok⟩:=hm.blk b T' l e2
   obtain ⟨h3,h4⟩:=SV.chunks_ok (β:=β) e3 h2.2
   obtain ⟨h5,h6,h7⟩:=bq9 (β:=β) hst hok h4
   obtain ⟨z,hty,_⟩:=(hE.get e1).ty
   have hlen:=O1 (β:=β) h4
   have hsz:=Nat.eq_of_beq_eq_true hs
   have h8:=run_storeCells_at P (β b) o T' (f5 β new) 0 (f5 β l).toArray w hb (by simp; omega) (X0 h4)
   have e9 : ((f5 β l).toArray.toList.take (o + 0) ++ f5 β new ++ (f5 β l).toArray.toList.drop (o + 0 + (f5 β new).length)).toArray = (f5 β l').toArray:=by
    rw [← h5]
    simp [hlen,hsz]
   rw [e9] at h8
   refine ⟨T',l,w.setRow (β b) (f5 β l').toArray,e2,h7,⟨rfl,rfl,rfl,by simp [World.setRow],fun k _ hk=>setRow_other w _ k _ hk⟩,setRow_heap w _ _ _ T' (0,0) hb,fun d pos aft g=>?_⟩
   have e10 : (f5 β new).length = ti.size:=by omega
   have h11 : ρ x = .pointer (some ⟨β b,o,none⟩):=h1
   simp [execOp,h11,h2.1,Instr.storeAt,Instr.sureAddr,storeVar,hty.runSize w,h3,e10,h8]
def ba9 (T : TypeId) (k : Nat) : Option SV → Option Eff
 | some x=>x.chunks.map fun l=>.mk T l (.one (.ptr k 0))
 | none=>none
theorem bj3 {T : TypeId} {k : Nat} {x : Operand} {xs : Option SV} {T' : TypeId} {l : List Ch} {s : SV} (hx : Kn β m xs (ρ x)) (h : ba9 T k xs = some (.mk T' l s)) :
  T' = T ∧ s = .one (.ptr k 0) ∧ (∀ c ∈ l,c.Ok m) ∧ ∀ d pos aft g,(execOp ρ ⟨d,.box T x,ty,pos,aft,g⟩).run P w = .ok (.value (.pointer (some ⟨w.heap.size,0,none⟩))) (w.alloc (.cells (f5 β l).toArray T)):=by
 unfold ba9 at h
 split at h <;> first | (cases h; done) | skip
 rename_i xv
 have h1:=hx _ rfl
 cases hc : xv.chunks with
 | none=>rw [hc] at h; cases h
 | some l2=>
  rw [hc] at h
  simp only [Option.map_some,Option.some.injEq] at h
  cases h
  obtain ⟨h3,h4⟩:=SV.chunks_ok (β:=β) hc h1.2
  exact ⟨rfl,rfl,h4,fun d pos aft g=>by simp [execOp,h1.1,Instr.box,newVar,newRow,h3]⟩
def ak8 (E : Env) (T : TypeId) (k : Nat) : Option Eff:=(E.get T).map fun ti=>.mk T ti.zero (.one (.ptr k 0))
theorem a57 {T : TypeId} {k : Nat} {T' : TypeId} {l : List Ch} {s : SV} (hE : EnvOk P E) (h : ak8 E T k = some (.mk T' l s)) :
  T' = T ∧ s = .one (.ptr k 0) ∧ (∀ c ∈ l,c.Ok m) ∧ ∀ d pos aft g,(execOp ρ ⟨d,.alloc T,ty,pos,aft,g⟩).run P w = .ok (.value (.pointer (some ⟨w.heap.size,0,none⟩))) (w.alloc (.cells (f5 β l).toArray T)):=by
 unfold ak8 at h
 cases ht : E.get T with
 | none=>rw [ht] at h; cases h
 | some ti=>
  rw [ht] at h
  simp only [Option.map_some,Option.some.injEq] at h
  cases h
  have hok:=(hE.get ht).ok
  obtain ⟨z,hty,hz⟩:=(hE.get ht).ty
  have e : f5 (fun _=>0) ti.zero = f5 β ti.zero:=I2 (m:=0) (fun i hi=>absurd hi (Nat.not_lt_zero i)) hok
  rw [e] at hz
  exact ⟨rfl,rfl,fun c hc=>(hok c hc).le (Nat.zero_le _),fun d pos aft g=>by simp [execOp,Instr.alloc,hty.runZero w,newVar,newRow,hz]⟩
def a38 (pl : Nat → Option (Nat × Nat)) : List Ch → List (Nat × Option SV) → Option (List Ch)
 | l,[]=>some l
 | l,(i,x) :: r=>match pl i,x.bind SV.chunks with
  | some (o,sz),some new=>bif Nat.beq (W6 new) sz then (stL l o sz new).bind fun l'=>a38 pl l' r else none
  | _,_=>none
theorem bz3 : ∀ (vs : List Value) (cs : Array Value) (o : Nat) (k : Nat),o + k + vs.length ≤ cs.size →
  ((vs.zipIdx k).foldl (fun cs (p : Value × Nat)=>cs.setIfInBounds (o + p.2) p.1) cs).toList = cs.toList.take (o + k) ++ vs ++ cs.toList.drop (o + k + vs.length):=by
 intro vs
 induction vs with
 | nil=>intro cs o k h; simp
 | cons v r ih=>
  intro cs o k h
  simp only [List.zipIdx_cons,List.foldl_cons,List.length_cons] at h ⊢
  rw [ih _ o (k + 1) (by simp; omega)]
  simp only [Array.toList_setIfInBounds]
  have h1 : (cs.toList.set (o + k) v).take (o + (k + 1)) = cs.toList.take (o + k) ++ [v]:=by
   rw [show o + (k + 1) = o + k + 1 by omega,List.take_add_one,List.take_set_of_le (Nat.le_refl _),List.getElem?_set_self (by simp; omega)]
   rfl
  have h2 : (cs.toList.set (o + k) v).drop (o + (k + 1) + r.length) = cs.toList.drop (o + k + (r.length + 1)):=by
   rw [List.drop_set_of_lt (by omega)]
   congr 1
   omega
  rw [h1,h2]
  simp
theorem b28 {pl : Nat → Option (Nat × Nat)} : ∀ {ps : List (Nat × Option SV)} {vs : List (Nat × Value)} {l l' : List Ch},ps.length = vs.length → (∀ (i : Nat) (p : Nat × Option SV) (v : Nat × Value),ps[i]? = some p → vs[i]? = some v → p.1 = v.1 ∧ Kn β m p.2 v.2) →
  (∀ c ∈ l,c.Ok m) → a38 pl l ps = some l' → Instr.fill pl (f5 β l).toArray vs = some (f5 β l').toArray ∧ ∀ c ∈ l',c.Ok m:=by
 intro ps
 induction ps with
 | nil=>
  intro vs l l' hl hk hok h
  simp only [a38,Option.some.injEq] at h
  subst h
  cases vs with
  | nil=>exact ⟨rfl,hok⟩
  | cons v r=>simp at hl
 | cons p r ih=>
  intro vs l l' hl hk hok h
  obtain ⟨i,x⟩:=p
  cases vs with
  | nil=>simp at hl
  | cons v vr=>
   obtain ⟨i',v⟩:=v
   obtain ⟨h1,h2⟩:=hk 0 _ _ rfl rfl
   simp only at h1 h2
   subst h1
   simp only [a38] at h
   split at h <;> first | (cases h; done) | skip
   rename_i o sz new e1 e2
   cases hs : Nat.beq (W6 new) sz with
   | false=>rw [hs] at h; cases h
   | true=>
    rw [hs] at h
    simp only [cond_true] at h
    cases hst : stL l o sz new with
    | none=>rw [hst] at h; cases h
    | some l2=>
     rw [hst] at h
     simp only [Option.bind_some] at h
     cases x with
     | none=>cases e2
     | some xv=>
      simp only [Option.bind_some] at e2
      obtain ⟨h3,h4⟩:=h2 _ rfl
      obtain ⟨h5,h6⟩:=SV.chunks_ok (β:=β) e2 h4
      obtain ⟨h7,h8,h9⟩:=bq9 (β:=β) hst hok h6
      have hlen:=O1 (β:=β) h6
      have hsz:=Nat.eq_of_beq_eq_true hs
      obtain ⟨h10,h11⟩:=ih (vs:=vr) (by simpa using hl) (fun j p v hp hv=>hk (j + 1) p v (by simpa using hp) (by simpa using hv)) h9 h
      refine ⟨?_,h11⟩
      rw [Instr.fill]
      simp only [e1]
      rw [h3,h5]
      have hno : ((f5 β new).toArray.size ≠ sz || decide (o + (f5 β new).toArray.size > (f5 β l).toArray.size)) = false:=by
       simp
       omega
      rw [if_neg (by rw [hno]; simp),← h10]
      congr 1
      apply Array.toList_inj.1
      have hf:=bz3 (f5 β new) (f5 β l).toArray o 0 (by simp; omega)
      rw [← Array.foldl_toList]
      simp only [Array.toList_zipIdx,List.toList_toArray] at hf ⊢
      rw [hf,← h7]
      simp
      omega
def dw0 (fs : List (Nat × Nat × Bool)) (i : Nat) : Option (Nat × Nat):=(fs[i]?).map fun p=>(p.1,p.2.1)
def bc3 (E : Env) (T : TypeId) (ps : List (Nat × Option SV)) : Option Eff:=
 match E.get T with
 | some ti=>match ti.kind with
  | .struct fs=>(a38 (dw0 fs) ti.zero ps).map fun l=>.put (.agg l) []
  | .array _ e=>match E.get e with
   | some te=>(a38 (fun i=>some (i * te.size,te.size)) ti.zero ps).map fun l=>.put (.agg l) []
   | none=>none
  | _=>none
 | none=>none
theorem b27 {T : TypeId} {parts : Array (Nat × Operand)} {f : Operand → Option SV} {s : SV} {vc : List Prop} (hE : EnvOk P E) (hx : ∀ p ∈ parts.toList,Kn β m (f p.2) (ρ p.2))
  (h : bc3 E T (parts.toList.map fun p=>(p.1,f p.2)) = some (.put s vc)) : ac7 P ρ (.build T parts) ty w (s.den β) ∧ s.Ok m:=by
 unfold bc3 at h
 split at h <;> first | (cases h; done) | skip
 rename_i ti e1
 obtain ⟨z,hty,hz⟩:=(hE.get e1).ty
 have hok:=(hE.get e1).ok
 have hkd:=(hE.get e1).kind
 have e : f5 (fun _=>0) ti.zero = f5 β ti.zero:=I2 (m:=0) (fun i hi=>absurd hi (Nat.not_lt_zero i)) hok
 rw [e] at hz
 have hk2 : ∀ (i : Nat) (p : Nat × Option SV) (v : Nat × Value),(parts.toList.map fun p=>(p.1,f p.2))[i]? = some p → (parts.toList.map fun p=>(p.1,ρ p.2))[i]? = some v → p.1 = v.1 ∧ Kn β m p.2 v.2:=by
  intro i p v hp hv
  simp only [List.getElem?_map] at hp hv
  cases hi : parts.toList[i]? with
  | none=>rw [hi] at hp; cases hp
  | some q=>
   rw [hi] at hp hv
   simp only [Option.map_some,Option.some.injEq] at hp hv
   subst hp hv
   exact ⟨rfl,hx q (List.mem_of_getElem? hi)⟩
 have hok' : ∀ c ∈ ti.zero,c.Ok m:=fun c hc=>(hok c hc).le (Nat.zero_le _)
 split at h <;> first | (cases h; done) | skip
 ·rename_i fs e2
  rw [e2] at hkd
  obtain ⟨fl,h3,h4,h5⟩:=hkd
  cases hf : a38 (dw0 fs) ti.zero (parts.toList.map fun p=>(p.1,f p.2)) with
  | none=>rw [hf] at h; cases h
  | some l=>
   rw [hf] at h
   simp only [Option.map_some,Option.some.injEq] at h
   obtain ⟨rfl,rfl⟩:=F2 h
   obtain ⟨h6,h7⟩:=b28 (β:=β) (m:=m) (vs:=parts.toList.map fun p=>(p.1,ρ p.2)) (by simp) hk2 hok' hf
   refine ⟨fun d pos aft g=>?_,h7⟩
   have h8 : Instr.fill (fun i=>Option.map (fun p : Nat × Nat × Bool=>(p.1,p.2.1)) fs[i]?) (f5 β ti.zero).toArray (parts.toList.map fun p=>(p.1,ρ p.2)) = some (f5 β l).toArray:=h6
   simp [execOp,Instr.build,hty.runZero w,run_underlying h3,h5,hz,h8,SV.den]
 rename_i n e0 e2
 rw [e2] at hkd
 split at h <;> first | (cases h; done) | skip
 rename_i te e3
 obtain ⟨ze,htye,_⟩:=(hE.get e3).ty
 cases hf : a38 (fun i=>some (i * te.size,te.size)) ti.zero (parts.toList.map fun p=>(p.1,f p.2)) with
 | none=>rw [hf] at h; cases h
 | some l=>
  rw [hf] at h
  simp only [Option.map_some,Option.some.injEq] at h
  obtain ⟨rfl,rfl⟩:=F2 h
  obtain ⟨h6,h7⟩:=b28 (β:=β) (m:=m) (vs:=parts.toList.map fun p=>(p.1,ρ p.2)) (by simp) hk2 hok' hf
  refine ⟨fun d pos aft g=>?_,h7⟩
  have hkd' : P.underlying T = some (.array n e0):=hkd
  simp [execOp,Instr.build,hty.runZero w,run_underlying hkd',htye.runSize w,hz,h6,SV.den]
end
section
variable {P : Program} {E : Env} {β : Nat → Nat} {m : Nat} {w : World} {ty : TypeId} {ρ : Operand → Value}
def cd5 (sz : Nat) : Nat → List (Nat × Option SV) → Option (List Ch)
 | _,[]=>some []
 | i,(j,x) :: r=>match x.bind SV.chunks with
  | some new=>bif Nat.beq i j && Nat.beq (W6 new) sz then (cd5 sz (i + 1) r).map (new ++ ·) else none
  | none=>none
theorem da6 {sz : Nat} : ∀ {ps : List (Nat × Option SV)} {vs : List (Nat × Value)} {l : List Ch} {i : Nat} {arr : Array Value},ps.length = vs.length → (∀ (i : Nat) (p : Nat × Option SV) (v : Nat × Value),ps[i]? = some p → vs[i]? = some v → p.1 = v.1 ∧ Kn β m p.2 v.2) →
  arr.size = (i + ps.length) * sz → cd5 sz i ps = some l → Instr.fill (fun i=>some (i * sz,sz)) arr vs = some (arr.toList.take (i * sz) ++ f5 β l).toArray ∧ ∀ c ∈ l,c.Ok m:=by
 intro ps
 induction ps with
 | nil=>
  intro vs l i arr hl hk hz h
  simp only [cd5,Option.some.injEq] at h
  subst h
  cases vs with
  | nil=>
   refine ⟨?_,fun c hc=>by cases hc⟩
   simp only [Instr.fill,f5,List.flatMap_nil,List.append_nil]
   congr 1
   apply Array.toList_inj.1
   simp only [List.length_nil,Nat.add_zero] at hz
   simp only [List.toList_toArray]
   rw [List.take_of_length_le (by simp; omega)]
  | cons v r=>simp at hl
 | cons p r ih=>
  intro vs l i arr hl hk hz h
  obtain ⟨j,x⟩:=p
  cases vs with
  | nil=>simp at hl
  | cons v vr=>
   obtain ⟨j',v⟩:=v
   obtain ⟨h1,h2⟩:=hk 0 _ _ rfl rfl
   simp only at h1 h2
   subst h1
   simp only [cd5] at h
   split at h <;> first | (cases h; done) | skip
   rename_i new e2
   cases hs : (Nat.beq i j && Nat.beq (W6 new) sz) with
   | false=>rw [hs] at h; cases h
   | true=>
    rw [hs] at h
    simp only [Bool.and_eq_true] at hs
    obtain rfl:=Nat.eq_of_beq_eq_true hs.1
    have hsz:=Nat.eq_of_beq_eq_true hs.2
    cases x with
    | none=>cases e2
    | some xv=>
     simp only [Option.bind_some] at e2
     obtain ⟨h3,h4⟩:=h2 _ rfl
     obtain ⟨h5,h6⟩:=SV.chunks_ok (β:=β) e2 h4
     have hlen:=O1 (β:=β) h6
     cases hr : cd5 sz (i + 1) r with
     | none=>rw [hr] at h; cases h
     | some l2=>
      rw [hr] at h
      simp only [cond_true,Option.map_some,Option.some.injEq] at h
      subst h
      have hz1 : arr.size = i * sz + sz + r.length * sz:=by
       rw [hz,List.length_cons,Nat.add_mul,Nat.add_mul,Nat.one_mul]; omega
      have hf:=bz3 (f5 β new) arr (i * sz) 0 (by omega)
      have ih2:=ih (vs:=vr) (l:=l2) (i:=i + 1) (arr:=(arr.toList.take (i * sz) ++ f5 β new ++ arr.toList.drop (i * sz + sz)).toArray) (by simpa using hl) (fun j p v hp hv=>hk (j + 1) p v (by simpa using hp) (by simpa using hv)) (by
       simp only [List.size_toArray,List.length_append,List.length_take,List.length_drop,Array.length_toList,hlen,hsz]
       rw [show (i + 1 + r.length) * sz = i * sz + sz + r.length * sz by rw [Nat.add_mul,Nat.add_mul,Nat.one_mul]]
       omega) hr
      refine ⟨?_,?_⟩
      ·rw [Instr.fill]
       simp only
       rw [h3,h5]
       have hno : ((f5 β new).toArray.size ≠ sz || decide (i * sz + (f5 β new).toArray.size > arr.size)) = false:=by
        simp
        omega
       rw [if_neg (by rw [hno]; simp)]
       have e3 : Array.foldl (fun cs (x : Value × Nat)=>cs.setIfInBounds (i * sz + x.snd) x.fst) arr (f5 β new).toArray.zipIdx = (arr.toList.take (i * sz) ++ f5 β new ++ arr.toList.drop (i * sz + sz)).toArray:=by
        apply Array.toList_inj.1
        rw [← Array.foldl_toList]
        simp only [Array.toList_zipIdx,List.toList_toArray] at hf ⊢
        rw [hf]
        simp [hlen,hsz]
       rw [e3,ih2.1]
       congr 2
       rw [show (i + 1) * sz = i * sz + sz by rw [Nat.add_mul,Nat.one_mul]]
       have e4 : (arr.toList.take (i * sz) ++ f5 β new).length = i * sz + sz:=by
        simp only [List.length_append,List.length_take,Array.length_toList,hlen,hsz]
        omega
       rw [List.take_append,e4,Nat.sub_self,List.take_zero,List.append_nil,List.take_of_length_le (by omega)]
       simp [f5]
      intro c hc
      rcases List.mem_append.1 hc with hc | hc
      ·exact h6 c hc
      exact ih2.2 c hc
def bu0 (E : Env) (T : TypeId) (n k : Nat) (ps : List (Nat × Option SV)) : Option Eff:=
 match B8 E T with
 | .slice e=>match E.get e with
  | some te=>bif Nat.ble (n * te.size) 16777216 && Nat.beq ps.length n then (cd5 te.size 0 ps).map fun l=>.mk e l (.one (.win k 0 n n)) else none
  | none=>none
 | _=>none
theorem bk3 {T T' : TypeId} {n k : Nat} {parts : Array (Nat × Operand)} {f : Operand → Option SV} {l : List Ch} {s : SV} (hE : EnvOk P E) (hx : ∀ p ∈ parts.toList,Kn β m (f p.2) (ρ p.2))
  (h : bu0 E T n k (parts.toList.map fun p=>(p.1,f p.2)) = some (.mk T' l s)) :
  s = .one (.win k 0 n n) ∧ (∀ c ∈ l,c.Ok m) ∧ ∀ d pos aft g,(execOp ρ ⟨d,.buildSlice T n parts,ty,pos,aft,g⟩).run P w = .ok (.value (.slice (some ⟨w.heap.size,0,none⟩) n n)) (w.alloc (.cells (f5 β l).toArray T')):=by
 have hkd:=D2 (t:=T) hE
 unfold bu0 at h
 split at h <;> first | (cases h; done) | skip
 rename_i e e1
 rw [e1] at hkd
 split at h <;> first | (cases h; done) | skip
 rename_i te e2
 obtain ⟨z,hty,hz⟩:=(hE.get e2).ty
 cases hb : (Nat.ble (n * te.size) 16777216 && Nat.beq (parts.toList.map fun p=>(p.1,f p.2)).length n) with
 | false=>rw [hb] at h; cases h
 | true=>
  rw [hb] at h
  simp only [Bool.and_eq_true] at hb
  have hle:=Nat.le_of_ble_eq_true hb.1
  have hlen:=Nat.eq_of_beq_eq_true hb.2
  cases hr : cd5 te.size 0 (parts.toList.map fun p=>(p.1,f p.2)) with
  | none=>rw [hr] at h; cases h
  | some l2=>
   rw [hr] at h
   simp only [cond_true,Option.map_some,Option.some.injEq] at h
   cases h
   have hk2 : ∀ (i : Nat) (p : Nat × Option SV) (v : Nat × Value),(parts.toList.map fun p=>(p.1,f p.2))[i]? = some p → (parts.toList.map fun p=>(p.1,ρ p.2))[i]? = some v → p.1 = v.1 ∧ Kn β m p.2 v.2:=by
    intro i p v hp hv
    simp only [List.getElem?_map] at hp hv
    cases hi : parts.toList[i]? with
    | none=>rw [hi] at hp; cases hp
    | some q=>
     rw [hi] at hp hv
     simp only [Option.map_some,Option.some.injEq] at hp hv
     subst hp hv
     exact ⟨rfl,hx q (List.mem_of_getElem? hi)⟩
   have hfill : ∀ arr : Array Value,arr.size = n * te.size → Instr.fill (fun i=>some (i * te.size,te.size)) arr (parts.toList.map fun p=>(p.1,ρ p.2)) = some (f5 β l).toArray ∧ ∀ c ∈ l,c.Ok m:=by
    intro arr ha
    have h1:=da6 (β:=β) (m:=m) (vs:=parts.toList.map fun p=>(p.1,ρ p.2)) (arr:=arr) (by simp) hk2 (by rw [hlen,ha,Nat.zero_add]) hr
    simpa using h1
   refine ⟨rfl,(hfill (Array.replicate (n * te.size) undef) (by simp)).2,fun d pos aft g=>?_⟩
   have hkd' : P.underlying T = some (.slice T'):=hkd
   by_cases h0 : n * te.size = 0
   ·have hf:=(hfill (Array.map (fun _=>default) (Array.range 0)) (by simp [h0])).1
    simp [execOp,Instr.buildSlice,run_underlying hkd',hty.runSize w,h0,newRow,hf]
   have hf:=(hfill ((Array.range (n * te.size)).map (z.cells[· % z.cells.size]!)) (by simp)).1
   have hgt : ¬ 16777216 < n * te.size:=by omega
   simp [execOp,Instr.buildSlice,run_underlying hkd',hty.runSize w,h0,hty.runZero w,newRow,hf,hgt]
def ak1 : Ch → Bool
 | .ptr _ _=>false
 | .win _ _ _ _=>false
 | .fn _ cap=>cap.all fun c=>match c with | .inl _=>false | .inr _=>true
 | _=>true
theorem a42 {c : Ch} (h : ak1 c = true) (ok : c.Ok m) : c.Ok 0:=by
 cases c with
 | ptr b o=>cases h
 | win b o n c=>cases h
 | fn g cap=>
  intro b hb
  have:=List.all_eq_true.1 h _ hb
  cases this
 | _=>exact ok
def an9 : TKd → Bool
 | .iface=>false
 | .other=>false
 | _=>true
noncomputable def bh0 (E : Env) (T : TypeId) : Option SV → Option Eff
 | some (.one c)=>bif an9 (B8 E T) && ak1 c then some (.put (.one (.val (.iface T (c.den fun _=>0)))) []) else none
 | some (.agg l)=>bif an9 (B8 E T) && l.all ak1 then some (.put (.one (.val (.iface T (SV.den (fun _=>0) (.agg l))))) []) else none
 | _=>none
theorem bz1 {t : TypeId} {k : TKd} (hk : br5 P t k) (hp : an9 k = true) : ∃ d,P.underlying t = some d ∧ ∀ ms,d ≠ .interface ms:=by
 cases k <;> first | (cases hp; done) | skip
 case struct fs=>obtain ⟨fl,h,_⟩:=hk; exact ⟨_,h,fun ms h=>by cases h⟩
 all_goals exact ⟨_,hk,fun ms h=>by cases h⟩
theorem bv0 {T : TypeId} {x : Operand} {xs : Option SV} {s : SV} {vc : List Prop} (hE : EnvOk P E) (hx : Kn β m xs (ρ x)) (h : bh0 E T xs = some (.put s vc)) :
  ac7 P ρ (.makeInterface T x) ty w (s.den β) ∧ s.Ok m:=by
 have hkd:=D2 (t:=T) hE
 have hrun : ∀ v,ρ x = v → an9 (B8 E T) = true → ∀ d pos aft g,(execOp ρ ⟨d,.makeInterface T x,ty,pos,aft,g⟩).run P w = .ok (.value (.iface T v)) w:=by
  intro v hv hp d pos aft g
  obtain ⟨td,h1,h2⟩:=bz1 hkd hp
  subst hv
  have h3 : (Instr.makeInterface T (ρ x)).run P w = .ok (.iface T (ρ x)) w:=by
   unfold Instr.makeInterface
   simp only [Sem.run_bind,run_underlying h1,Result.andThen]
   cases td <;> first | rfl | exact absurd rfl (h2 _)
  simp [execOp,h3]
 unfold bh0 at h
 split at h <;> first | (cases h; done) | skip
 ·rename_i c
  have h1:=hx _ rfl
  cases hb : (an9 (B8 E T) && ak1 c) with
  | false=>rw [hb] at h; cases h
  | true=>
   rw [hb] at h
   simp only [Bool.and_eq_true] at hb
   simp only [cond_true,Option.some.injEq] at h
   obtain ⟨rfl,rfl⟩:=F2 h
   refine ⟨fun d pos aft g=>?_,rfl⟩
   have e : (SV.one c).den β = c.den fun _=>0:=SV.den_congr (s:=.one c) (m:=0) (fun i hi=>absurd hi (Nat.not_lt_zero i)) (a42 hb.2 h1.2)
   rw [hrun _ (h1.1.trans e) hb.1]
   rfl
 rename_i l
 have h1:=hx _ rfl
 cases hb : (an9 (B8 E T) && l.all ak1) with
 | false=>rw [hb] at h; cases h
 | true=>
  rw [hb] at h
  simp only [Bool.and_eq_true] at hb
  simp only [cond_true,Option.some.injEq] at h
  obtain ⟨rfl,rfl⟩:=F2 h
  refine ⟨fun d pos aft g=>?_,rfl⟩
  have e : (SV.agg l).den β = SV.den (fun _=>0) (.agg l):=SV.den_congr (s:=.agg l) (m:=0) (fun i hi=>absurd hi (Nat.not_lt_zero i)) (fun c hc=>a42 (List.all_eq_true.1 hb.2 c hc) (h1.2 c hc))
  rw [hrun _ (h1.1.trans e) hb.1]
  rfl
def bnd : Option (Option SV) → Nat → Option Nat
 | none,d=>some d
 | some (some (.one (.lit .i64 z))),_=>bif decide (0 ≤ z) then some z.toNat else none
 | _,_=>none
def cd0 (E : Env) (T : TypeId) (x : Option SV) (lo hi mx : Option (Option SV)) : Option Eff:=
 match x,B8 E T with
 | some (.one (.ptr b o)),.array n e=>match E.get e,bnd mx n with
  | some te,some c=>match bnd hi n with
   | some h=>match bnd lo 0 with
    | some l=>bif Nat.ble l h && Nat.ble h c && Nat.ble c n && (mx.isNone || hi.isSome) then some (.put (.one (.win b (bif Nat.beq c l then o else o + l * te.size) (h - l) (c - l))) []) else none
    | none=>none
   | none=>none
  | _,_=>none
 | _,_=>none
theorem ap4 {x : Option (Option SV)} {xo : Option Operand} {d k y : Nat} {code : BoundsCode} {v : Value} (h : bnd x d = some k) (hs : x.isSome = true) (hk : ∀ o,xo = some o → Kn β m (x.getD none) (ρ o)) (hx : xo.map ρ = some v) (hle : k ≤ y) :
  (Instr.sliceBound v y code).run P w = .ok k w:=by
 cases xo with
 | none=>cases hx
 | some o=>
  simp only [Option.map_some,Option.some.injEq] at hx
  subst hx
  unfold bnd at h
  split at h <;> first | (cases h; done) | skip
  ·cases hs
  rename_i z
  have h1:=(hk o rfl _ rfl).1
  by_cases h0 : 0 ≤ z
  ·rw [decide_eq_true h0] at h
   simp only [cond_true,Option.some.injEq] at h
   subst h
   simp only [SV.den,Ch.den] at h1
   have h2 : z ≤ (y : Int):=by omega
   simp [Instr.sliceBound,h1,asIntOf,h0,h2]
  rw [decide_eq_false h0] at h
  cases h
theorem cm5 {T : TypeId} {x : Operand} {lo hi mx : Option Operand} {f : Operand → Option SV} {s : SV} {vc : List Prop} (hE : EnvOk P E) (hx : Kn β m (f x) (ρ x)) (hl : ∀ o,lo = some o → Kn β m (f o) (ρ o)) (hh : ∀ o,hi = some o → Kn β m (f o) (ρ o)) (hmx : ∀ o,mx = some o → Kn β m (f o) (ρ o))
  (h : cd0 E T (f x) (lo.map f) (hi.map f) (mx.map f) = some (.put s vc)) : ac7 P ρ (.slice T x lo hi mx) ty w (s.den β) ∧ s.Ok m:=by
 have hkd:=D2 (t:=T) hE
 unfold cd0 at h
 split at h <;> first | (cases h; done) | skip
 rename_i b o n e e1 e2
 rw [e2] at hkd
 have h1:=hx _ e1
 split at h <;> first | (cases h; done) | skip
 rename_i te c e3 e4
 obtain ⟨z,hty,_⟩:=(hE.get e3).ty
 split at h <;> first | (cases h; done) | skip
 rename_i hh' e5
 split at h <;> first | (cases h; done) | skip
 rename_i l e6
 cases hb : (Nat.ble l hh' && Nat.ble hh' c && Nat.ble c n && ((mx.map f).isNone || (hi.map f).isSome)) with
 | false=>rw [hb] at h; cases h
 | true=>
  rw [hb] at h
  simp only [Bool.and_eq_true] at hb
  obtain ⟨⟨⟨b1,b2⟩,b3⟩,b4⟩:=hb
  have c1:=Nat.le_of_ble_eq_true b1
  have c2:=Nat.le_of_ble_eq_true b2
  have c3:=Nat.le_of_ble_eq_true b3
  simp only [cond_true,Option.some.injEq] at h
  obtain ⟨rfl,rfl⟩:=F2 h
  refine ⟨fun d pos aft g=>?_,h1.2⟩
  have hbs : (Instr.sliceBounds false n n (lo.map ρ) (hi.map ρ) (mx.map ρ)).run P w = .ok (l,hh',c) w:=by
   unfold Instr.sliceBounds
   cases mx with
   | none=>
    have ec : c = n:=by simpa [bnd] using e4.symm
    subst ec
    cases hi with
    | none=>
     have eh : hh' = c:=by simpa [bnd] using e5.symm
     subst eh
     cases lo with
     | none=>
      have el : l = 0:=by simpa [bnd] using e6.symm
      subst el
      simp
     | some lo'=>
      have r1:=fun code=>ap4 (P:=P) (w:=w) (ρ:=ρ) (β:=β) (m:=m) (y:=hh') (code:=code) (v:=ρ lo') e6 rfl (xo:=some lo') (fun o ho=>by cases ho; exact hl _ rfl) rfl c1
      simp [r1]
    | some hi'=>
     have r2:=fun code=>ap4 (P:=P) (w:=w) (ρ:=ρ) (β:=β) (m:=m) (y:=c) (code:=code) (v:=ρ hi') e5 rfl (xo:=some hi') (fun o ho=>by cases ho; exact hh _ rfl) rfl c2
     cases lo with
     | none=>
      have el : l = 0:=by simpa [bnd] using e6.symm
      subst el
      simp [r2]
     | some lo'=>
      have r1:=fun code=>ap4 (P:=P) (w:=w) (ρ:=ρ) (β:=β) (m:=m) (y:=hh') (code:=code) (v:=ρ lo') e6 rfl (xo:=some lo') (fun o ho=>by cases ho; exact hl _ rfl) rfl c1
      simp [r1,r2]
   | some mx'=>
    have r3:=fun code=>ap4 (P:=P) (w:=w) (ρ:=ρ) (β:=β) (m:=m) (y:=n) (code:=code) (v:=ρ mx') e4 rfl (xo:=some mx') (fun o ho=>by cases ho; exact hmx _ rfl) rfl c3
    cases hi with
    | none=>simp at b4
    | some hi'=>
     have r2:=fun code=>ap4 (P:=P) (w:=w) (ρ:=ρ) (β:=β) (m:=m) (y:=c) (code:=code) (v:=ρ hi') e5 rfl (xo:=some hi') (fun o ho=>by cases ho; exact hh _ rfl) rfl c2
     cases lo with
     | none=>
      have el : l = 0:=by simpa [bnd] using e6.symm
      subst el
      simp [r2,r3]
     | some lo'=>
      have r1:=fun code=>ap4 (P:=P) (w:=w) (ρ:=ρ) (β:=β) (m:=m) (y:=hh') (code:=code) (v:=ρ lo') e6 rfl (xo:=some lo') (fun o ho=>by cases ho; exact hl _ rfl) rfl c1
      simp [r1,r2,r3]
  have h1' : ρ x = .pointer (some ⟨β b,o,none⟩):=h1.1
  have hkd' : P.underlying T = some (.array n e):=hkd
  have e7 : (if c = l then (⟨β b,o,none⟩ : Addr) else (⟨β b,o,none⟩ : Addr).add (l * te.size)) = ⟨β b,bif Nat.beq c l then o else o + l * te.size,none⟩:=by
   by_cases hcl : c = l
   ·subst hcl; simp
   have : Nat.beq c l = false:=by
    cases hq : Nat.beq c l with
    | false=>rfl
    | true=>exact absurd (Nat.eq_of_beq_eq_true hq) hcl
   rw [if_neg hcl,U1,this]
   rfl
  simp [execOp,h1',Instr.sliceAt,run_underlying hkd',Instr.sureAddr,hbs,hty.runSize w,e7,SV.den,Ch.den]
def bq6 (E : Env) (cl : Callee) (ts : List TypeId) (xs : List (Option SV)) : Option Eff:=
 match cl,ts,xs with
 | .builtin .len,[t],[some (.one (.sl _ n))]=>match B8 E t with | .slice _=>some (.put (.one (.int .i64 n)) []) | _=>none
 | .builtin .len,[t],[some (.one (.win _ _ n _))]=>match B8 E t with | .slice _=>some (.put (.one (.lit .i64 n)) []) | _=>none
 | .builtin .len,[t],[some (.one (.str l))]=>match B8 E t with | .str=>some (.put (.one (.int .i64 l.length)) []) | _=>none
 | .builtin .max,_,[some (.one (.lit k a)),some (.one (.lit _ b))]=>some (.put (.one (.lit k (max a b))) [])
 | .builtin .max,_,[some (.one (.int k a)),some (.one (.lit _ b))]=>some (.put (.one (.int k (max a b))) [])
 | .builtin .max,_,[some (.one (.lit k a)),some (.one (.int _ b))]=>some (.put (.one (.int k (max a b))) [])
 | .builtin .max,_,[some (.one (.int k a)),some (.one (.int _ b))]=>some (.put (.one (.int k (max a b))) [])
 | .builtin .min,_,[some (.one (.lit k a)),some (.one (.lit _ b))]=>some (.put (.one (.lit k (min a b))) [])
 | .builtin .min,_,[some (.one (.int k a)),some (.one (.lit _ b))]=>some (.put (.one (.int k (min a b))) [])
 | .builtin .min,_,[some (.one (.lit k a)),some (.one (.int _ b))]=>some (.put (.one (.int k (min a b))) [])
 | .builtin .min,_,[some (.one (.int k a)),some (.one (.int _ b))]=>some (.put (.one (.int k (min a b))) [])
 | _,_,_=>none
theorem du2 (a b : Int) : (if b > a then b else a) = max a b:=by split <;> omega
theorem dm9 (a b : Int) : (if b < a then b else a) = min a b:=by split <;> omega
theorem b81 {c : Call} {f : Operand → Option SV} {s : SV} {vc : List Prop} (hE : EnvOk P E) (hx : ∀ x ∈ c.args.toList,Kn β m (f x) (ρ x)) (h : bq6 E c.callee c.argTypes.toList (c.args.toList.map f) = some (.put s vc)) :
  ac7 P ρ (.call c) ty w (s.den β) ∧ s.Ok m:=by
 obtain ⟨cl,args,ts⟩:=c
 simp only at h hx
 generalize hts : ts.toList = tl at h
 have hts' : ts = tl.toArray:=by rw [← hts,Array.toArray_toList]
 subst hts'
 have two : ∀ {u v : Option SV},args.toList.map f = [u,v] → ∃ x y,args = #[x,y] ∧ Kn β m u (ρ x) ∧ Kn β m v (ρ y):=by
  intro u v he
  match hal : args.toList,he with
  | [x,y],he=>
   rw [hal] at hx
   simp only [List.map_cons,List.map_nil,List.cons.injEq,and_true] at he
   exact ⟨x,y,by rw [← Array.toArray_toList (xs:=args),hal],by rw [← he.1]; exact hx x (by simp),by rw [← he.2]; exact hx y (by simp)⟩
 have one : ∀ {u : Option SV},args.toList.map f = [u] → ∃ x,args = #[x] ∧ Kn β m u (ρ x):=by
  intro u he
  match hal : args.toList,he with
  | [x],he=>
   rw [hal] at hx
   simp only [List.map_cons,List.map_nil,List.cons.injEq,and_true] at he
   exact ⟨x,by rw [← Array.toArray_toList (xs:=args),hal],by rw [← he]; exact hx x (by simp)⟩
 generalize hxs : args.toList.map f = xl at h
 unfold bq6 at h
 split at h <;> first | (cases h; done) | skip
 ·rename_i t sv n
  have hkd:=D2 (t:=t) hE
  obtain ⟨x,rfl,h1⟩:=one hxs
  split at h <;> first | (cases h; done) | skip
  rename_i e e1
  rw [e1] at hkd
  have hkd' : P.underlying t = some (.slice e):=hkd
  simp only [Option.some.injEq] at h
  obtain ⟨rfl,rfl⟩:=F2 h
  obtain ⟨h2,a,cc,h3,_⟩:=h1 _ rfl
  have h4 : ρ x = .slice a n cc:=by rw [h2]; exact h3
  exact ⟨fun d pos aft g=>by simp [execOp,resolve,invoke,builtin,h4,Builtin.len_,run_underlying hkd',goInt,SV.den,Ch.den],trivial⟩
 ·rename_i t _ _ n _
  have hkd:=D2 (t:=t) hE
  obtain ⟨x,rfl,h1⟩:=one hxs
  split at h <;> first | (cases h; done) | skip
  rename_i e e1
  rw [e1] at hkd
  have hkd' : P.underlying t = some (.slice e):=hkd
  simp only [Option.some.injEq] at h
  obtain ⟨rfl,rfl⟩:=F2 h
  have h4:=(h1 _ rfl).1
  exact ⟨fun d pos aft g=>by simp [execOp,resolve,invoke,builtin,h4,Builtin.len_,run_underlying hkd',goInt,SV.den,Ch.den],trivial⟩
 ·rename_i t l
  have hkd:=D2 (t:=t) hE
  obtain ⟨x,rfl,h1⟩:=one hxs
  split at h <;> first | (cases h; done) | skip
  rename_i e1
  rw [e1] at hkd
  have hkd' : P.underlying t = some .string:=hkd
  simp only [Option.some.injEq] at h
  obtain ⟨rfl,rfl⟩:=F2 h
  have h4:=(h1 _ rfl).1
  have h5 : ρ x = D9 l:=h4
  have e5 : (⟨l.toArray⟩ : ByteArray).size = l.length:=by show l.toArray.size = _; simp
  exact ⟨fun d pos aft g=>by simp [execOp,resolve,invoke,builtin,h5,Builtin.len_,run_underlying hkd',goInt,SV.den,Ch.den,e5,-ByteArray.size_data],trivial⟩
 all_goals
  obtain ⟨x,y,rfl,h1,h2⟩:=two hxs
  simp only [Option.some.injEq] at h
  obtain ⟨rfl,rfl⟩:=F2 h
  have h3:=(h1 _ rfl).1
  have h4:=(h2 _ rfl).1
  simp only [SV.den,Ch.den] at h3 h4
  exact ⟨fun d pos aft g=>by simp [execOp,resolve,invoke,builtin,h3,h4,run_max_int2,run_min_int2,du2,dm9,SV.den,Ch.den],trivial⟩
end
end Go.Proofs.YtmjbiocildkhnaaGreatDoor
end

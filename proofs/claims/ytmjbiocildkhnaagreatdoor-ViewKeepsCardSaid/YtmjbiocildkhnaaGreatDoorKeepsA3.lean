/- Part 3. -/
import Derived.Test.YtmjbiocildkhnaaGreatDoorKeepsA1
import Derived.Test.YtmjbiocildkhnaaGreatDoorKeepsA2
import Derived.Lib.ItoaNum
import Derived.Laws.IdiomStrings
import Derived.Shelf.Strings.Builder1
import Derived.Shelf.Strings.Builder2
import Derived.Shelf.Strings.Trim
import Derived.Shelf.Small.Utf8
import Derived.Shelf.Small.Strs
import Derived.Shelf.Small.Wraps
import Derived.Shelf.Strings.BuilderF
import Derived.Shelf.Strings.BuilderK
import Derived.Shelf.Strings.Builder2Cap
import Derived.Shelf.Strconv.Atoi
import Derived.Shelf.Strconv.Itoa0
import Derived.Shelf.Strconv.Itoa1
import Derived.Shelf.LaysM
import Derived.Shelf.Strconv.Itoa2
import Derived.Shelf.Strconv.Itoa3
import Derived.Shelf.Strconv.AtoiErrFast
import Derived.Shelf.Strconv.ParseIntEmpty
import Derived.Shelf.Strconv.AtoiFail
import Derived.Shelf.Strconv.Clone
import Derived.Shelf.Strconv.SyntaxError
import Derived.Shelf.LaysC
import Derived.Shelf.Strconv.ToError
import Derived.Shelf.Strconv.AtoiErr
import Derived.Shelf.Strconv.ErrVar
import Derived.Shelf.Strconv.Lower
import Derived.Shelf.Strconv.ParseUint10
import Derived.Shelf.Strconv.ParseUint10Empty
import Derived.Shelf.Strconv.ParseUint10Any
import Derived.Shelf.Strconv.ParseInt10
import Derived.Shelf.Strconv.AtoiLong
import Derived.Shelf.Strconv.AtoiInnerAll
import Derived.Shelf.Strconv.RangeError
import Derived.Shelf.Strconv.ToErrorRange
import Derived.Shelf.Strconv.AtoiAll
import Derived.Shelf.Strconv.ErrVarAll
import Derived.Shelf.Strconv.ParseUintEmpty
import Derived.Shelf.Strconv.ParseUint10b64
import Derived.Shelf.Strconv.ParseUint10b32
import Derived.Shelf.Strconv.ParseUint10b16
import Derived.Shelf.Strconv.ParseUint10b8
import Derived.Shelf.Strconv.ParseUint10At
import Derived.Shelf.Strconv.ParseInt10At64
import Derived.Shelf.Strconv.ParseInt10At32
import Derived.Shelf.Strconv.ParseInt10At16
import Derived.Shelf.Strconv.ParseInt10At8
import Derived.Shelf.Strconv.ParseInt10All
import Derived.Shelf.Strings.Search1
import Derived.Shelf.Strings.Search2
import Derived.Shelf.Strings.Cut
import Derived.Shelf.Strings.Shaped
import Derived.Shelf.Strings.Prefix
import Derived.Shelf.Unicode.Decode
import Derived.Shelf.Strings.Runes
import Derived.Shelf.Strings.AsciiSet
import Derived.Shelf.Bits.Mul64
import Derived.Shelf.Strings.Repeat
import Derived.Shelf.Unicode.DecodeSlow
import Derived.Shelf.Unicode.DecodeAny
import Derived.Shelf.Unicode.DecodeLast
import Derived.Shelf.Strings.BuilderCap
import Derived.Test.YtmjbiocildkhnaaGreatDoorProg
import Derived.Shelf.Strings.SlTrimAscii
import Derived.Lib.IndexLaws
set_option linter.unusedSimpArgs false
set_option linter.unusedVariables false
set_option maxRecDepth 100000
set_option maxHeartbeats 8000000
section
namespace Go.Proofs.YtmjbiocildkhnaaGreatDoor
open Go Go.RowKit Tryz
def GivesD (P : Program) (f : FuncId) (args : List Value) (u : FrameMode) (w : World) (Φ : FrameMode → World → Prop) : Prop:=
 CallsD P f args.toArray u w fun e u' w'=>(∃ v,e = .returned v) ∧ Φ u' w'
def d64 (P : Program) (fn : Func) (Ψ : Value → World → Prop) (g : FuncId) (caps : List Value) : F1:=fun e ρ w=>match e with
 | .normal | .ret=>GivesD P g caps .returning w fun u' w'=>u' = .returning ∧ ∃ vs,O7 P ρ w' fn.results.toList vs ∧ Ψ (bb4 vs) w'
 | .panic ch=>GivesD P g caps (.panicking ch) w fun u' w'=>settle u' = .returning ∧ ∃ vs,O7 P ρ w' fn.results.toList vs ∧ Ψ (bb4 vs) w'
 | _=>False
def WpD (P : Program) (n : Nat) (c : Code) (Q : Exit → Act → World → Prop) (D : List Deferred) (ρ : Fr) (w : World) : Prop:=
 L4 n c = true → ∀ a,Mt n D a ρ → c.wp P Q a w
def d26 : F1:=fun _ _ _=>False
section
variable {P : Program} {n : Nat} {Q : Exit → Act → World → Prop} {D : List Deferred} {ρ : Fr} {w : World}
theorem az6 {a b : Code} (h : Wp P n a (J6 (fun ρ w=>WpD P n b Q D ρ w) d26) ρ w) : WpD P n (.seq a b) Q D ρ w:=by
 intro hc act hm
 simp only [L4,Bool.and_eq_true] at hc
 unfold Wp at h
 refine Go.wp_seq (Go.wp_mono (h hc.1 _ act hm) ?_)
 rintro e a' w' ⟨ρ',hm',hq⟩
 cases e with
 | normal=>exact hq hc.2 a' hm'
 | _=>exact hq.elim
theorem ay8 {c : Code} {Q' : F1} (h : Wp P n c Q' ρ w) (k : ∀ e a ρ w,Mt n D a ρ → Q' e ρ w → Q e a w) : WpD P n c Q D ρ w:=by
 intro hc act hm
 unfold Wp at h
 refine Go.wp_mono (h hc _ act hm) ?_
 rintro e a' w' ⟨ρ',hm',hq⟩
 exact k _ _ _ _ hm' hq
theorem S3 {j : Nat} {b : Code} {d : Tmp} {g : FuncId} {cap : List Operand} {ty ty2 : TypeId} {pos pos2 : String} {aft aft2 : Array Edge} {ts : Array TypeId}
  (h : WpD P n b Q (⟨.fn (.func g) (cap.map (ev ρ)).toArray,#[]⟩ :: D) (upd ρ d (.func (.func g) #[] (cap.map (ev ρ)).toArray)) w) :
  WpD P n (.seq (.region j #[⟨some d,.makeFunc (.func g) #[] cap.toArray,ty,pos,aft,none⟩,⟨none,.defer ⟨.value (.tmp d),#[],ts⟩,ty2,pos2,aft2,none⟩] false) b) Q D ρ w:=by
 intro hc act hm
 simp only [L4,Bool.and_eq_true] at hc
 have hd : Nat.blt d n = true:=by
  have:=hc.1
  simp [Y3] at this
  simpa using this
 refine Go.wp_seq (wp_region_lit (l:=[_,_]) ?_)
 refine wpList_plain rfl fun K hK=>?_
 unfold Oper.wp
 rw [hm.eval]
 have hr1 : (execOp (ev ρ) ⟨some d,.makeFunc (.func g) #[] cap.toArray,ty,pos,aft,none⟩).run P w = .ok (.value (.func (.func g) #[] (cap.map (ev ρ)).toArray)) w:=by simp [execOp,Instr.makeFunc]
 rw [hr1]
 have hm2:=hm.put hd (.func (.func g) #[] (cap.map (ev ρ)).toArray)
 refine hK _ _ ?_
 refine wpList_plain rfl fun K2 hK2=>?_
 unfold Oper.wp
 rw [hm2.eval]
 have hr2 : (execOp (ev (upd ρ d (.func (.func g) #[] (cap.map (ev ρ)).toArray))) ⟨none,.defer ⟨.value (.tmp d),#[],ts⟩,ty2,pos2,aft2,none⟩).run P w = .ok (.defer ⟨.fn (.func g) (cap.map (ev ρ)).toArray,#[]⟩) w:=by
  simp [execOp,resolve,Deferred.ofValue,ev,B9]
 rw [hr2]
 refine hK2 _ _ (wpList_nil ?_)
 exact h hc.2 _ ⟨hm2.size,by show _ :: _ = _ :: _; rw [hm2.defers],hm2.get⟩
end
theorem P6 {P : Program} {f : FuncId} {fn : Func} {c : Code} {args : List Value} {w : World} {Ψ : Value → World → Prop}
  (hf : P.funcs[f]? = some fn) (hb : fn.body = some c) (hok : L4 fn.ntmps c = true) (hn0 : Nat.ble args.length fn.ntmps = true)
  (h : WpD P fn.ntmps c (bodyPostD P fn fun e w'=>∃ v,e = .returned v ∧ Ψ v w') [] (fun i=>args.getD i undef) w) : Gives P f args w Ψ:=
 calls_of_wp_defers hf hb (h hok _ (a16 fn hn0))
theorem ap0 {P : Program} {fn : Func} {Ψ : Value → World → Prop} {g : FuncId} {caps : List Value} [ci : CallI P g] {e : Exit} {a : Act} {ρ : Fr} {w : World}
  (hm : Mt fn.ntmps [⟨.fn (.func g) caps.toArray,#[]⟩] a ρ) (h : d64 P fn Ψ g caps e ρ w) : bodyPostD P fn (fun e w'=>∃ v,e = .returned v ∧ Ψ v w') e a w:=by
 have hi : (invoke (.fn (.func g) caps.toArray) #[]).run P w = .ok (.enter g caps.toArray) w:=by simp [invoke,ci.run]
 have hret : ∀ w',(∃ vs,O7 P ρ w' fn.results.toList vs ∧ Ψ (bb4 vs) w') → Leaves P fn a.tmps (fun e w'=>∃ v,e = .returned v ∧ Ψ v w') [] .returning w':=by
  rintro w' ⟨vs,hr,hv⟩
  exact ⟨_,G9 hm hr,_,rfl,hv⟩
 have hn : (h : GivesD P g caps .returning w fun u' w'=>u' = .returning ∧ ∃ vs,O7 P ρ w' fn.results.toList vs ∧ Ψ (bb4 vs) w') → Leaves P fn a.tmps (fun e w'=>∃ v,e = .returned v ∧ Ψ v w') a.defers .returning w:=by
  intro h
  rw [hm.defers]
  refine leaves_cons (by simp) hi (CallsD.mono h ?_)
  rintro e u' w' ⟨⟨v,rfl⟩,rfl,hv⟩
  exact hret w' hv
 cases e with
 | normal=>exact hn h
 | ret=>exact hn h
 | panic ch=>
  show Leaves P fn a.tmps _ a.defers (.panicking ch) w
  rw [hm.defers]
  refine leaves_cons (by simp) hi (CallsD.mono h ?_)
  rintro e u' w' ⟨⟨v,rfl⟩,hs,hv⟩
  show Leaves P fn a.tmps _ [] (settle u') w'
  rw [hs]
  exact hret w' hv
 | _=>exact h.elim
def d72 (P : Program) (fn : Func) (K : World → Prop) : F1:=fun e ρ w=>match e with
 | .normal | .ret=>∃ vs,O7 P ρ w fn.results.toList vs ∧ K w
 | _=>False
theorem db9 {P : Program} {ops : Array Oper} {Q : Exit → Act → List Frame → World → Prop} {i : Nat} {rest : List Nat} {a : Act} {cs : List Frame} {w w' : World} {o : Oper} (h0 : ops[i]? = some o) (hg : o.guard = none)
  (hr : (execOp a.eval o).run P w = .ok .recover w')
  (h : match recoverD cs with | some (v,cs')=>wpOpsS P ops Q rest (a.put o.dst v) cs' w' | none=>wpOpsS P ops Q rest (a.put o.dst .nilIface) cs w') : wpOpsS P ops Q (i :: rest) a cs w:=by
 unfold wpOpsS
 simp only [h0,Region.wanted,hg,hr,if_true]
 exact h
theorem b10 {P : Program} {ops : Array Oper} {Q : Exit → Act → List Frame → World → Prop} {i : Nat} {rest : List Nat} {a : Act} {cs : List Frame} {w w' : World} {o : Oper} {v : Value} (h0 : ops[i]? = some o) (hg : o.guard = none)
  (hr : (execOp a.eval o).run P w = .ok (.value v) w') (h : wpOpsS P ops Q rest (a.put o.dst v) cs w') : wpOpsS P ops Q (i :: rest) a cs w:=by
 unfold wpOpsS
 simp only [h0,Region.wanted,hg,hr,if_true,Oper.upon]
 exact h
theorem E8 {P : Program} {f : FuncId} {fn : Func} {j : Nat} {d1 d2 : Tmp} {ty ty2 : TypeId} {pos pos2 : String} {aft aft2 : Array Edge} {c1 : Code} {args : List Value} {u u2 : FrameMode} {v : Value} {w : World} {Φ : FrameMode → World → Prop}
  (hf : P.funcs[f]? = some fn)
  (hb : fn.body = some (.seq (.region j #[⟨some d1,.call ⟨.builtin .recover,#[],#[]⟩,ty,pos,aft,none⟩,⟨some d2,.assign (.tmp d1),ty2,pos2,aft2,none⟩] false) c1))
  (hn0 : Nat.ble args.length fn.ntmps = true) (hd1 : Nat.blt d1 fn.ntmps = true) (hd2 : Nat.blt d2 fn.ntmps = true) (hok : L4 fn.ntmps c1 = true)
  (hu : (u = .returning ∧ u2 = .returning ∧ v = .nilIface) ∨ ∃ x,u = .panicking [{ v:=x,recovered:=false }] ∧ u2 = .panicking [{ v:=x,recovered:=true }] ∧ v = x)
  (h : Wp P fn.ntmps c1 (d72 P fn (Φ u2)) (upd (upd (fun i=>args.getD i undef) d1 v) d2 v) w) : GivesD P f args u w Φ:=by
 refine callsD_of_wpS hf hb fun c₀ cs hm=>?_
 have m0:=a16 fn hn0
 have m1:=m0.put hd1 v
 have m2:=m1.put hd2 v
 refine wpS_seq (wpS_region ?_)
 have hrange : List.range (#[(⟨some d1,.call ⟨.builtin .recover,#[],#[]⟩,ty,pos,aft,none⟩ : Oper),⟨some d2,.assign (.tmp d1),ty2,pos2,aft2,none⟩]).size = [0,1]:=rfl
 rw [hrange]
 have hrest : ∀ cs',cs' = { c₀ with mode:=u2 } :: cs → Code.wpS P c1 (bodyPostS P fn c₀ cs fun e u' w'=>(∃ v,e = .returned v) ∧ Φ u' w')
   (({ tmps:=args.toArray ++ Array.replicate (fn.ntmps - args.toArray.size) undef,defers:=[] } : Act).put (some d1) v |>.put (some d2) v) cs' w:=by
  rintro cs' rfl
  refine wpS_of_wp ?_
  unfold Wp at h
  refine Go.wp_mono (h hok _ _ m2) ?_
  rintro e a w' ⟨ρ,hm',hq⟩
  cases e with
  | normal=>obtain ⟨vs,hr,hv⟩:=hq; exact ⟨hm'.defers,u2,rfl,_,G9 hm' hr,⟨_,rfl⟩,hv⟩
  | ret=>obtain ⟨vs,hr,hv⟩:=hq; exact ⟨hm'.defers,u2,rfl,_,G9 hm' hr,⟨_,rfl⟩,hv⟩
  | _=>exact hq.elim
 have hr0 : ∀ ρ : Operand → Value,(execOp ρ ⟨some d1,.call ⟨.builtin .recover,#[],#[]⟩,ty,pos,aft,none⟩).run P w = .ok .recover w:=fun ρ=>by
  simp [execOp,resolve,invoke,builtin]
 have hr1 : (execOp (({ tmps:=args.toArray ++ Array.replicate (fn.ntmps - args.toArray.size) undef,defers:=[] } : Act).put (some d1) v).eval ⟨some d2,.assign (.tmp d1),ty2,pos2,aft2,none⟩).run P w = .ok (.value v) w:=by
  rw [m1.eval]
  simp [execOp,ev,B9]
 have hrec : (match recoverD (c₀ :: cs) with | some (v',cs')=>v' = v ∧ cs' = { c₀ with mode:=u2 } :: cs | none=>v = .nilIface ∧ c₀ :: cs = { c₀ with mode:=u2 } :: cs):=by
  rcases hu with ⟨rfl,rfl,rfl⟩ | ⟨x,rfl,rfl,rfl⟩
  ·simp only [recoverD,hm]
   refine ⟨trivial,?_⟩
   congr 1
   rw [← hm]
  simp only [recoverD,hm]
  first | exact ⟨trivial,trivial⟩ | exact ⟨trivial,rfl⟩
 refine db9 (o:=⟨some d1,.call ⟨.builtin .recover,#[],#[]⟩,ty,pos,aft,none⟩) rfl rfl (hr0 _) ?_
 cases hr : recoverD (c₀ :: cs) with
 | none=>
  rw [hr] at hrec
  obtain ⟨hv,hcs⟩:=hrec
  subst hv
  exact b10 (o:=⟨some d2,.assign (.tmp d1),ty2,pos2,aft2,none⟩) rfl rfl hr1 (hrest _ hcs)
 | some p=>
  obtain ⟨v',cs'⟩:=p
  rw [hr] at hrec
  obtain ⟨hv,hcs⟩:=hrec
  subst hv
  exact b10 (o:=⟨some d2,.assign (.tmp d1),ty2,pos2,aft2,none⟩) rfl rfl hr1 (hrest _ hcs)
def cg0 : List PanicEntry:=[{ v:=.iface 196 (.agg #[]),recovered:=false }]
theorem co7 {S : Nat → Prop} {w : World} {v : Value} {z : Int} (hS : Up S w) (h : IntV S 193 .u32 w v z) :
  GivesE prog 156 [v] w (fun v' w'=>v' = v ∧ Ext w w' ∧ z.natAbs < Big) fun ch w'=>ch = cg0 ∧ Ext w w' ∧ ¬ z.natAbs < Big:=by
 obtain ⟨m,rfl,hm⟩:=h
 refine bq1 func156 rfl rfl rfl ?_
 repeat refine wW ?_
 refine r7 (cs:=[.bool (tst (z < 0)),m]) rfl ?_
 intro w1 g k1 hg hgs
 skip
 refine q8 (cs:=[.bool false,.slice none 0 0]) rfl ?_
 intro w2 g2 k2 hg2 hgs2
 have hgl:=hg.lt
 replace hg:=hg.to k2
 have k:=k1.trans k2
 repeat (first | refine f5 rfl hg rfl ?_ | refine wW ?_ | refine d7 ?_ | refine j5 rfl ?_)
 refine i1 (cv7 (hS.to k) (hm.to k)) rfl ?_
 rintro v3 w3 ⟨rfl,k3⟩
 repeat (first | refine wW ?_ | refine a84 rfl ?_)
 try refine i6 ?_
 refine j4 rfl ?_ ?_ <;> intro hc
 ·repeat (first | refine Z0 ?_)
  refine a19 (cs:=[]) rfl ?_
  refine dk6 rfl ?_
  refine dl6 rfl ?_
  refine L3 (aw4 ⟨rfl,k.trans k3,hc⟩)
 repeat (first | refine n7 rfl (hg.to k3) rfl ?_ | refine wW ?_ | refine wp_skip ?_)
 refine B1 rfl (by conv=>(lhs; whnf)) (hg2.to k3) rfl hm.one ?_
 intro w4 k4 hg4
 repeat refine wW ?_
 exact cl0 (R6 rfl (n6 hg4 rfl) ⟨rfl,Keeps.past (k.trans k3) k4 (by have:=k1.size; omega),Classical.not_not.1 hc⟩)
def R0 (q : Rat) : Prop:=q.num.natAbs < Big ∧ q.den < Big
theorem dm3 {S : Nat → Prop} {w : World} {v : Value} {q : Rat} (hS : Up S w) (h : RatV S w v q) :
  GivesE prog 116 [v] w (fun v' w'=>v' = v ∧ Ext w w' ∧ R0 q) fun ch w'=>ch = cg0 ∧ Ext w w' ∧ ¬ R0 q:=by
 have h0:=h
 obtain ⟨m,b,rfl,hm,hb⟩:=h
 refine bq1 func116 rfl rfl rfl ?_
 repeat refine wW ?_
 refine r7 (cs:=[.bool (tst (q.num < 0)),m,b]) rfl ?_
 intro w1 g k1 hg hgs
 skip
 refine q8 (cs:=[.bool false,.slice none 0 0,.slice none 0 0]) rfl ?_
 intro w2 g2 k2 hg2 hgs2
 have hgl:=hg.lt
 replace hg:=hg.to k2
 have k:=k1.trans k2
 have hk1:=k1.size
 replace hS:=hS.to k
 replace h0:=h0.to k
 repeat (first | refine p8 rfl hg rfl rfl ?_ | refine wW ?_ | refine j5 rfl ?_)
 refine cn9 (co7 (z:=q.num) hS ⟨m,rfl,hm.to k⟩) rfl ?_ ?_
 ·rintro v3 w3 ⟨_,k3,hf⟩
  repeat (first | refine n7 rfl (hg.to k3) rfl ?_ | refine wW ?_)
  refine i1 (a96 (hS.to k3) (h0.to k3)) rfl ?_
  rintro v4 w4 ⟨k4,h4⟩
  refine i1 (br2 h4) rfl ?_
  rintro v5 w5 ⟨k5,h5⟩
  refine cn9 (co7 (z:=(q.den : Int)) (hS.to ((k3.trans k4).trans k5)) h5) rfl ?_ ?_
  ·rintro v6 w6 ⟨_,k6,hf2⟩
   have k36:=((k3.trans k4).trans k5).trans k6
   repeat (first | refine n7 rfl (hg.to k36) rfl ?_ | refine wW ?_)
   refine G3 rfl (by conv=>(lhs; whnf)) (hg2.to k36) rfl rfl hm.one hb.one ?_
   intro w7 k7 hg7
   repeat refine wW ?_
   exact cl0 (R6 rfl (n6 hg7 rfl) ⟨rfl,Keeps.past (k.trans k36) k7 (by omega),hf,by rwa [Int.natAbs_natCast] at hf2⟩)
  rintro ch w6 ⟨rfl,k6,hf2⟩
  exact L3 (aw4 ⟨rfl,((k.trans k3).trans k4).trans (k5.trans k6),fun h=>hf2 (by rw [Int.natAbs_natCast]; exact h.2)⟩)
 rintro ch w3 ⟨rfl,k3,hf⟩
 exact L3 (aw4 ⟨rfl,k.trans k3,fun h=>hf h.1⟩)
theorem b64 {w : World} {g1 g2 : Nat} : GivesD prog 154 [.pointer (some ⟨g1,0,none⟩),.pointer (some ⟨g2,0,none⟩)] .returning w fun u' w'=>u' = .returning ∧ w' = w:=by
 refine E8 func154 rfl rfl rfl rfl rfl (.inl ⟨rfl,rfl,rfl⟩) ?_
 repeat (first | refine O9 rfl ?_ | refine wW ?_ | refine wp_skip ?_ | refine wp_cond_false rfl ?_)
 exact ⟨[],rfl,rfl,rfl⟩
theorem cc7 {w : World} {g1 g2 : Nat} {cs1 : List Value} {e : Value} (h1 : Blk w g1 41 cs1) (hl : cs1.length = 3) (h2 : Blk w g2 44 [e]) :
  GivesD prog 154 [.pointer (some ⟨g1,0,none⟩),.pointer (some ⟨g2,0,none⟩)] (.panicking cg0) w fun u' w'=>settle u' = .returning ∧
   Keeps (fun k=>k ≠ g1 ∧ k ≠ g2) w w' ∧ Blk w' g1 41 [.bool false,.slice none 0 0,.slice none 0 0] ∧ Blk w' g2 44 [.int .i64 11]:=by
 have hne : g1 ≠ g2:=h1.ne h2 (by decide)
 refine E8 func154 rfl rfl rfl rfl rfl (.inr ⟨_,rfl,rfl,rfl⟩) ?_
 repeat (first | refine aa0 rfl ?_ | refine ap1 rfl ?_ | refine wW ?_ | refine d7 ?_ | refine B4 rfl rfl ?_ | refine wp_cond_true rfl ?_)
 refine q8 (cs:=[]) rfl ?_
 intro w1 g3 k1 hg3 hgs3
 have hl1:=h1.lt
 have hl2:=h2.lt
 refine z8 (us:=[]) rfl (by conv=>(lhs; whnf)) rfl rfl hg3 rfl (fun v hv=>by cases hv) ?_
 intro w2 k2 hg32
 repeat (first | refine av0 rfl ?_ | refine wW ?_ | refine wp_skip ?_ | refine wp_cond_false rfl ?_)
 refine q8 (cs:=[.bool false,.slice none 0 0,.slice none 0 0]) rfl ?_
 intro w3 g5 k3 hg5 hgs5
 have k : Ext w w3:=(Keeps.past k1 k2 hgs3).trans k3
 repeat (first | refine n7 rfl hg5 rfl ?_ | refine wW ?_)
 refine G3 rfl (by conv=>(lhs; whnf)) (h1.to k) hl rfl rfl rfl ?_
 intro w4 k4 h14
 skip
 refine J4 (u:=.int .i64 11) rfl rfl ((h2.to k).wr k4 (fun e=>hne e.symm)) (show 0 < 1 by decide) rfl ?_
 intro w5 k5 h25
 repeat (first | refine b8 ?_)
 refine ⟨[],rfl,rfl,?_,h14.wr k5 hne,h25⟩
 exact ((Keeps.of k).trans (k4.mono fun i hi=>hi.1)).trans (k5.mono fun i hi=>hi.2)
theorem GivesD.mono {P : Program} {f : FuncId} {args : List Value} {u : FrameMode} {w : World} {Φ Φ' : FrameMode → World → Prop} (h : GivesD P f args u w Φ) (k : ∀ u' w',Φ u' w' → Φ' u' w') : GivesD P f args u w Φ':=
 CallsD.mono h fun e u' w' ⟨he,hp⟩=>⟨he,k _ _ hp⟩
def bg1 (S : Nat → Prop) (w : World) (v : Value) (q : Rat) : Prop:=
 ∃ r e,v = .tuple #[r,.int .i64 e] ∧ (R0 q ∧ e = 0 ∧ RatV S w r q ∨ ¬ R0 q ∧ e = 11 ∧ RatV S w r 0)
theorem y6 {S : Nat → Prop} {w : World} : RatV S w (.agg #[.bool false,.slice none 0 0,.slice none 0 0]) 0:=⟨_,_,by rw [l7 (by decide)],.nil,.nil⟩
theorem ak4 {S : Nat → Prop} {w : World} {v : Value} {q : Rat} (hS : Up S w) (h : RatV S w v q) :
  Gives prog 114 [.func (.func 116) #[v] #[]] w fun v' w'=>Ext w w' ∧ bg1 S w' v' q:=by
 refine P6 func114 rfl rfl rfl ?_
 refine az6 ?_
 repeat (first | refine Z0 ?_)
 refine q8 (cs:=[.bool false,.slice none 0 0,.slice none 0 0]) rfl ?_
 intro w1 g1 k1 hg1 hgs1
 skip
 refine q8 (cs:=[.int .i64 0]) rfl ?_
 intro w2 g2 k2 hg2 hgs2
 have hgl:=hg1.lt
 replace hg1:=hg1.to k2
 have k:=k1.trans k2
 have hk1:=k1.size
 repeat refine wW ?_
 refine S3 ?_
 refine ay8 ?_ (fun e a ρ w hm hq=>ap0 hm hq)
 repeat refine wW ?_
 refine aq0 (first:=[v]) (cap:=[]) rfl (dm3 (hS.to k) (h.to k)) rfl ?_ ?_
 ·rintro v3 w3 ⟨rfl,k3,hf⟩
  have h3:=h.to (k.trans k3)
  obtain ⟨m,b,hv,hm,hb⟩:=h3
  skip
  refine G3 rfl hv (hg1.to k3) rfl rfl hm.one hb.one ?_
  intro w4 k4 hg4
  have hg24:=(hg2.to k3).wr k4 (by omega)
  refine J4 (u:=.int .i64 0) rfl rfl hg24 (show 0 < 1 by decide) rfl ?_
  intro w5 k5 hg5
  have hg45:=hg4.wr k5 (by omega)
  repeat refine wW ?_
  refine b64.mono ?_
  rintro u' w' ⟨rfl,rfl⟩
  refine ⟨rfl,[.agg #[.bool (tst (q.num < 0)),m,b],.int .i64 0],⟨_,_,n6 hg45 rfl,⟨_,_,N1 (by conv=>(lhs; whnf)) hg5,rfl,rfl⟩,rfl⟩,?_⟩
  exact ⟨((Keeps.past (k.trans k3) k4 (by omega)).past k5 (by omega)),_,_,rfl,.inl ⟨hf,rfl,m,b,rfl,(hm.wrT k4 (hg1.to k3) (by decide)).wrT k5 hg24 (by decide),(hb.wrT k4 (hg1.to k3) (by decide)).wrT k5 hg24 (by decide)⟩⟩
 rintro ch w3 ⟨rfl,k3,hf⟩
 refine L3 ?_
 refine (cc7 (hg1.to k3) rfl (hg2.to k3)).mono ?_
 rintro u' w' ⟨hu,k4,h1,h2⟩
 refine ⟨hu,[.agg #[.bool false,.slice none 0 0,.slice none 0 0],.int .i64 11],⟨_,_,n6 h1 rfl,⟨_,_,N1 (by conv=>(lhs; whnf)) h2,rfl,rfl⟩,rfl⟩,?_⟩
 exact ⟨Keeps.later (k.trans k3) k4 (fun i hi _=>⟨by omega,by omega⟩),_,_,rfl,.inr ⟨hf,rfl,y6⟩⟩
theorem dt4 {S : Nat → Prop} {w : World} {va vb : Value} {a b : Rat} (hS : Up S w) (ha : RatV S w va a) (hb : RatV S w vb b) (hla : rl a 400000000000) (hlb : rl b 400000000000) :
  Gives prog 151 [va,vb] w fun v' w'=>Ext w w' ∧ bg1 S w' v' (a + b):=by
 have ha0:=ha
 have hb0:=hb
 obtain ⟨ma,ba,rfl,hma,hba⟩:=ha
 obtain ⟨mb,bb,rfl,hmb,hbb⟩:=hb
 refine l8 func151 rfl rfl rfl ?_
 repeat refine wW ?_
 refine r7 (cs:=[.bool (tst (a.num < 0)),ma,ba]) rfl ?_
 intro w1 ga k1 hga hgsa
 skip
 refine r7 (cs:=[.bool (tst (b.num < 0)),mb,bb]) rfl ?_
 intro w2 gb k2 hgb hgsb
 skip
 refine q8 (cs:=[.bool false,.slice none 0 0,.slice none 0 0]) rfl ?_
 intro w3 g k3 hg hgs
 replace hga:=hga.to (k2.trans k3)
 replace hgb:=hgb.to k3
 have k:=(k1.trans k2).trans k3
 have hs:=(k1.trans k2).size
 replace ha0:=ha0.to k
 replace hb0:=hb0.to k
 replace hma:=hma.to k
 replace hmb:=hmb.to k
 replace hba:=hba.to k
 replace hbb:=hbb.to k
 replace hS:=hS.to k
 clear k1 k2 k3
 repeat refine wW ?_
 repeat (first | refine n7 rfl hga rfl ?_ | refine n7 rfl hgb rfl ?_)
 refine i1 (dk2 hS ha0 hb0 hla hlb) rfl ?_
 rintro v4 w4 ⟨k4,h4⟩
 repeat (first | refine aq9 ?_)
 refine i1 (ak4 (hS.to k4) h4) rfl ?_
 rintro v5 w5 ⟨k5,r,e,rfl,hor⟩
 repeat (first | refine B4 rfl rfl ?_)
 have k':=(k.trans k4).trans k5
 replace hg:=(hg.to k4).to k5
 rcases hor with ⟨hf,rfl,m,b,rfl,hm,hb⟩ | ⟨hf,rfl,m,b,rfl,hm,hb⟩
 ·refine G3 rfl rfl hg rfl rfl hm.one hb.one ?_
  intro w6 k6 hg6
  repeat refine wW ?_
  exact bh7 rfl (n6 hg6 rfl) (B8 (by conv=>(lhs; whnf))) ⟨Keeps.past k' k6 (by omega),_,_,rfl,.inl ⟨hf,rfl,m,b,rfl,hm.wrT k6 hg (by decide),hb.wrT k6 hg (by decide)⟩⟩
 refine G3 rfl rfl hg rfl rfl hm.one hb.one ?_
 intro w6 k6 hg6
 repeat refine wW ?_
 exact bh7 rfl (n6 hg6 rfl) (B8 (by conv=>(lhs; whnf))) ⟨Keeps.past k' k6 (by omega),_,_,rfl,.inr ⟨hf,rfl,m,b,rfl,hm.wrT k6 hg (by decide),hb.wrT k6 hg (by decide)⟩⟩
theorem dv6 {S : Nat → Prop} {w : World} {va vb : Value} {a b : Rat} (hS : Up S w) (ha : RatV S w va a) (hb : RatV S w vb b) (hla : rl a 400000000000) (hlb : rl b 400000000000) :
  Gives prog 113 [va,vb] w fun v' w'=>Ext w w' ∧ bg1 S w' v' (a * b):=by
 have ha0:=ha
 have hb0:=hb
 obtain ⟨ma,ba,rfl,hma,hba⟩:=ha
 obtain ⟨mb,bb,rfl,hmb,hbb⟩:=hb
 refine l8 func113 rfl rfl rfl ?_
 repeat refine wW ?_
 refine r7 (cs:=[.bool (tst (a.num < 0)),ma,ba]) rfl ?_
 intro w1 ga k1 hga hgsa
 skip
 refine r7 (cs:=[.bool (tst (b.num < 0)),mb,bb]) rfl ?_
 intro w2 gb k2 hgb hgsb
 skip
 refine q8 (cs:=[.bool false,.slice none 0 0,.slice none 0 0]) rfl ?_
 intro w3 g k3 hg hgs
 replace hga:=hga.to (k2.trans k3)
 replace hgb:=hgb.to k3
 have k:=(k1.trans k2).trans k3
 have hs:=(k1.trans k2).size
 replace ha0:=ha0.to k
 replace hb0:=hb0.to k
 replace hma:=hma.to k
 replace hmb:=hmb.to k
 replace hba:=hba.to k
 replace hbb:=hbb.to k
 replace hS:=hS.to k
 clear k1 k2 k3
 repeat refine wW ?_
 repeat (first | refine n7 rfl hga rfl ?_ | refine n7 rfl hgb rfl ?_)
 refine i1 (da8 hS ha0 hb0 hla hlb) rfl ?_
 rintro v4 w4 ⟨k4,h4⟩
 repeat (first | refine aq9 ?_)
 refine i1 (ak4 (hS.to k4) h4) rfl ?_
 rintro v5 w5 ⟨k5,r,e,rfl,hor⟩
 repeat (first | refine B4 rfl rfl ?_)
 have k':=(k.trans k4).trans k5
 replace hg:=(hg.to k4).to k5
 rcases hor with ⟨hf,rfl,m,b,rfl,hm,hb⟩ | ⟨hf,rfl,m,b,rfl,hm,hb⟩
 ·refine G3 rfl rfl hg rfl rfl hm.one hb.one ?_
  intro w6 k6 hg6
  repeat refine wW ?_
  exact bh7 rfl (n6 hg6 rfl) (B8 (by conv=>(lhs; whnf))) ⟨Keeps.past k' k6 (by omega),_,_,rfl,.inl ⟨hf,rfl,m,b,rfl,hm.wrT k6 hg (by decide),hb.wrT k6 hg (by decide)⟩⟩
 refine G3 rfl rfl hg rfl rfl hm.one hb.one ?_
 intro w6 k6 hg6
 repeat refine wW ?_
 exact bh7 rfl (n6 hg6 rfl) (B8 (by conv=>(lhs; whnf))) ⟨Keeps.past k' k6 (by omega),_,_,rfl,.inr ⟨hf,rfl,m,b,rfl,hm.wrT k6 hg (by decide),hb.wrT k6 hg (by decide)⟩⟩
theorem ao5 {S : Nat → Prop} {w : World} {va vb : Value} {a b : Rat} (hS : Up S w) (ha : RatV S w va a) (hb : RatV S w vb b) (hla : rl a 400000000000) (hlb : rl b 400000000000) (hb0' : b.num ≠ 0) :
  Gives prog 63 [va,vb] w fun v' w'=>Ext w w' ∧ bg1 S w' v' (a / b):=by
 have ha0:=ha
 have hb0:=hb
 obtain ⟨ma,ba,rfl,hma,hba⟩:=ha
 obtain ⟨mb,bb,rfl,hmb,hbb⟩:=hb
 refine l8 func63 rfl rfl rfl ?_
 repeat refine wW ?_
 refine r7 (cs:=[.bool (tst (a.num < 0)),ma,ba]) rfl ?_
 intro w1 ga k1 hga hgsa
 skip
 refine r7 (cs:=[.bool (tst (b.num < 0)),mb,bb]) rfl ?_
 intro w2 gb k2 hgb hgsb
 skip
 refine q8 (cs:=[.bool false,.slice none 0 0,.slice none 0 0]) rfl ?_
 intro w3 g k3 hg hgs
 replace hga:=hga.to (k2.trans k3)
 replace hgb:=hgb.to k3
 have k:=(k1.trans k2).trans k3
 have hs:=(k1.trans k2).size
 replace ha0:=ha0.to k
 replace hb0:=hb0.to k
 replace hma:=hma.to k
 replace hmb:=hmb.to k
 replace hba:=hba.to k
 replace hbb:=hbb.to k
 replace hS:=hS.to k
 clear k1 k2 k3
 repeat (first | refine wW ?_ | refine d7 ?_)
 repeat (first | refine n7 rfl hgb rfl ?_)
 refine i1 (cn7 hb0) rfl ?_
 rintro v3 w3 ⟨rfl,k3⟩
 replace hS:=hS.to k3
 replace hga:=hga.to k3
 replace hgb:=hgb.to k3
 replace hg:=hg.to k3
 replace ha0:=ha0.to k3
 replace hb0:=hb0.to k3
 replace k:=k.trans k3
 have hsg : b.num.sign ≠ 0:=fun h=>hb0' (Int.sign_eq_zero_iff_zero.1 h)
 repeat (first | refine n7 rfl hga rfl ?_ | refine n7 rfl hgb rfl ?_ | refine wW ?_ | refine wp_skip ?_ | refine Z7 rfl rfl ?_ | refine bh5 rfl (by omega) ?_)
 refine i1 (di0 hS ha0 hb0 hla hlb hb0') rfl ?_
 rintro v4 w4 ⟨k4,h4⟩
 repeat (first | refine aq9 ?_)
 refine i1 (ak4 (hS.to k4) h4) rfl ?_
 rintro v5 w5 ⟨k5,r,e,rfl,hor⟩
 repeat (first | refine B4 rfl rfl ?_)
 have k':=(k.trans k4).trans k5
 replace hg:=(hg.to k4).to k5
 rcases hor with ⟨hf,rfl,m,b,rfl,hm,hb⟩ | ⟨hf,rfl,m,b,rfl,hm,hb⟩
 ·refine G3 rfl rfl hg rfl rfl hm.one hb.one ?_
  intro w6 k6 hg6
  repeat refine wW ?_
  exact bh7 rfl (n6 hg6 rfl) (B8 (by conv=>(lhs; whnf))) ⟨Keeps.past k' k6 (by omega),_,_,rfl,.inl ⟨hf,rfl,m,b,rfl,hm.wrT k6 hg (by decide),hb.wrT k6 hg (by decide)⟩⟩
 refine G3 rfl rfl hg rfl rfl hm.one hb.one ?_
 intro w6 k6 hg6
 repeat refine wW ?_
 exact bh7 rfl (n6 hg6 rfl) (B8 (by conv=>(lhs; whnf))) ⟨Keeps.past k' k6 (by omega),_,_,rfl,.inr ⟨hf,rfl,m,b,rfl,hm.wrT k6 hg (by decide),hb.wrT k6 hg (by decide)⟩⟩
def R7 (q : Rat) : List UInt8:=Lib.itoa q.num ++ (if q.den = 1 then [] else 47 :: Lib.decDigits q.den)
theorem J8 (a : Nat) {k : Nat} (h : dl a ≤ k) : Lib.nDigits a ≤ 9 * k + 1:=by
 by_cases h0 : a = 0
 ·subst h0; rw [Lib.nDigits_small (by decide)]; omega
 have:=ax9 (n:=a) (by omega); omega
theorem an8 (z : Int) : (Lib.itoa z).length ≤ Lib.nDigits z.natAbs + 1:=by
 unfold Lib.itoa
 split
 ·rw [List.length_cons,Lib.decDigits_length]; omega
 rw [Lib.decDigits_length,show z.toNat = z.natAbs by omega]; omega
theorem c78 {S : Nat → Prop} {w : World} {v : Value} {q : Rat} (ht : Tab w) (h : RatV S w v q) (hl : rl q 400000000000) :
  Gives prog 47 [v] w fun v' w'=>v' = F4 (R7 q) ∧ Ext w w':=by
 obtain ⟨m,b,rfl,hm,hb⟩:=h
 obtain ⟨hl1,hl2⟩:=hl
 have hbl : (dg (bot q)).length = 0 ↔ q.den = 1:=by
  have h1:=@I5 (bot q)
  unfold dl at h1
  rw [h1]
  unfold bot
  have:=q.den_pos
  split <;> omega
 have hn1:=an8 q.num
 have hn2:=J8 q.num.natAbs hl1
 have hn3:=J8 q.den hl2
 refine l8 func47 rfl rfl rfl ?_
 repeat refine wW ?_
 refine r7 (cs:=[.bool (tst (q.num < 0)),m,b]) rfl ?_
 intro w1 g k1 hg hgs
 replace hb:=hb.to k1
 repeat (first | refine p8 rfl hg rfl rfl ?_ | refine wW ?_ | refine j5 rfl ?_)
 refine i1 (be0 (a:=q.num) (ht.to k1) ⟨m,rfl,hm.to k1⟩ (by unfold zl; omega)) rfl ?_
 rintro v2 w2 ⟨rfl,k2⟩
 replace hg:=hg.to k2
 replace hb:=hb.to k2
 repeat (first | refine f5 rfl hg rfl ?_ | refine wW ?_ | refine d7 ?_ | refine A2 (by conv=>(lhs; whnf)) (by assumption) ?_ | refine X6 rfl rfl ?_ | refine j5 rfl ?_)
 try refine i6 ?_
 refine j4 rfl ?_ ?_ <;> intro hc
 ·have hq : ¬ q.den = 1:=fun h=>by have:=hbl.2 h; omega
  have hbq : bot q = q.den:=by unfold bot; rw [if_neg hq]
  rw [hbq] at hb
  repeat (first | refine f5 rfl hg rfl ?_ | refine wW ?_ | refine j5 rfl ?_)
  refine i1 (ch5 ((ht.to k1).to k2) hb (by omega)) rfl ?_
  rintro v3 w3 ⟨rfl,k3⟩
  refine bn4 (a:=[47]) rfl rfl (by rw [Lib.decDigits_length]; simp; omega) ?_
  refine bn4 rfl rfl (by rw [List.length_append,Lib.decDigits_length]; simp; omega) ?_
  repeat refine wW ?_
  refine o7 rfl ⟨?_,(k1.trans k2).trans k3⟩
  unfold R7
  rw [if_neg hq]
  rfl
 have hq : q.den = 1:=hbl.1 (by omega)
 repeat (first | refine wW ?_ | refine wp_skip ?_)
 refine o7 rfl ⟨?_,k1.trans k2⟩
 unfold R7
 rw [if_pos hq,List.append_nil]
end Go.Proofs.YtmjbiocildkhnaaGreatDoor
end
section
namespace Go.Proofs.YtmjbiocildkhnaaGreatDoor
open Go Tryz
def H7 (l : List UInt8) : Nat:=l.foldl (fun a c=>10 * a + (c.toNat - 48)) 0
def Dig (c : UInt8) : Prop:=48 ≤ c.toNat ∧ c.toNat ≤ 57
def X9 (l : List UInt8) : Prop:=l ≠ [] ∧ (∀ c ∈ l,Dig c) ∧ (l.head? = some 48 → l.length = 1)
theorem be2 : H7 [] = 0:=rfl
theorem ai6 (l : List UInt8) (c : UInt8) : H7 (l ++ [c]) = 10 * H7 l + (c.toNat - 48):=by
 unfold H7
 rw [List.foldl_append]
 rfl
theorem b85 (a b : List UInt8) : H7 (a ++ b) = H7 a * 10 ^ b.length + H7 b:=by
 induction h : b.length generalizing b with
 | zero=>
  obtain rfl:=List.eq_nil_of_length_eq_zero h
  simp [be2]
 | succ k ih=>
  have hne : b ≠ []:=by rintro rfl; simp at h
  have e:=List.dropLast_concat_getLast hne
  rw [← e,← List.append_assoc,ai6,ai6,ih b.dropLast (by rw [List.length_dropLast]; omega),Nat.pow_succ]
  rw [Nat.mul_add,Nat.add_assoc,Nat.mul_left_comm,Nat.mul_comm 10]
theorem cm0 {l : List UInt8} (h : ∀ c ∈ l,Dig c) : H7 l < 10 ^ l.length:=by
 induction hl : l.length generalizing l with
 | zero=>
  obtain rfl:=List.eq_nil_of_length_eq_zero hl
  simp [be2]
 | succ k ih=>
  have hne : l ≠ []:=by rintro rfl; simp at hl
  have e:=List.dropLast_concat_getLast hne
  have h1:=ih (l:=l.dropLast) (fun c hc=>h c (List.dropLast_subset _ hc)) (by rw [List.length_dropLast]; omega)
  have h2:=h _ (List.getLast_mem hne)
  rw [← e,ai6,Nat.pow_succ]
  unfold Dig at h2
  omega
theorem R5 (n : Nat) : H7 (Lib.decDigits n) = n:=by
 induction n using Nat.strongRecOn with
 | _ n ih=>
  rw [Lib.decDigits]
  by_cases h : n < 10
  ·rw [dif_pos h]
   show 10 * 0 + ((UInt8.ofNat (48 + n)).toNat - 48) = n
   rw [UInt8.toNat_ofNat']
   omega
  rw [dif_neg h,ai6,ih _ (by omega),UInt8.toNat_ofNat']
  omega
theorem c82 (n : Nat) : Lib.decDigits n ≠ []:=by
 intro h
 have h1:=Lib.decDigits_length n
 rw [h] at h1
 have:=Lib.nDigits_pos n
 simp at h1
 omega
theorem aj6 (n : Nat) : X9 (Lib.decDigits n):=by
 refine ⟨c82 n,?_,?_⟩
 ·induction n using Nat.strongRecOn with
  | _ n ih=>
   rw [Lib.decDigits]
   intro c hc
   by_cases h : n < 10
   ·rw [dif_pos h] at hc
    rw [List.mem_singleton.1 hc]
    unfold Dig
    rw [UInt8.toNat_ofNat']
    omega
   rw [dif_neg h] at hc
   rcases List.mem_append.1 hc with h1 | h1
   ·exact ih _ (by omega) c h1
   ·rw [List.mem_singleton.1 h1]
    unfold Dig
    rw [UInt8.toNat_ofNat']
    omega
 intro h
 by_cases hn : n < 10
 ·rw [Lib.decDigits_one hn]; rfl
 exfalso
 have hp : 0 < n:=by omega
 have h1:=bk0 hp
 have h2:=cl4 (k:=Lib.nDigits n) (v:=n) (i:=Lib.nDigits n - 1) (by have:=Lib.nDigits_pos n; omega)
 rw [← bc4] at h2
 have h3 : (Lib.decDigits n).reverse[Lib.nDigits n - 1]? = (Lib.decDigits n).head?:=by
  have hl:=Lib.decDigits_length n
  have hpos:=Lib.nDigits_pos n
  rw [List.getElem?_reverse (by omega),hl,show Lib.nDigits n - 1 - (Lib.nDigits n - 1) = 0 by omega,List.head?_eq_getElem?]
 rw [h3,h] at h2
 have h4:=congrArg UInt8.toNat (Option.some.inj h2)
 rw [UInt8.toNat_ofNat'] at h4
 have h5 : (48 : UInt8).toNat = 48:=rfl
 rw [h5] at h4
 omega
theorem aa1 {l : List UInt8} (h : X9 l) : Lib.decDigits (H7 l) = l:=by
 induction hl : l.length generalizing l with
 | zero=>exact absurd (List.eq_nil_of_length_eq_zero hl) h.1
 | succ k ih=>
  have e:=List.dropLast_concat_getLast h.1
  have h2:=h.2.1 _ (List.getLast_mem h.1)
  obtain ⟨c,hc⟩ : ∃ c,c = l.getLast h.1:=⟨_,rfl⟩
  obtain ⟨t,ht⟩ : ∃ t,t = l.dropLast:=⟨_,rfl⟩
  rw [← hc] at h2 e
  rw [← ht] at e
  have htl : t.length = k:=by rw [ht,List.length_dropLast]; omega
  rw [← e,ai6]
  unfold Dig at h2
  rcases Nat.eq_zero_or_pos k with h0 | h0
  ·obtain rfl:=List.eq_nil_of_length_eq_zero (htl.trans h0)
   rw [be2,Nat.mul_zero,Nat.zero_add,Lib.decDigits_one (by omega)]
   show [UInt8.ofNat (48 + (c.toNat - 48))] = [c]
   rw [show 48 + (c.toNat - 48) = c.toNat by omega,UInt8.ofNat_toNat]
  ·have hne : t ≠ []:=by rintro rfl; simp at htl; omega
   have hhd : l.head? = t.head?:=by rw [← e]; cases t with | nil=>exact absurd rfl hne | cons x r=>rfl
   have h48 : t.head? ≠ some 48:=by
    intro h3
    have:=h.2.2 (hhd.trans h3)
    omega
   have hT : X9 t:=⟨hne,fun x hx=>h.2.1 x (by rw [← e]; exact List.mem_append_left _ hx),fun h3=>absurd h3 h48⟩
   have hi:=ih hT htl
   have hpos : 0 < H7 t:=by
    rcases Nat.eq_zero_or_pos (H7 t) with h3 | h3
    ·rw [h3,Lib.decDigits_one (by decide)] at hi
     rw [← hi] at h48
     exact absurd rfl h48
    exact h3
   rw [Lib.decDigits,dif_neg (by omega),show (10 * H7 t + (c.toNat - 48)) / 10 = H7 t by omega,hi,show (10 * H7 t + (c.toNat - 48)) % 10 = c.toNat - 48 by omega,show 48 + (c.toNat - 48) = c.toNat by omega,UInt8.ofNat_toNat]
theorem c65 {l : List UInt8} : X9 l ↔ ∃ n,l = Lib.decDigits n:=⟨fun h=>⟨_,(aa1 h).symm⟩,fun ⟨n,h⟩=>h ▸ aj6 n⟩
theorem bk7 {a b : Int} (h : Lib.itoa a = Lib.itoa b) : a = b:=by
 have hd : ∀ n c,(Lib.decDigits n).head? = some c → 48 ≤ c.toNat:=fun n c hc=>((aj6 n).2.1 c (List.mem_of_head? hc)).1
 have neg : ∀ n m : Nat,Lib.decDigits n = 45 :: Lib.decDigits m → False:=fun n m e=>by
  have:=hd n 45 (by rw [e]; rfl)
  exact absurd this (by decide)
 unfold Lib.itoa at h
 split at h <;> split at h
 ·have:=congrArg H7 (List.cons.inj h).2
  rw [R5,R5] at this
  omega
 ·exact (neg _ _ h.symm).elim
 ·exact (neg _ _ h).elim
 have:=congrArg H7 h
 rw [R5,R5] at this
 omega
theorem bw5 {l : List UInt8} : (∃ z : Int,z < 0 ∧ 45 :: l = Lib.itoa z) ↔ X9 l ∧ l.head? ≠ some 48:=by
 constructor
 ·rintro ⟨z,hz,h⟩
  unfold Lib.itoa at h
  rw [if_pos hz] at h
  have hl:=(List.cons.inj h).2
  refine ⟨c65.2 ⟨_,hl⟩,fun h48=>?_⟩
  have h1:=(aj6 z.natAbs).2.2 (by rw [← hl]; exact h48)
  rw [hl] at h48
  rw [Lib.decDigits_length] at h1
  have h2 : z.natAbs < 10:=by
   have:=Lib.lt_pow_nDigits z.natAbs
   rw [h1] at this
   omega
  rw [Lib.decDigits_one h2] at h48
  have h3:=congrArg UInt8.toNat (Option.some.inj h48)
  rw [UInt8.toNat_ofNat'] at h3
  have h5 : (48 : UInt8).toNat = 48:=rfl
  rw [h5] at h3
  omega
 rintro ⟨h,h48⟩
 have hp : 0 < H7 l:=by
  rcases Nat.eq_zero_or_pos (H7 l) with h3 | h3
  ·have hi:=aa1 h
   rw [h3,Lib.decDigits_one (by decide)] at hi
   rw [← hi] at h48
   exact absurd rfl h48
  exact h3
 refine ⟨-(H7 l : Int),by omega,?_⟩
 unfold Lib.itoa
 rw [if_pos (by omega),show (-(H7 l : Int)).natAbs = H7 l by omega,aa1 h]
theorem c24 {l : List UInt8} (h : X9 l) : l = Lib.itoa (H7 l : Int):=by
 unfold Lib.itoa
 rw [if_neg (by omega),show ((H7 l : Int)).toNat = H7 l from rfl,aa1 h]
theorem ch1 (z : Int) : (∃ l,Lib.itoa z = 45 :: l ∧ z < 0) ∨ X9 (Lib.itoa z):=by
 unfold Lib.itoa
 split
 ·rename_i h; exact .inl ⟨_,rfl,h⟩
 exact .inr (aj6 _)
theorem dm6 {l : List UInt8} (h : X9 l) (h48 : l.head? ≠ some 48) : 0 < H7 l:=by
 rcases Nat.eq_zero_or_pos (H7 l) with h3 | h3
 ·have hi:=aa1 h
  rw [h3,Lib.decDigits_one (by decide)] at hi
  rw [← hi] at h48
  exact absurd rfl h48
 exact h3
theorem ct7 {l : List UInt8} (h : X9 l) (h48 : l.head? ≠ some 48) : 45 :: l = Lib.itoa (-(H7 l : Int)):=by
 have hp:=dm6 h h48
 unfold Lib.itoa
 rw [if_pos (by omega),show (-(H7 l : Int)).natAbs = H7 l by omega,aa1 h]
def aa9 (s : List UInt8) : Prop:=s.head? = some 45
instance dec_NegS (s : List UInt8) : Decidable (aa9 s):=by unfold aa9; exact inferInstance
def Dgs (s : List UInt8) : List UInt8:=if aa9 s then s.drop 1 else s
theorem cl9 {s : List UInt8} (h : aa9 s) : s = 45 :: Dgs s:=by
 unfold Dgs
 rw [if_pos h]
 unfold aa9 at h
 cases s with
 | nil=>cases h
 | cons c r=>simp at h; subst h; rfl
theorem cm7 {s : List UInt8} (h : ¬ aa9 s) : Dgs s = s:=by unfold Dgs; rw [if_neg h]
theorem dy0 (s : List UInt8) : (Dgs s).length ≤ s.length:=by
 unfold Dgs
 split
 ·rw [List.length_drop]; omega
 exact Nat.le_refl _
def au3 (s : List UInt8) : Int:=if aa9 s then -(H7 (Dgs s) : Int) else H7 (Dgs s)
theorem bw3 {s : List UInt8} (h : X9 (Dgs s)) (h48 : aa9 s → (Dgs s).head? ≠ some 48) : s = Lib.itoa (au3 s):=by
 unfold au3
 by_cases hn : aa9 s
 ·rw [if_pos hn,← ct7 h (h48 hn)]
  exact cl9 hn
 rw [if_neg hn,← c24 h]
 exact (cm7 hn).symm
theorem bw7 (s : List UInt8) : (∃ z,s = Lib.itoa z) ↔ X9 (Dgs s) ∧ (aa9 s → (Dgs s).head? ≠ some 48):=by
 constructor
 ·rintro ⟨z,hz⟩
  rcases ch1 z with ⟨l,hl,hneg⟩ | hd
  ·have hn : aa9 s:=by unfold aa9; rw [hz,hl]; rfl
   have he:=cl9 hn
   have h1:=bw5.1 ⟨z,hneg,hl.symm⟩
   rw [hz,hl] at he
   have e : Dgs s = l:=by rw [hz,hl]; exact (List.cons.inj he).2.symm
   rw [e]
   exact ⟨h1.1,fun _=>h1.2⟩
  rw [← hz] at hd
  have hn : ¬ aa9 s:=by
   intro hn
   unfold aa9 at hn
   have:=(hd.2.1 45 (List.mem_of_head? hn)).1
   exact absurd this (by decide)
  rw [cm7 hn]
  exact ⟨hd,fun h=>absurd h hn⟩
 rintro ⟨h,h48⟩
 exact ⟨_,bw3 h h48⟩
end Go.Proofs.YtmjbiocildkhnaaGreatDoor
end
section
namespace Go.Proofs.YtmjbiocildkhnaaGreatDoor
open Go Go.RowKit Tryz
theorem b62 (n : Nat) : (47 : UInt8) ∉ Lib.decDigits n:=fun h=>by
 have:=(aj6 n).2.1 _ h
 unfold Dig at this
 have h47 : (47 : UInt8).toNat = 47:=rfl
 omega
theorem as5 (z : Int) : (47 : UInt8) ∉ Lib.itoa z:=by
 unfold Lib.itoa
 split
 ·intro h
  rcases List.mem_cons.1 h with h | h
  ·cases h
  exact b62 _ h
 exact b62 _
theorem dn3 : ∀ {a b c d : List UInt8},(47 : UInt8) ∉ a → (47 : UInt8) ∉ c → a ++ 47 :: b = c ++ 47 :: d → a = c ∧ b = d:=by
 intro a
 induction a with
 | nil=>
  intro b c d _ hc h
  cases c with
  | nil=>simpa using h
  | cons y c=>
   simp only [List.nil_append,List.cons_append,List.cons.injEq] at h
   exact absurd (h.1 ▸ List.mem_cons_self ..) hc
 | cons x a ih=>
  intro b c d ha hc h
  cases c with
  | nil=>
   simp only [List.nil_append,List.cons_append,List.cons.injEq] at h
   exact absurd (h.1 ▸ List.mem_cons_self ..) ha
  | cons y c=>
   simp only [List.cons_append,List.cons.injEq] at h
   obtain ⟨h1,h2⟩:=ih (fun h=>ha (List.mem_cons_of_mem _ h)) (fun h=>hc (List.mem_cons_of_mem _ h)) h.2
   exact ⟨by rw [h.1,h1],h2⟩
theorem a22 {q : Rat} (h : q.den = 1) : R7 q = Lib.itoa q.num:=by unfold R7; rw [if_pos h,List.append_nil]
theorem as0 {q : Rat} (h : q.den ≠ 1) : R7 q = Lib.itoa q.num ++ 47 :: Lib.decDigits q.den:=by unfold R7; rw [if_neg h]
theorem a49 {s : List UInt8} (hs : (47 : UInt8) ∉ s) (q : Rat) : s = R7 q ↔ q.den = 1 ∧ s = Lib.itoa q.num:=by
 by_cases h : q.den = 1
 ·rw [a22 h]; exact ⟨fun h2=>⟨h,h2⟩,fun h2=>h2.2⟩
 constructor
 ·intro h2
  rw [as0 h] at h2
  exact absurd (h2 ▸ List.mem_append_right _ (List.mem_cons_self ..)) hs
 exact fun h2=>absurd h2.1 h
theorem a04 {a b : List UInt8} (ha : (47 : UInt8) ∉ a) (q : Rat) : a ++ 47 :: b = R7 q ↔ q.den ≠ 1 ∧ a = Lib.itoa q.num ∧ b = Lib.decDigits q.den:=by
 by_cases h : q.den = 1
 ·constructor
  ·intro h2
   rw [a22 h] at h2
   exact absurd (h2 ▸ List.mem_append_right _ (List.mem_cons_self ..)) (as5 _)
  exact fun h2=>absurd h h2.1
 rw [as0 h]
 constructor
 ·exact fun h2=>⟨h,dn3 ha (as5 _) h2⟩
 rintro ⟨_,rfl,rfl⟩; rfl
theorem dx0 (n : Int) {d : Nat} (hd : d ≠ 0) (hg : Nat.gcd n.natAbs d = 1) : ∃ q : Rat,q.num = n ∧ q.den = d:=⟨⟨n,d,hd,hg⟩,rfl,rfl⟩
theorem dl2 (q : Rat) : Nat.gcd q.num.natAbs q.den = 1:=q.reduced
theorem c80 {p q : Rat} (h : R7 p = R7 q) : p = q:=by
 by_cases hp : p.den = 1
 ·have h2:=(a49 (as5 p.num) q).1 ((a22 hp).symm.trans h)
  exact Rat.ext (bk7 h2.2) (hp.trans h2.1.symm)
 have h2:=(a04 (as5 p.num) q).1 ((as0 hp).symm.trans h)
 refine Rat.ext (bk7 h2.2.1) ?_
 have h3:=congrArg H7 h2.2.2
 rwa [R5,R5] at h3
theorem dn9 (q : Rat) : (Lib.itoa q.num).length ≤ (R7 q).length:=by unfold R7; rw [List.length_append]; omega
theorem di1 (q : Rat) : Lib.nDigits q.den ≤ (R7 q).length:=by
 by_cases h : q.den = 1
 ·rw [h,Lib.nDigits_small (by decide),a22 h]
  cases h2 : Lib.itoa q.num with
  | nil=>
   unfold Lib.itoa at h2
   split at h2
   ·cases h2
   exact absurd h2 (c82 _)
  | cons x l=>simp
 rw [as0 h,List.length_append,List.length_cons,Lib.decDigits_length]; omega
theorem bm1 (k : Nat) : ∀ {n : Nat},10 ^ k ≤ n → Lib.nDigits n = Lib.nDigits (n / 10 ^ k) + k:=by
 induction k with
 | zero=>intro n _; simp
 | succ k ih=>
  intro n h
  have h10 : 10 ≤ n:=Nat.le_trans (Nat.le_self_pow (n:=k + 1) (by omega) 10) h
  rw [Lib.nDigits_big (by omega),ih (n:=n / 10) ((Nat.le_div_iff_mul_le (by omega)).2 (by rwa [← Nat.pow_succ])),Nat.div_div_eq_div_mul,show 10 * 10 ^ k = 10 ^ (k + 1) from (Nat.pow_succ').symm]
  omega
theorem cq9 : 10 ^ 30102 ≤ Big:=by
 rw [bv2]
 exact Nat.le_of_ble_eq_true (by kernel_rfl)
theorem ba9 {i j : Nat} (h : i ≤ j) : 10 ^ i ≤ 10 ^ j:=Nat.pow_le_pow_right (by decide) h
theorem cm6 {n : Nat} (h : Lib.nDigits n ≤ 30102) : n < Big:=Nat.lt_of_lt_of_le (Lib.lt_pow_nDigits n) (Nat.le_trans (ba9 h) cq9)
theorem bk6 (z : Int) : Lib.nDigits z.natAbs ≤ (Lib.itoa z).length:=by
 unfold Lib.itoa
 split
 ·rw [List.length_cons,Lib.decDigits_length]; omega
 rw [Lib.decDigits_length,show z.toNat = z.natAbs by omega]; exact Nat.le_refl _
theorem c53 {q : Rat} (h : (R7 q).length ≤ 30102) : R0 q:=
 ⟨cm6 (Nat.le_trans (bk6 _) (Nat.le_trans (dn9 q) h)),cm6 (Nat.le_trans (di1 q) h)⟩
theorem cq4 {n k : Nat} (h : Lib.nDigits n ≤ 9 * k) : dl n ≤ k:=by
 refine L5 ?_
 rw [ae6]
 exact Nat.lt_of_lt_of_le (Lib.lt_pow_nDigits n) (Nat.pow_le_pow_right (by omega) h)
section rules
variable {P : Program} {n : Nat} {Q : F1} {ρ : Fr} {w : World} {all rest : List Oper} {d d2 : Tmp} {ty ty2 ty3 ty4 : TypeId} {pos pos2 pos3 pos4 : String} {aft aft2 aft3 aft4 : Array Edge}
theorem d07 {T : TypeId} {s b : Nat} {z : Value} {agg : Bool} [ti : TyI P T s b z agg] {y : Operand} {us zs : List Value} {u : Value} (hz : z.cells = zs.toArray) (hy : ∀ g,ev (upd ρ d (.pointer (some ⟨g,0,none⟩))) y = u) (hc : u.cells = us.toArray)
  (hl : us.length = s) (h1 : ∀ v ∈ us,v.oneCell' = true) (h : ∀ w' g,Ext w w' → w.heap.size ≤ g → Blk w' g T us → WpR P n all Q rest (upd ρ d (.pointer (some ⟨g,0,none⟩))) w') :
  WpR P n all Q (⟨some d,.alloc T,ty,pos,aft,none⟩ :: ⟨none,.store T (.tmp d) y,ty2,pos2,aft2,none⟩ :: rest) ρ w:=by
 refine q8 hz ?_
 intro w1 g k1 hg hgs
 have hzl : zs.length = s:=by
  have:=ti.zsize
  rw [hz] at this
  simpa using this
 refine z8 (us:=us) (B9 _ _ _) (hy g) hc hl hg hzl h1 ?_
 intro w2 k2 hg2
 exact h w2 g (k1.past k2 hgs) hgs hg2
end rules
theorem b31 {a : Nat} (h : 0 < (dg a).length) : 0 < (dg a).getD ((dg a).length - 1) 0 ∧ Lib.nDigits a = 9 * ((dg a).length - 1) + Lib.nDigits ((dg a).getD ((dg a).length - 1) 0) ∧ (dg a).getD ((dg a).length - 1) 0 < 1000000000:=by
 have h1 : 1000000000 ^ ((dg a).length - 1) ≤ a:=ce5 (a:=a) h
 have h2 : a < 1000000000 ^ (dg a).length:=E6 a
 have h3:=bh4 a ((dg a).length - 1)
 have hp : 0 < 1000000000 ^ ((dg a).length - 1):=Nat.pow_pos (by decide)
 have h4 : 1000000000 ^ (dg a).length = 1000000000 * 1000000000 ^ ((dg a).length - 1):=by
  rw [← Nat.pow_succ']
  congr 1
  omega
 rw [h4] at h2
 have h5 : a / 1000000000 ^ ((dg a).length - 1) < 1000000000:=(Nat.div_lt_iff_lt_mul hp).2 h2
 rw [Nat.mod_eq_of_lt h5] at h3
 rw [h3]
 refine ⟨Nat.div_pos h1 hp,?_,h5⟩
 rw [ae6] at h1 ⊢
 rw [bm1 _ h1]
 omega
theorem c26 {S : Nat → Prop} {w : World} {va : Value} {a : Nat} (ha : s7 S 3 .i64 w va a) (hla : dl a ≤ 16000000000000) :
  Gives prog 145 [va] w fun v' w'=>v' = .int .i64 (Lib.nDigits a : Nat) ∧ Ext w w':=by
 have hml : (dg a).length ≤ 16000000000000:=hla
 have hz:=@I5 a
 unfold dl at hz
 refine l8 func145 rfl rfl rfl ?_
 repeat (first | refine wW ?_ | refine d7 ?_ | refine A2 (by conv=>(lhs; whnf)) (by assumption) ?_ | refine Z7 rfl rfl ?_)
 try refine i6 ?_
 refine j4 rfl ?_ ?_ <;> intro h0
 ·have ha0 : a = 0:=hz.1 (by omega)
  repeat (first | refine wW ?_ | refine r0 ?_)
  refine o7 rfl ⟨?_,.refl⟩
  rw [ha0,Lib.nDigits_small (by decide)]
  rfl
 ·obtain ⟨t1,t2,t3⟩:=b31 (a:=a) (by omega)
  repeat (first | refine a66 rfl rfl (by omega) (by omega) ?_ | refine A0 (i:=(dg a).length - 1) (by conv=>(lhs; whnf)) (by conv=>(lhs; whnf)) (by omega) ha (by omega) ?_ | refine r4 rfl ha (by omega) ?_ | refine wW ?_ | refine d7 ?_ | refine wp_skip ?_ | refine A2 (by conv=>(lhs; whnf)) (by assumption) ?_ | refine y7 rfl rfl ?_)
  generalize (dg a).getD ((dg a).length - 1) 0 = t at *
  try refine n5 ?_
  refine F6 [(3,4),(18,23)] (fun v ρ w'=>w' = w ∧ ∃ m : Nat,ρ 4 = .int .i64 (v : Int) ∧ ρ 3 = .int .i64 (m : Int) ∧ v ≤ t ∧ m + (if v = 0 then 0 else Lib.nDigits v) = Lib.nDigits a ∧ m ≤ Lib.nDigits a) t ?_ ?_
  ·exact ⟨rfl,9 * ((dg a).length - 1),rfl,congrArg (Value.int .i64) (by omega),Nat.le_refl _,by rw [if_neg (by omega)]; omega,by omega⟩
  rintro v u w1 ⟨rfl,m,h4,h3,hvt,hm,hma⟩
  refine j8 4 h4 (j8 3 h3 ?_)
  clear h4 h3
  have hmax : Lib.nDigits a ≤ 9 * ((dg a).length - 1) + 9:=by have:=al9 t3; omega
  repeat (first | refine wW ?_ | refine d7 ?_ | refine X6 rfl rfl ?_)
  try refine i6 ?_
  refine j4 rfl ?_ ?_ <;> intro hc
  ·have hv0 : 0 < v:=by omega
   rw [if_neg (by omega)] at hm
   have hpos:=Lib.nDigits_pos v
   repeat (first | refine ae4 ?_ | refine wW ?_ | refine K8 ?_ | refine wp_skip ?_ | refine A7 rfl rfl ?_ | refine al3 rfl rfl (by omega) (by omega) (by omega) ?_)
   refine ⟨by (repeat (first | refine j1 rfl ?_ | exact d9 | refine j2 rfl ?_ | exact d8 | refine m7 rfl ?_ | refine l9 rfl ?_)),v / 10,by omega,rfl,m + 1,by rfl,congrArg (Value.int .i64) (by omega),by omega,?_,by omega⟩
   by_cases h10 : v < 10
   ·rw [if_pos (by omega)]
    rw [Lib.nDigits_small h10] at hm
    omega
   ·rw [if_neg (by omega)]
    rw [Lib.nDigits_big h10] at hm
    omega
  obtain rfl : v = 0:=by omega
  rw [if_pos rfl] at hm
  repeat (first | refine wW ?_ | refine wp_exit ?_)
  refine S7 rfl (by conv=>(lhs; whnf)) ⟨congrArg (Value.int .i64) (by omega),.refl⟩
section rules
variable {P : Program} {n : Nat} {Q : F1} {ρ : Fr} {w : World} {all rest : List Oper} {d : Tmp} {ty : TypeId} {pos : String} {aft : Array Edge}
theorem ah6 (l : List UInt8) : (⟨l.toArray⟩ : ByteArray).size = l.length:=by show l.toArray.size = _; simp
theorem dh1 (l : List UInt8) (i : Nat) : (⟨l.toArray⟩ : ByteArray)[i]? = l[i]?:=by
 by_cases h : i < l.length
 ·have h2 : i < (⟨l.toArray⟩ : ByteArray).size:=by rw [ah6]; exact h
  rw [getElem?_pos _ i h2,List.getElem?_eq_getElem h]
  rfl
 rw [getElem?_neg _ i (by rw [ah6]; exact h),List.getElem?_eq_none (by omega)]
theorem ba4 (l : List UInt8) (a b : Nat) (hb : b ≤ l.length) : (⟨l.toArray⟩ : ByteArray).extract a b = ⟨((l.take b).drop a).toArray⟩:=by
 apply ByteArray.ext
 rw [ByteArray.data_extract]
 simp [List.drop_take]
theorem b59 {t : TypeId} [st : StrT P t] {x ix : Operand} {l : List UInt8} {k : IntKind} {I : Int} {c : UInt8} (i : Nat) (hx : ev ρ x = F4 l) (hi : ev ρ ix = .int k I) (hI : I = (i : Int)) (hc : l[i]? = some c)
  (h : WpR P n all Q rest (upd ρ d (.int .u8 (c.toNat : Nat))) w) : WpR P n all Q (⟨some d,.index t x ix,ty,pos,aft,none⟩ :: rest) ρ w:=by
 subst hI
 refine E7 rfl rfl ?_ h
 have h1 : (⟨l.toArray⟩ : ByteArray)[i]? = some c:=by rw [dh1]; exact hc
 simp [execOp,hx,hi,Instr.index,asIntOf,run_underlying st.und,h1]
theorem a07 {t : TypeId} [st : StrT P t] {x lo : Operand} {l : List UInt8} {k : IntKind} {I : Int} (i : Nat) (hx : ev ρ x = F4 l) (hi : ev ρ lo = .int k I) (hI : I = (i : Int)) (hl : i ≤ l.length)
  (h : WpR P n all Q rest (upd ρ d (F4 (l.drop i))) w) : WpR P n all Q (⟨some d,.slice t x (some lo) none none,ty,pos,aft,none⟩ :: rest) ρ w:=by
 subst hI
 refine E7 rfl rfl ?_ h
 have h1:=ah6 l
 have h2:=ba4 l i l.length (Nat.le_refl _)
 rw [List.take_of_length_le (Nat.le_refl _)] at h2
 simp [execOp,hx,hi,Instr.sliceAt,Instr.slice,Instr.sliceBounds,Instr.sliceBound,asIntOf,run_underlying st.und,h1,hl,h2]
theorem av4 {t : TypeId} [st : StrT P t] {x hi : Operand} {l : List UInt8} {k : IntKind} {I : Int} (i : Nat) (hx : ev ρ x = F4 l) (hi' : ev ρ hi = .int k I) (hI : I = (i : Int)) (hl : i ≤ l.length)
  (h : WpR P n all Q rest (upd ρ d (F4 (l.take i))) w) : WpR P n all Q (⟨some d,.slice t x none (some hi) none,ty,pos,aft,none⟩ :: rest) ρ w:=by
 subst hI
 refine E7 rfl rfl ?_ h
 have h1:=ah6 l
 have h2:=ba4 l 0 i hl
 rw [List.drop_zero] at h2
 simp [execOp,hx,hi',Instr.sliceAt,Instr.slice,Instr.sliceBounds,Instr.sliceBound,asIntOf,run_underlying st.und,h1,hl,h2]
end rules
theorem bn5 {base : Nat} {T : TypeId} {w : World} {v : Value} {m : Nat} {xs : List Value} (h : Own base T 1 w v m xs) (hm : 0 < m) :
  ∃ g cap cs,v = .slice (some ⟨g,0,none⟩) m cap ∧ base ≤ g ∧ Blk w g T cs ∧ cs.take m = xs ∧ m ≤ cs.length ∧ m ≤ cap ∧ cap ≤ maxLen ∧ cap = cs.length:=by
 rcases h.2 with ⟨h1,h2⟩ | ⟨g,cap,cur,rfl,hb,hg,h1,h2,h3,h4⟩
 ·omega
 refine ⟨g,cap,cur.toList,rfl,hb,?_,by simpa using h4,?_,h1,h2,?_⟩
 ·unfold Blk
  rw [hg]
 ·simp at h3 ⊢; omega
 simp at h3 ⊢; omega
section rules
variable {P : Program} {n : Nat} {Q : F1} {ρ : Fr} {w : World} {all rest : List Oper} {d : Tmp} {ty : TypeId} {pos : String} {aft : Array Edge}
theorem bz4 {t T : TypeId} [st : SlT P t T] {b : Nat} {z : Value} {agg : Bool} [ti : TyI P T 1 b z agg] {x hi : Operand} {base : Nat} {v : Value} {m : Nat} {xs : List Value} {k : Nat} {i : Int}
  (hv : ev ρ x = v) (ho : Own base T 1 w v m xs) (hh : ev ρ hi = .int .i64 i) (hik : i = (k : Int)) (hk : k ≤ m) (hm : 0 < m)
  (h : ∀ v',Own base T 1 w v' k (xs.take k) → WpR P n all Q rest (upd ρ d v') w) : WpR P n all Q (⟨some d,.slice t x none (some hi) none,ty,pos,aft,none⟩ :: rest) ρ w:=by
 subst hik
 obtain ⟨g,cap,cs,rfl,hb,hg,h1,h2,h3,h4,h5⟩:=bn5 ho hm
 refine E7 (v:=.slice (some ⟨g,0,none⟩) k cap) rfl rfl ?_ (h _ ⟨by rw [← h1]; simp; omega,.inr ⟨g,cap,cs.toArray,rfl,hb,hg,by omega,h4,by simp; omega,?_⟩⟩)
 ·have hk2 : k ≤ cap:=by omega
  simp [execOp,hv,hh,Instr.sliceAt,Instr.slice,run_underlying st.und,Instr.sliceBounds,Instr.sliceBound,asIntOf,hk2,ti.runSize w,Addr.add,show ¬ cap = 0 by omega]
 rw [← h1,List.take_take]
 simp
 omega
end rules
theorem cz0 {m v j : Nat} (h : j ≤ m) : (low m v).take j = low j v:=by
 obtain ⟨k,rfl⟩ : ∃ k,m = j + k:=⟨m - j,by omega⟩
 rw [ak7,List.take_left' (ad1 j v)]
abbrev byt (l : List UInt8) : List Value:=Lib.byteCells l
theorem bj3 (a b : List UInt8) : byt (a ++ b) = byt a ++ byt b:=by simp [Lib.byteCells]
theorem cd5 (a : List UInt8) : (byt a).length = a.length:=by simp [Lib.byteCells]
theorem c18 (a : List UInt8) (k : Nat) : (byt a).take k = byt (a.take k):=by simp [Lib.byteCells,List.map_take]
theorem bq9 {x : Nat} (h : x < 10) : Value.int .u8 (48 + (x : Int)) = .int .u8 ((UInt8.ofNat (48 + x)).toNat : Int):=by
 congr 1
 rw [UInt8.toNat_ofNat']
 omega
theorem c44 (z : Int) : (Lib.itoa z).reverse = low (Lib.nDigits z.natAbs) z.natAbs ++ (if z < 0 then [45] else []):=by
 unfold Lib.itoa
 split
 ·rw [← bc4]; simp
 rw [← bc4,show z.natAbs = z.toNat by omega]; simp
theorem cd1 {S : Nat → Prop} {w : World} {v : Value} {z : Int} (h : ZV S w v z) (hl : zl z ≤ 1099511627000) :
  Gives prog 105 [v] w fun v' w'=>v' = F4 (Lib.itoa z) ∧ Ext w w':=by
 obtain ⟨m,rfl,hm⟩:=h
 obtain ⟨n,hn⟩ : ∃ n,n = z.natAbs:=⟨_,rfl⟩
 rw [← hn] at hm
 have hln : (dg n).length ≤ 1099511627000:=by rw [hn]; exact hl
 have hdl : (dg n).length = dl n:=rfl
 refine l8 func105 rfl rfl rfl ?_
 repeat refine wW ?_
 refine r7 (cs:=[.bool (tst (z < 0)),m]) rfl ?_
 intro w1 g k1 hg hgs
 have hm1:=hm.to k1
 have hgl:=hg.lt
 clear hm
 repeat (first | refine f5 rfl hg rfl ?_ | refine wW ?_ | refine d7 ?_ | refine A2 (by conv=>(lhs; whnf)) (by assumption) ?_ | refine Z7 rfl rfl ?_ | refine j5 rfl ?_)
 try refine i6 ?_
 refine j4 rfl ?_ ?_ <;> intro hc
 ·repeat (first | refine wW ?_ | refine r0 ?_)
  refine o7 rfl ⟨?_,k1⟩
  have h0 : n = 0:=I5.1 (by omega)
  have hz : z = 0:=by omega
  subst hz
  unfold Lib.itoa
  rw [if_neg (by decide),show (0 : Int).toNat = 0 from rfl,Lib.decDigits_one (by decide)]
  rfl
 ·have hn0 : 0 < n:=Nat.pos_of_ne_zero fun e=>hc (by have:=I5.2 e; omega)
  have hD:=ax9 hn0
  repeat (first | refine wW ?_ | refine d7 ?_ | refine wp_skip ?_)
  try refine n5 ?_
  refine F6 [(3,6),(14,38)] (fun k ρ w'=>∃ (i : Nat) (v : Value),k + i = (dg n).length ∧ ρ 4 = .int .i64 (i : Int) ∧ ρ 3 = v ∧ Own w1.heap.size 5 1 w' v (9 * i) (byt (low (9 * i) n)) ∧ Ext w1 w') (dg n).length
   ⟨0,_,by omega,rfl,rfl,ac0,.refl⟩ ?_
  ·rintro k u w2 ⟨i,v,hki,h4,h3,ho,k2⟩
   refine j8 4 h4 (j8 3 h3 ?_)
   clear h4 h3
   have hg2:=hg.to k2
   have hm2:=hm1.to k2
   have hdd:=J7 n i
   repeat (first | refine f5 rfl hg2 rfl ?_ | refine wW ?_ | refine d7 ?_ | refine A2 (by conv=>(lhs; whnf)) (by assumption) ?_ | refine L2 rfl rfl ?_ | refine j5 rfl ?_)
   try refine i6 ?_
   refine j4 rfl ?_ ?_ <;> intro hlt
   ·repeat (first | refine f5 rfl hg2 rfl ?_ | refine A0 (i:=i) (by conv=>(lhs; whnf)) rfl rfl hm2 (by omega) ?_ | refine r4 rfl hm2 (by omega) ?_ | refine wW ?_ | refine z7 ?_ | refine q6 ?_ | refine wp_skip ?_ | refine j5 rfl ?_)
    obtain ⟨d,hd⟩ : ∃ d,d = (dg n).getD i 0:=⟨_,rfl⟩
    rw [← hd] at hdd ⊢
    try refine n5 ?_
    refine F6 [(3,3),(5,6),(26,38)] (fun k ρ w'=>∃ (j : Nat) (v : Value),k + j = 9 ∧ ρ 6 = .int .i64 (j : Int) ∧ ρ 5 = .int .i64 ((d / 10 ^ j : Nat) : Int) ∧ ρ 3 = v ∧ Own w1.heap.size 5 1 w' v (9 * i + j) (byt (low (9 * i) n ++ low j d)) ∧ Ext w1 w') 9
     ⟨0,v,by omega,rfl,by simp; rfl,rfl,by simpa [low] using ho,k2⟩ ?_
    rintro k' u2 w3 ⟨j,v3,hkj,h6,h5,h3,ho3,k3⟩
    refine j8 6 h6 (j8 5 h5 (j8 3 h3 ?_))
    clear h6 h5 h3
    have hdj : d / 10 ^ j ≤ d:=Nat.div_le_self ..
    have hdj2 : d / 10 ^ j / 10 = d / 10 ^ (j + 1):=by rw [Nat.div_div_eq_div_mul,Nat.pow_succ]
    have hls:=c76 j d
    obtain ⟨y,hy⟩ : ∃ y,y = d / 10 ^ j:=⟨_,rfl⟩
    rw [← hy] at hdj hdj2 hls ⊢
    repeat (first | refine wW ?_ | refine d7 ?_ | refine L2 rfl rfl ?_)
    try refine i6 ?_
    refine j4 rfl ?_ ?_ <;> intro hj9
    ·repeat (first | refine wW ?_ | refine z7 ?_ | refine q6 ?_ | refine wp_skip ?_ | refine A7 rfl rfl ?_ | refine an6 rfl rfl (by omega) (by omega) ?_)
     refine U0 rfl (di5 (by omega) (by omega)) ?_
     have hb : Value.int .u8 (48 + (y : Int) % 10) = .int .u8 ((UInt8.ofNat (48 + y % 10)).toNat : Int):=bq9 (x:=y % 10) (by omega)
     refine ab5 rfl rfl ?_
     intro w4 g4 k4 hg4 hgs4
     rw [hb] at hg4
     refine U7 (by conv=>(lhs; whnf)) (ab0 ho3 k4) rfl hg4 (by omega) rfl (fun u hu=>by rw [List.mem_singleton.1 hu]; rfl) (by unfold maxLen; omega) (by omega) (by have:=k3.size; have:=k4.size; omega) ?_
     intro v5 w5 ho5 k5
     repeat (first | refine wW ?_ | refine A7 rfl rfl ?_ | refine al3 rfl rfl (by omega) (by omega) (by omega) ?_)
     refine ⟨by (repeat (first | refine j1 rfl ?_ | exact d9 | refine j2 rfl ?_ | exact d8 | refine m7 rfl ?_ | refine l9 rfl ?_)),8 - j,by omega,j + 1,v5,by omega,rfl,?_,rfl,?_,?_⟩
     ·rw [← hdj2]; exact congrArg (Value.int .i64) (by omega)
     ·rw [hls,← List.append_assoc,bj3]
      exact ho5
     exact Keeps.later (k3.trans k4) k5 fun i hi _ e=>by have:=(ho3.lt i e.symm).1; omega
    have hj : j = 9:=by omega
    subst hj
    repeat (first | refine wW ?_ | refine wp_exit ?_ | refine A7 rfl rfl ?_)
    refine ⟨by (repeat (first | refine j1 rfl ?_ | exact d9 | refine j2 rfl ?_ | exact d8 | refine m7 rfl ?_ | refine l9 rfl ?_)),k - 1,by omega,i + 1,v3,by omega,rfl,rfl,?_,k3⟩
    rw [c72,← hd]
    exact ho3
   ·have hi : i = (dg n).length:=by omega
    subst hi
    rw [hdl] at ho
    repeat (first | refine K5 ?_ | refine wp_exit ?_ | refine U6 ?_ | refine P5 rfl ?_)
    try refine n5 ?_
    refine F6 ((3,3) :: [(3,3),(39,50)]) (fun k ρ w'=>w' = w2 ∧ ∃ (v : Value),ρ 3 = v ∧ Lib.nDigits n ≤ k ∧ k ≤ 9 * dl n ∧ Own w1.heap.size 5 1 w2 v k (byt (low k n))) (9 * dl n)
     ⟨rfl,v,rfl,hD,Nat.le_refl _,ho⟩ ?_
    rintro M u3 w3 ⟨rfl,v3,h3,hMl,hMh,ho3⟩
    refine j8 3 h3 ?_
    clear h3 ho
    have hDp:=Lib.nDigits_pos n
    have hr3 : Row All 5 1 w3 v3 M (byt (low M n)):=Row.of_own ho3 Up.all
    have hget : (byt (low M n))[M - 1]? = some (.int .u8 (48 + ((n / 10 ^ (M - 1) % 10 : Nat) : Int))):=by
     rw [bq9 (by omega)]
     unfold byt Lib.byteCells
     rw [List.getElem?_map,cl4 (by omega)]
     rfl
    repeat (first | refine A2 (by conv=>(lhs; whnf)) hr3 ?_ | refine A0 (i:=M - 1) (by conv=>(lhs; whnf)) rfl (by omega) hr3 (by omega) ?_ | refine wW ?_ | refine d7 ?_ | refine y7 rfl rfl ?_)
    refine bf8 rfl hr3 hget ?_
    repeat (first | refine wW ?_ | refine Z7 rfl rfl ?_)
    try refine i6 ?_
    refine j4 rfl ?_ ?_ <;> intro hz
    ·have hMD : Lib.nDigits n ≤ M - 1:=by
      rcases Nat.lt_or_ge (Lib.nDigits n) M with h | h
      ·omega
      exfalso
      have:=bk0 hn0
      rw [show Lib.nDigits n - 1 = M - 1 by omega] at this
      omega
     repeat (first | refine A2 (by conv=>(lhs; whnf)) hr3 ?_ | refine wW ?_ | refine K8 ?_ | refine wp_skip ?_ | refine y7 rfl rfl ?_)
     refine bz4 (k:=M - 1) (by conv=>(lhs; whnf)) ho3 rfl (by omega) (by omega) (by omega) ?_
     intro v4 ho4
     rw [c18,cz0 (by omega)] at ho4
     repeat (first | refine wW ?_ | refine ab8 ?_)
     exact ⟨by (repeat (first | refine j1 rfl ?_ | exact d9 | refine j2 rfl ?_ | exact d8 | refine m7 rfl ?_ | refine l9 rfl ?_)),M - 1,by omega,rfl,v4,rfl,hMD,by omega,ho4⟩
    ·have hMD : M = Lib.nDigits n:=by
      rcases Nat.lt_or_ge (Lib.nDigits n) M with h | h
      ·exact absurd (by have:=bz7 (n:=n) (k:=M - 1) (by omega); omega) hz
      omega
     subst hMD
     have hg3:=hg.to k2
     have hrev:=c44 z
     rw [← hn] at hrev
     repeat (first | refine f5 rfl hg3 rfl ?_ | refine wW ?_ | refine d7 ?_ | refine wp_exit ?_ | refine j5 rfl ?_)
     first | refine i6 ?_ | refine F9 ?_ | refine D3 ?_ | skip
     refine N9 [(3,3),(53,55)] (fun ρ w'=>∃ v,ρ 3 = v ∧ Own w1.heap.size 5 1 w' v (Lib.itoa z).length (byt (Lib.itoa z).reverse) ∧ Ext w1 w') rfl ?_ ?_ ?_
     ·intro hneg
      rw [if_pos hneg] at hrev
      have hlen : (Lib.itoa z).length = Lib.nDigits n + 1:=by
       have:=congrArg List.length hrev
       simpa [ad1] using this
      rw [hrev,hlen,bj3]
      repeat refine wW ?_
      refine ab5 rfl rfl ?_
      intro w4 g4 k4 hg4 hgs4
      refine U7 (by conv=>(lhs; whnf)) (ab0 ho3 k4) rfl hg4 (by omega) rfl (fun u hu=>by rw [List.mem_singleton.1 hu]; rfl) (by unfold maxLen; omega) (by omega) (by have:=k2.size; have:=k4.size; omega) ?_
      intro v5 w5 ho5 k5
      repeat refine wW ?_
      refine ⟨by (repeat (first | refine j1 rfl ?_ | exact d9 | refine j2 rfl ?_ | exact d8 | refine m7 rfl ?_ | refine l9 rfl ?_)),v5,rfl,ho5,?_⟩
      exact Keeps.later (k2.trans k4) k5 fun i hi _ e=>by have:=(ho3.lt i e.symm).1; omega
     ·intro hneg
      rw [if_neg hneg,List.append_nil] at hrev
      have hlen : (Lib.itoa z).length = Lib.nDigits n:=by
       have:=congrArg List.length hrev
       simpa [ad1] using this
      rw [hrev,hlen]
      repeat (first | refine K5 ?_ | refine wp_skip ?_)
      exact ⟨by (repeat (first | refine j1 rfl ?_ | exact d9 | refine j2 rfl ?_ | exact d8 | refine m7 rfl ?_ | refine l9 rfl ?_)),v3,rfl,ho3,k2⟩
     rintro u4 w4 ⟨v4,h4,ho4,k4⟩
     refine j8 3 h4 ?_
     clear h4 ho3 hr3 hget
     obtain ⟨X,hX⟩ : ∃ X,X = Lib.itoa z:=⟨_,rfl⟩
     rw [← hX] at ho4 ⊢
     have hX0 : 0 < X.length:=by
      have:=congrArg List.length hrev
      rw [← hX] at this
      simp [ad1] at this
      omega
     have hXb : X.length ≤ 9 * dl n + 1:=by
      have:=congrArg List.length hrev
      rw [← hX] at this
      simp [ad1] at this
      split at this <;> simp at this <;> omega
     obtain ⟨gb,cap,cs,rfl,hgb,hb4,htk,hcl,hcap,hmx,hce⟩:=bn5 ho4 hX0
     have hc0 : ∀ p,p < X.length → cs[p]? = (byt X)[X.length - 1 - p]?:=by
      intro p hp
      have h1 : cs[p]? = (cs.take X.length)[p]?:=by rw [List.getElem?_take,if_pos hp]
      rw [h1,htk]
      unfold byt Lib.byteCells
      rw [List.getElem?_map,List.getElem?_map,List.getElem?_reverse hp]
     repeat (first | refine wW ?_ | refine d7 ?_ | refine c22 rfl ?_ | refine y7 rfl rfl ?_)
     try refine n5 ?_
     refine F6 [(7,9),(59,80)] (fun k ρ w'=>∃ (i : Nat) (cs' : List Value),k + i = X.length ∧ ρ 7 = .int .i64 (i : Int) ∧ ρ 8 = .int .i64 ((X.length : Int) - 1 - i) ∧ 2 * i ≤ X.length + 1 ∧ cs'.length = cs.length ∧
       (∀ p,p < X.length → cs'[p]? = if p < i ∨ X.length ≤ p + i then (byt X)[p]? else (byt X)[X.length - 1 - p]?) ∧ Blk w' gb 5 cs' ∧ Keeps (fun k=>k ≠ gb) w4 w') X.length
      ⟨0,cs,by omega,rfl,congrArg (Value.int .i64) (by omega),by omega,rfl,fun p hp=>by rw [if_neg (by omega)]; exact hc0 p hp,hb4,.refl⟩ ?_
     rintro k5 u5 w5 ⟨i,cs',hki5,h7,h8,hii,hcl',hcs',hb5,k5b⟩
     refine j8 7 h7 (j8 8 h8 ?_)
     clear h7 h8 hb4
     repeat (first | refine wW ?_ | refine d7 ?_ | refine L2 rfl rfl ?_)
     try refine i6 ?_
     refine j4 rfl ?_ ?_ <;> intro hij
     ·obtain ⟨j,hj⟩ : ∃ j,j + i + 1 = X.length:=⟨X.length - 1 - i,by omega⟩
      have hxl : (byt X).length = X.length:=cd5 X
      have hei : cs'[i]? = some ((byt X)[j]'(by omega)):=by
       rw [hcs' i (by omega),if_neg (by omega),show X.length - 1 - i = j by omega,List.getElem?_eq_getElem]
      have hej : cs'[j]? = some ((byt X)[i]'(by omega)):=by
       rw [hcs' j (by omega),if_neg (by omega),show X.length - 1 - j = i by omega,List.getElem?_eq_getElem]
      have one : ∀ q (hq : q < (byt X).length),((byt X)[q]).oneCell' = true:=by
       intro q hq
       simp [Lib.byteCells,Value.oneCell']
      repeat (first | refine H1 (i:=i) rfl rfl rfl (by omega) ?_ | refine wW ?_ | refine z7 ?_ | refine q6 ?_ | refine wp_skip ?_)
      refine f5 rfl hb5 hei ?_
      repeat (first | refine H1 (i:=i) rfl rfl rfl (by omega) ?_ | refine H1 (i:=j) rfl rfl (by omega) (by omega) ?_ | refine f5 rfl hb5 hej ?_ | refine wW ?_)
      refine J4 rfl rfl hb5 (by omega) (one _ _) ?_
      intro w6 k6 hb6
      repeat (first | refine H1 (i:=j) rfl rfl (by omega) (by omega) ?_ | refine wW ?_)
      refine J4 rfl rfl hb6 (by simp; omega) (one _ _) ?_
      intro w7 k7 hb7
      repeat (first | refine wW ?_ | refine A7 rfl rfl ?_ | refine y7 rfl rfl ?_)
      refine ⟨by (repeat (first | refine j1 rfl ?_ | exact d9 | refine j2 rfl ?_ | exact d8 | refine m7 rfl ?_ | refine l9 rfl ?_)),k5 - 1,by omega,i + 1,_,by omega,rfl,congrArg (Value.int .i64) (by omega),by omega,by simpa using hcl',fun p hp=>?_,hb7,(k5b.trans k6).trans k7⟩
      by_cases e1 : p = j
      ·subst e1
       rw [List.getElem?_set_self (by simp; omega),if_pos (by omega)]
       exact (List.getElem?_eq_getElem (by omega)).symm
      rw [List.getElem?_set_ne (by omega)]
      by_cases e2 : p = i
      ·subst e2
       rw [List.getElem?_set_self (by omega),if_pos (by omega)]
       exact (List.getElem?_eq_getElem (by omega)).symm
      rw [List.getElem?_set_ne (by omega),hcs' p hp]
      by_cases e3 : p < i ∨ X.length ≤ p + i
      ·rw [if_pos e3,if_pos (by omega)]
      rw [if_neg e3,if_neg (by omega)]
     repeat (first | refine wW ?_ | refine wp_exit ?_)
     refine bw8 (v:=F4 X) (by conv=>(lhs; whnf)) (run_convert_bytes_back _ _ _ 5 _ _ X (inferInstance : SlT prog _ 5).und (inferInstance : IntT prog 5 _).und (inferInstance : StrT prog _).und ?_) ?_
     ·intro p hp
      have h9:=hcs' p hp
      have h10 : cs'[p]? = (byt X)[p]?:=by
       rw [h9]
       split
       ·rfl
       congr 1; omega
      have ha : (⟨gb,0,none⟩ : Addr).add p = ⟨gb,p,none⟩:=by
       unfold Addr.add
       split <;> simp_all
      rw [ha]
      refine hb5.cell ?_
      rw [h10]
      unfold byt Lib.byteCells
      rw [List.getElem?_map,List.getElem?_eq_getElem hp]
      rfl
     repeat refine wW ?_
     refine o7 rfl ⟨rfl,?_⟩
     exact k1.trans (Keeps.later k4 k5b fun i hi _=>by omega)
theorem bd9 (n : Nat) : Lib.itoa (n : Int) = Lib.decDigits n:=by
 unfold Lib.itoa
 rw [if_neg (by omega),show ((n : Int)).toNat = n from rfl]
theorem dj8 {S : Nat → Prop} {w : World} {v : Value} {q : Rat} (hS : Up S w) (h : QV S w v q) (hl : rl q 400000000000) :
  Gives prog 48 [v] w fun v' w'=>v' = F4 (R7 q) ∧ Ext w w':=by
 obtain ⟨m,b,rfl,hm,hb⟩:=h
 obtain ⟨hl1,hl2⟩:=hl
 have hz : zl (q.den : Int) ≤ 400000000000:=by unfold zl; rw [Int.natAbs_natCast]; exact hl2
 have hn1:=J8 _ hl1
 have hn2:=J8 _ hl2
 have hi:=an8 q.num
 refine l8 func48 rfl rfl rfl ?_
 repeat refine wW ?_
 refine r7 (cs:=[.bool (tst (q.num < 0)),m,.bool (tst ((q.den : Int) < 0)),b]) rfl ?_
 intro w1 g k1 hg hgs
 replace hm:=hm.to k1
 replace hb:=hb.to k1
 replace hS:=hS.to k1
 repeat (first | refine wW ?_ | refine d7 ?_)
 refine s4 4 ?_
 apply b6
 ·intro x w1 k1 hd
  refine j5 rfl ?_
  refine b8 ?_
  exact i7
 apply b6
 ·intro x w1 k1 hd
  refine p8 rfl (hg.to k1) rfl rfl ?_
  refine b8 ?_
  exact i7
 refine b6 (e:=zE S 1) ?_ ?_
 ·intro x w1 k1 hd
  refine i1 (c57 (z:=1) (hS.to k1) (by decide) (by decide)) rfl ?_
  rintro v2 w2 ⟨k2,h2⟩
  exact b8 (y0 k2 h2)
 refine b6 (e:=Ent.eq (.int .i64 ((q.den : Int) - 1).sign)) ?_ ?_
 ·intro x w1 k1 hd
  refine i1 (dv5 (a:=(q.den : Int)) (b:=1) (hS.to k1) ⟨b,rfl,hb.to k1⟩ hd.1 (by omega) (Nat.le_trans (L5 (k:=1) (by decide)) (by decide))) rfl ?_
  rintro v2 w2 ⟨rfl,k2⟩
  exact b8 (az3 k2)
 refine F5 (F7 ?_)
 intro x w2 k2 _
 replace hm:=hm.to k2
 replace hb:=hb.to k2
 replace hg:=hg.to k2
 have k:=k1.trans k2
 have hd1 : q.den = 1 ↔ ((q.den : Int) - 1).sign = 0:=by rw [Int.sign_eq_zero_iff_zero]; omega
 clear k1 k2
 repeat (first | refine wW ?_ | refine Z7 rfl rfl ?_)
 try refine i6 ?_
 refine j4 rfl ?_ ?_ <;> intro hc
 ·repeat (first | refine p8 rfl hg rfl rfl ?_ | refine wW ?_ | refine j5 rfl ?_)
  refine i1 (cd1 (z:=q.num) ⟨m,rfl,hm⟩ (by unfold zl; omega)) rfl ?_
  rintro v3 w3 ⟨rfl,k3⟩
  repeat (first | refine wW ?_ | refine r0 ?_)
  refine o7 rfl ⟨?_,k.trans k3⟩
  unfold R7
  rw [if_pos (hd1.2 hc),List.append_nil]
 repeat (first | refine A6 ?_ | refine wp_skip ?_)
 refine s4 8 ?_
 apply b6
 ·intro x w1 k1 hd
  refine j5 rfl ?_
  refine b8 ?_
  exact i7
 apply b6
 ·intro x w1 k1 hd
  refine p8 rfl (hg.to k1) rfl rfl ?_
  refine b8 ?_
  exact i7
 refine b6 (e:=Ent.eq (F4 (Lib.itoa q.num))) ?_ ?_
 ·intro x w1 k1 hd
  refine i1 (cd1 (z:=q.num) ⟨m,rfl,hm.to k1⟩ (by unfold zl; omega)) rfl ?_
  rintro v2 w2 ⟨rfl,k2⟩
  exact b8 (az3 k2)
 apply b6
 ·intro x w1 k1 hd
  refine bn4 (b:=[47]) rfl rfl (by simp; omega) ?_
  refine b8 ?_
  exact i7
 apply b6
 ·intro x w1 k1 hd
  refine j5 rfl ?_
  refine b8 ?_
  exact i7
 apply b6
 ·intro x w1 k1 hd
  refine p8 rfl (hg.to k1) rfl rfl ?_
  refine b8 ?_
  exact i7
 refine b6 (e:=Ent.eq (F4 (Lib.itoa (q.den : Int)))) ?_ ?_
 ·intro x w1 k1 hd
  refine i1 (cd1 (z:=(q.den : Int)) ⟨b,rfl,hb.to k1⟩ (by omega)) rfl ?_
  rintro v2 w2 ⟨rfl,k2⟩
  exact b8 (az3 k2)
 apply b6
 ·intro x w1 k1 hd
  refine bn4 rfl rfl (by rw [bd9,Lib.decDigits_length]; simp; omega) ?_
  refine b8 ?_
  exact i7
 refine F5 (F7 ?_)
 intro x3 w3 k3 _
 repeat refine wW ?_
 refine o7 rfl ⟨?_,k.trans k3⟩
 unfold R7
 rw [if_neg (fun h=>hc (hd1.1 h)),bd9,List.append_assoc]
 rfl
end Go.Proofs.YtmjbiocildkhnaaGreatDoor
end
section
namespace Go.Proofs
open Go.Shelf
def Tryz.lays160_ren : Go.Shelf.Ren:=⟨fun | 160=>170 | 232=>190 | 231=>189 | 227=>191 | 234=>193 | 233=>192 | 236=>195 | 235=>194 | 228=>215 | 271=>218 | 151=>217 | 197=>216 | 120=>234 | 152=>233 | 260=>232 | 137=>243 | 119=>244 | 224=>213 | 225=>212 | 217=>211 | 266=>230 | n=>n,fun | 9=>9 | 4=>4 | 3=>3 | 5=>5 | 117=>222 | 116=>221 | 0=>0 | 124=>225 | 21=>21 | 105=>243 | 46=>135 | 119=>271 | 139=>274 | 138=>273 | n=>n,fun | 3=>4 | 4=>5 | n=>n⟩
theorem Tryz.lays160 : Go.Proofs.Lays.n160 Tryz.prog Tryz.lays160_ren:={
 mixed:=by kernel_rfl
 f119:=Tryz.func244.trans (congrArg some (by kernel_rfl))
 f120:=Tryz.func234.trans (congrArg some (by kernel_rfl))
 f137:=Tryz.func243.trans (congrArg some (by kernel_rfl))
 f151:=Tryz.func217.trans (congrArg some (by kernel_rfl))
 f152:=Tryz.func233.trans (congrArg some (by kernel_rfl))
 f160:=Tryz.func170.trans (congrArg some (by kernel_rfl))
 f197:=Tryz.func216.trans (congrArg some (by kernel_rfl))
 f217:=Tryz.func211.trans (congrArg some (by kernel_rfl))
 f224:=Tryz.func213.trans (congrArg some (by kernel_rfl))
 f225:=Tryz.func212.trans (congrArg some (by kernel_rfl))
 f227:=Tryz.func191.trans (congrArg some (by kernel_rfl))
 f228:=Tryz.func215.trans (congrArg some (by kernel_rfl))
 f231:=Tryz.func189.trans (congrArg some (by kernel_rfl))
 f232:=Tryz.func190.trans (congrArg some (by kernel_rfl))
 f233:=Tryz.func192.trans (congrArg some (by kernel_rfl))
 f234:=Tryz.func193.trans (congrArg some (by kernel_rfl))
 f235:=Tryz.func194.trans (congrArg some (by kernel_rfl))
 f236:=Tryz.func195.trans (congrArg some (by kernel_rfl))
 f260:=Tryz.func232.trans (congrArg some (by kernel_rfl))
 f266:=Tryz.func230.trans (congrArg some (by kernel_rfl))
 f271:=Tryz.func218.trans (congrArg some (by kernel_rfl))
 t0:=Tryz.underlying0
 a0:=Tryz.isAgg0
 z0:=Tryz.sizeOf0
 v0:=Tryz.zeroValue0
 t3:=Tryz.underlying3
 a3:=Tryz.isAgg3
 z3:=Tryz.sizeOf3
 v3:=Tryz.zeroValue3
 t4:=Tryz.underlying4
 a4:=Tryz.isAgg4
 z4:=Tryz.sizeOf4
 v4:=Tryz.zeroValue4
 t5:=Tryz.underlying5
 a5:=Tryz.isAgg5
 z5:=Tryz.sizeOf5
 v5:=Tryz.zeroValue5
 t9:=Tryz.underlying9
 a9:=Tryz.isAgg9
 z9:=Tryz.sizeOf9
 v9:=Tryz.zeroValue9
 t21:=Tryz.underlying21
 a21:=Tryz.isAgg21
 z21:=Tryz.sizeOf21
 v21:=Tryz.zeroValue21
 t46:=Tryz.underlying135
 a46:=Tryz.isAgg135
 z46:=Tryz.sizeOf135
 v46:=Tryz.zeroValue135
 t105:=Tryz.underlying243
 a105:=Tryz.isAgg243
 z105:=Tryz.sizeOf243
 v105:=Tryz.zeroValue243
 t116:=Tryz.underlying221
 a116:=Tryz.isAgg221
 z116:=Tryz.sizeOf221
 t117:=Tryz.underlying222
 a117:=Tryz.isAgg222
 z117:=Tryz.sizeOf222
 v117:=Tryz.zeroValue222
 t119:=Tryz.underlying271
 a119:=Tryz.isAgg271
 z119:=Tryz.sizeOf271
 t124:=Tryz.underlying225
 a124:=Tryz.isAgg225
 z124:=Tryz.sizeOf225
 v124:=Tryz.zeroValue225
 t138:=Tryz.underlying273
 a138:=Tryz.isAgg273
 z138:=Tryz.sizeOf273
 v138:=Tryz.zeroValue273
 t139:=Tryz.underlying274
 a139:=Tryz.isAgg274
 z139:=Tryz.sizeOf274
 v139:=Tryz.zeroValue274
 g3:=by kernel_rfl
 g4:=by kernel_rfl }
def Tryz.lays103_ren : Go.Shelf.Ren:=⟨fun | 103=>140 | 210=>169 | 206=>188 | n=>n,fun | 9=>9 | 4=>4 | 24=>178 | 3=>3 | n=>n,fun | n=>n⟩
theorem Tryz.lays103 : Go.Proofs.Lays.n103 Tryz.prog Tryz.lays103_ren:={
 mixed:=by kernel_rfl
 f103:=Tryz.func140.trans (congrArg some (by kernel_rfl))
 f206:=Tryz.func188.trans (congrArg some (by kernel_rfl))
 f210:=Tryz.func169.trans (congrArg some (by kernel_rfl))
 t3:=Tryz.underlying3
 a3:=Tryz.isAgg3
 z3:=Tryz.sizeOf3
 v3:=Tryz.zeroValue3
 t4:=Tryz.underlying4
 a4:=Tryz.isAgg4
 z4:=Tryz.sizeOf4
 v4:=Tryz.zeroValue4
 t9:=Tryz.underlying9
 a9:=Tryz.isAgg9
 z9:=Tryz.sizeOf9
 v9:=Tryz.zeroValue9
 t24:=Tryz.underlying178
 a24:=Tryz.isAgg178
 z24:=Tryz.sizeOf178
 v24:=Tryz.zeroValue178 }
open Go.RowKit in
theorem Tryz.strings_CutPrefix (s p : ByteArray) (w : World) :
  Calls Tryz.prog 140 #[.string s,.string p] w fun e w'=>e = .returned (.tuple #[.string ⟨(Lib.trimPrefix s.data.toList p.data.toList).toArray⟩,.bool (Lib.hasPrefix s.data.toList p.data.toList)]) ∧ w' = w:=Any.strings_CutPrefix Tryz.lays103 s p w
def Tryz.lays172_ren : Go.Shelf.Ren:=⟨fun | 172=>171 | 244=>196 | 245=>197 | 247=>219 | 279=>220 | 280=>221 | 281=>222 | 282=>223 | 287=>235 | 316=>236 | 171=>147 | 205=>237 | 321=>245 | 322=>246 | 243=>174 | 246=>202 | 283=>225 | 284=>226 | 285=>227 | 286=>228 | 129=>239 | 317=>238 | 318=>240 | 319=>241 | 320=>242 | 337=>247 | 338=>248 | n=>n,fun | 9=>9 | 3=>3 | 75=>189 | 76=>190 | 4=>4 | 5=>5 | 167=>246 | 37=>185 | 0=>0 | 85=>247 | 2=>2 | 168=>249 | 53=>161 | 175=>260 | 46=>135 | 210=>264 | 127=>212 | 145=>279 | 143=>277 | 21=>21 | 171=>252 | 173=>255 | 212=>267 | 51=>193 | 20=>20 | 213=>268 | 232=>281 | 233=>282 | 80=>103 | n=>n,fun | 15=>1 | 16=>2 | 17=>3 | 18=>6 | 19=>7 | n=>n⟩
theorem Tryz.lays172 : Go.Proofs.Lays.n172 Tryz.prog Tryz.lays172_ren:={
 mixed:=by kernel_rfl
 f129:=Tryz.func239.trans (congrArg some (by kernel_rfl))
 f171:=Tryz.func147.trans (congrArg some (by kernel_rfl))
 f172:=Tryz.func171.trans (congrArg some (by kernel_rfl))
 f205:=Tryz.func237.trans (congrArg some (by kernel_rfl))
 f243:=Tryz.func174.trans (congrArg some (by kernel_rfl))
 f244:=Tryz.func196.trans (congrArg some (by kernel_rfl))
 f245:=Tryz.func197.trans (congrArg some (by kernel_rfl))
 f246:=Tryz.func202.trans (congrArg some (by kernel_rfl))
 f247:=Tryz.func219.trans (congrArg some (by kernel_rfl))
 f279:=Tryz.func220.trans (congrArg some (by kernel_rfl))
 f280:=Tryz.func221.trans (congrArg some (by kernel_rfl))
 f281:=Tryz.func222.trans (congrArg some (by kernel_rfl))
 f282:=Tryz.func223.trans (congrArg some (by kernel_rfl))
 f283:=Tryz.func225.trans (congrArg some (by kernel_rfl))
 f284:=Tryz.func226.trans (congrArg some (by kernel_rfl))
 f285:=Tryz.func227.trans (congrArg some (by kernel_rfl))
 f286:=Tryz.func228.trans (congrArg some (by kernel_rfl))
 f287:=Tryz.func235.trans (congrArg some (by kernel_rfl))
 f316:=Tryz.func236.trans (congrArg some (by kernel_rfl))
 f317:=Tryz.func238.trans (congrArg some (by kernel_rfl))
 f318:=Tryz.func240.trans (congrArg some (by kernel_rfl))
 f319:=Tryz.func241.trans (congrArg some (by kernel_rfl))
 f320:=Tryz.func242.trans (congrArg some (by kernel_rfl))
 f321:=Tryz.func245.trans (congrArg some (by kernel_rfl))
 f322:=Tryz.func246.trans (congrArg some (by kernel_rfl))
 f337:=Tryz.func247.trans (congrArg some (by kernel_rfl))
 f338:=Tryz.func248.trans (congrArg some (by kernel_rfl))
 t0:=Tryz.underlying0
 a0:=Tryz.isAgg0
 z0:=Tryz.sizeOf0
 v0:=Tryz.zeroValue0
 t2:=Tryz.underlying2
 a2:=Tryz.isAgg2
 z2:=Tryz.sizeOf2
 v2:=Tryz.zeroValue2
 t3:=Tryz.underlying3
 a3:=Tryz.isAgg3
 z3:=Tryz.sizeOf3
 v3:=Tryz.zeroValue3
 t4:=Tryz.underlying4
 a4:=Tryz.isAgg4
 z4:=Tryz.sizeOf4
 v4:=Tryz.zeroValue4
 t5:=Tryz.underlying5
 a5:=Tryz.isAgg5
 z5:=Tryz.sizeOf5
 v5:=Tryz.zeroValue5
 t9:=Tryz.underlying9
 a9:=Tryz.isAgg9
 z9:=Tryz.sizeOf9
 v9:=Tryz.zeroValue9
 t20:=Tryz.underlying20
 a20:=Tryz.isAgg20
 z20:=Tryz.sizeOf20
 v20:=Tryz.zeroValue20
 t21:=Tryz.underlying21
 a21:=Tryz.isAgg21
 z21:=Tryz.sizeOf21
 v21:=Tryz.zeroValue21
 t37:=Tryz.underlying185
 a37:=Tryz.isAgg185
 z37:=Tryz.sizeOf185
 v37:=Tryz.zeroValue185
 t46:=Tryz.underlying135
 a46:=Tryz.isAgg135
 z46:=Tryz.sizeOf135
 v46:=Tryz.zeroValue135
 t51:=Tryz.underlying193
 a51:=Tryz.isAgg193
 z51:=Tryz.sizeOf193
 v51:=Tryz.zeroValue193
 t53:=Tryz.underlying161
 a53:=Tryz.isAgg161
 z53:=Tryz.sizeOf161
 v53:=Tryz.zeroValue161
 t75:=Tryz.underlying189
 a75:=Tryz.isAgg189
 z75:=Tryz.sizeOf189
 v75:=Tryz.zeroValue189
 t76:=Tryz.underlying190
 a76:=Tryz.isAgg190
 z76:=Tryz.sizeOf190
 v76:=Tryz.zeroValue190
 t85:=Tryz.underlying247
 a85:=Tryz.isAgg247
 z85:=Tryz.sizeOf247
 v85:=Tryz.zeroValue247
 t127:=Tryz.underlying212
 a127:=Tryz.isAgg212
 z127:=Tryz.sizeOf212
 v127:=Tryz.zeroValue212
 t143:=Tryz.underlying277
 a143:=Tryz.isAgg277
 z143:=Tryz.sizeOf277
 v143:=Tryz.zeroValue277
 t145:=Tryz.underlying279
 a145:=Tryz.isAgg279
 z145:=Tryz.sizeOf279
 v145:=Tryz.zeroValue279
 t167:=Tryz.underlying246
 a167:=Tryz.isAgg246
 z167:=Tryz.sizeOf246
 v167:=Tryz.zeroValue246
 t168:=Tryz.underlying249
 a168:=Tryz.isAgg249
 z168:=Tryz.sizeOf249
 v168:=Tryz.zeroValue249
 t171:=Tryz.underlying252
 a171:=Tryz.isAgg252
 z171:=Tryz.sizeOf252
 v171:=Tryz.zeroValue252
 t173:=Tryz.underlying255
 a173:=Tryz.isAgg255
 z173:=Tryz.sizeOf255
 v173:=Tryz.zeroValue255
 t175:=Tryz.underlying260
 a175:=Tryz.isAgg260
 z175:=Tryz.sizeOf260
 v175:=Tryz.zeroValue260
 t210:=Tryz.underlying264
 a210:=Tryz.isAgg264
 z210:=Tryz.sizeOf264
 v210:=Tryz.zeroValue264
 t212:=Tryz.underlying267
 a212:=Tryz.isAgg267
 z212:=Tryz.sizeOf267
 v212:=Tryz.zeroValue267
 t213:=Tryz.underlying268
 a213:=Tryz.isAgg268
 z213:=Tryz.sizeOf268
 t232:=Tryz.underlying281
 a232:=Tryz.isAgg281
 z232:=Tryz.sizeOf281
 v232:=Tryz.zeroValue281
 t233:=Tryz.underlying282
 a233:=Tryz.isAgg282
 z233:=Tryz.sizeOf282
 v233:=Tryz.zeroValue282
 g15:=by kernel_rfl
 g16:=by kernel_rfl
 g17:=by kernel_rfl
 g18:=by kernel_rfl
 g19:=by kernel_rfl }
open Go.RowKit in
theorem Tryz.strconv_Atoi (s : ByteArray) (n : Int) (hl : s.size ≤ 18) (h : Lib.atoi s.data.toList = some n) (w : World) :
  Calls Tryz.prog 171 #[.string s] w fun e w'=>e = .returned (.tuple #[.int .i64 n,.nilIface]) ∧ ∃ t,w' = Lib.bytesWorld w 5 t:=Any.strconv_Atoi Tryz.lays172 s n hl h w
def Tryz.lays217_ren : Go.Shelf.Ren:=⟨fun | 217=>211 | 266=>230 | n=>n,fun | 9=>9 | 5=>5 | 3=>3 | n=>n,fun | n=>n⟩
theorem Tryz.lays217 : Go.Proofs.Lays.n217 Tryz.prog Tryz.lays217_ren:={
 mixed:=by kernel_rfl
 f217:=Tryz.func211.trans (congrArg some (by kernel_rfl))
 f266:=Tryz.func230.trans (congrArg some (by kernel_rfl))
 t3:=Tryz.underlying3
 a3:=Tryz.isAgg3
 z3:=Tryz.sizeOf3
 v3:=Tryz.zeroValue3
 t5:=Tryz.underlying5
 a5:=Tryz.isAgg5
 z5:=Tryz.sizeOf5
 v5:=Tryz.zeroValue5
 t9:=Tryz.underlying9
 a9:=Tryz.isAgg9
 z9:=Tryz.sizeOf9
 v9:=Tryz.zeroValue9 }
open Go.RowKit Go.Lib in
theorem Tryz.stringslite_IndexByte (s : ByteArray) (c : Int) (w : World) :
  Calls Tryz.prog 211 #[.string s,.int .u8 c] w fun e w'=>e = .returned (.int .i64 (Lib.indexByte s.data.toList c.toNat.toUInt8)) ∧ w' = w:=Any.stringslite_IndexByte Tryz.lays217 s c w
end Go.Proofs
end
section
namespace Go.Proofs.YtmjbiocildkhnaaGreatDoor
open Go Go.RowKit Tryz
abbrev N3 : List UInt8:=[48,49,50,51,52,53,54,55,56,57]
theorem ab7 (c : UInt8) : N3.contains c = true ↔ Dig c:=by
 have h:=c.toNat_lt
 constructor
 ·intro h
  simp only [List.contains_eq_mem,decide_eq_true_eq,List.mem_cons,List.not_mem_nil,or_false] at h
  rcases h with rfl | rfl | rfl | rfl | rfl | rfl | rfl | rfl | rfl | rfl <;> exact ⟨by decide,by decide⟩
 rintro ⟨h1,h2⟩
 simp only [List.contains_eq_mem,decide_eq_true_eq,List.mem_cons,List.not_mem_nil,or_false]
 have e : ∀ k : UInt8,c.toNat = k.toNat → c = k:=fun k hk=>UInt8.toNat_inj.1 hk
 have : c.toNat = 48 ∨ c.toNat = 49 ∨ c.toNat = 50 ∨ c.toNat = 51 ∨ c.toNat = 52 ∨ c.toNat = 53 ∨ c.toNat = 54 ∨ c.toNat = 55 ∨ c.toNat = 56 ∨ c.toNat = 57:=by omega
 rcases this with h | h | h | h | h | h | h | h | h | h
 ·exact .inl (e 48 h)
 ·exact .inr (.inl (e 49 h))
 ·exact .inr (.inr (.inl (e 50 h)))
 ·exact .inr (.inr (.inr (.inl (e 51 h))))
 ·exact .inr (.inr (.inr (.inr (.inl (e 52 h)))))
 ·exact .inr (.inr (.inr (.inr (.inr (.inl (e 53 h))))))
 ·exact .inr (.inr (.inr (.inr (.inr (.inr (.inl (e 54 h)))))))
 ·exact .inr (.inr (.inr (.inr (.inr (.inr (.inr (.inl (e 55 h))))))))
 ·exact .inr (.inr (.inr (.inr (.inr (.inr (.inr (.inr (.inl (e 56 h)))))))))
 exact .inr (.inr (.inr (.inr (.inr (.inr (.inr (.inr (.inr (e 57 h)))))))))
theorem a65 {p : UInt8 → Bool} : ∀ {l : List UInt8},l.dropWhile p = [] ↔ ∀ x ∈ l,p x = true
 | []=>by simp
 | c :: r=>by
  rw [List.dropWhile_cons]
  split
  ·rename_i h
   rw [a65]
   simp [h]
  rename_i h
  constructor
  ·intro e; cases e
  intro e; exact absurd (e c (List.mem_cons_self ..)) h
theorem db5 (s : List UInt8) : Lib.trimS s N3 = [] ↔ ∀ c ∈ s,Dig c:=by
 unfold Lib.trimS Lib.trimLeftS Lib.trimRightS
 rw [a65]
 constructor
 ·intro h
  have h2 : ∀ c ∈ s.reverse.dropWhile (N3.contains ·),Dig c:=fun c hc=>(ab7 c).1 (h c (List.mem_reverse.2 hc))
  have h3 : s.reverse.dropWhile (N3.contains ·) = []:=by
   cases hd : s.reverse.dropWhile (N3.contains ·) with
   | nil=>rfl
   | cons c r=>
    exfalso
    have h4 : N3.contains c = true:=(ab7 c).2 (h2 c (by rw [hd]; exact List.mem_cons_self ..))
    have h5:=List.head?_dropWhile_not (N3.contains ·) s.reverse
    rw [hd] at h5
    simp only [List.head?_cons] at h5
    rw [h4] at h5
    cases h5
  intro c hc
  exact (ab7 c).1 (a65.1 h3 c (List.mem_reverse.2 hc))
 intro h c hc
 have h1:=List.mem_reverse.1 hc
 exact (ab7 c).2 (h c (List.mem_reverse.1 ((List.dropWhile_sublist _).subset h1)))
theorem cu4 {w : World} {s : List UInt8} (hl : s.length ≤ 9223372036854775807) :
  Gives prog 170 [F4 s,F4 N3] w fun v' w'=>v' = F4 (Lib.trimS s N3) ∧ Ext w w':=
 Calls.mono (Any.strings_Trim_laid Tryz.lays160 (by kernel_rfl) ⟨s.toArray⟩ ⟨N3.toArray⟩ w (by rw [ah6]; exact hl) (by decide) (ascii_of_all (by decide))) fun e w' ⟨he,hw⟩=>⟨_,he,rfl,.of_below hw⟩
theorem ax1 {w : World} {s : List UInt8} (hl : s.length ≤ 9223372036854775807) :
  Gives prog 141 [F4 s] w fun v' w'=>v' = .bool (tst (X9 s)) ∧ Ext w w':=by
 have hbd : ¬ (s = [] ∨ (s.head? = some 48 ∧ 1 < s.length)) → (X9 s ↔ ∀ c ∈ s,Dig c):=by
  intro h
  refine ⟨fun h2=>h2.2.1,fun h2=>⟨fun e=>h (.inl e),h2,fun h3=>?_⟩⟩
  have h4 : ¬ 1 < s.length:=fun h4=>h (.inr ⟨h3,h4⟩)
  have h5 : s ≠ []:=fun e=>h (.inl e)
  have:=List.length_pos_iff.2 h5
  omega
 refine l8 func141 rfl rfl rfl ?_
 repeat (first | refine wW ?_ | refine d7 ?_)
 refine al0 (b:=[]) rfl rfl ?_
 repeat (first | refine q5 ?_)
 refine b11 [(5,14)] (fun ρ w'=>ρ 14 = .bool (tst (s = [] ∨ (s.head? = some 48 ∧ 1 < s.length))) ∧ w' = w) ?_ ?_
 ·refine D6 rfl rfl ?_ ?_ <;> intro hnil
  ·repeat (first | refine wW ?_ | refine s8 rfl rfl rfl ?_ | refine S4 rfl rfl ?_ | refine s5 rfl ?_)
   exact ⟨by (repeat (first | refine j1 rfl ?_ | exact d9 | refine j2 rfl ?_ | exact d8 | refine m7 rfl ?_ | refine l9 rfl ?_)),by rw [m6 (Or.inl hnil)]; rfl,rfl⟩
  obtain ⟨c,hc⟩ : ∃ c,s[0]? = some c:=⟨s[0]'(List.length_pos_iff.2 hnil),List.getElem?_eq_getElem _⟩
  have hc48 : (c.toNat : Int) = 48 ↔ s.head? = some 48:=by
   rw [List.head?_eq_getElem?,hc]
   constructor
   ·intro h
    congr 1
    apply UInt8.toNat_inj.1
    show c.toNat = 48
    omega
   intro h
   have:=Option.some.inj h
   subst this
   rfl
  repeat (first | refine b59 0 rfl rfl rfl hc ?_ | refine q5 ?_ | refine q7 rfl rfl ?_ | refine Z7 rfl rfl ?_)
  refine D6 rfl rfl ?_ ?_ <;> intro h48
  ·repeat (first | refine a63 rfl ?_ | refine wW ?_ | refine q7 rfl rfl ?_ | refine s5 rfl ?_ | refine p9 rfl ?_ | refine X6 rfl rfl ?_)
   refine ⟨by (repeat (first | refine j1 rfl ?_ | exact d9 | refine j2 rfl ?_ | exact d8 | refine m7 rfl ?_ | refine l9 rfl ?_)),congrArg Value.bool (N4 ?_),rfl⟩
   exact ⟨fun h=>Or.inr ⟨hc48.1 h48,by omega⟩,fun h=>h.elim (fun h=>absurd h hnil) fun h=>by omega⟩
  repeat (first | refine wW ?_ | refine q7 rfl rfl ?_ | refine s8 rfl rfl rfl ?_ | refine p9 rfl ?_)
  refine ⟨by (repeat (first | refine j1 rfl ?_ | exact d9 | refine j2 rfl ?_ | exact d8 | refine m7 rfl ?_ | refine l9 rfl ?_)),?_,rfl⟩
  rw [l7 (show ¬ (s = [] ∨ (s.head? = some 48 ∧ 1 < s.length)) from fun h=>h.elim hnil fun h=>h48 (hc48.2 h.1))]
  rfl
 rintro u1 w1 ⟨h14,rfl⟩
 refine j8 14 h14 ?_
 clear h14
 skip
 try refine i6 ?_
 refine j4 rfl ?_ ?_ <;> intro hbad
 ·repeat (first | refine wW ?_ | refine r0 ?_)
  refine o7 rfl ⟨?_,.refl⟩
  rw [l7]
  rintro ⟨h1,h2,h3⟩
  rcases hbad with h | h
  ·exact h1 h
  have:=h3 h.1; omega
 repeat (first | refine wW ?_ | refine wp_skip ?_)
 refine i1 (cu4 hl) rfl ?_
 rintro v2 w2 ⟨rfl,k2⟩
 refine al0 (b:=[]) rfl rfl ?_
 repeat refine wW ?_
 refine o7 rfl ⟨?_,k2⟩
 rw [N4 (db5 s),← N4 (hbd hbad)]
theorem a32 : ∀ {l : List UInt8} {a : Nat},(∀ c ∈ l,Dig c) → Lib.decFrom a l = some (l.foldl (fun a c=>10 * a + (c.toNat - 48)) a)
 | [],a,_=>rfl
 | c :: r,a,h=>by
  have h1:=h c (List.mem_cons_self ..)
  unfold Dig at h1
  have h2:=a32 (l:=r) (a:=a * 10 + (c.toNat - 48)) fun x hx=>h x (List.mem_cons_of_mem _ hx)
  unfold Lib.decFrom Lib.digitVal
  rw [if_pos h1]
  simp only [List.foldl_cons]
  rw [h2,Nat.mul_comm a]
theorem cq3 {l : List UInt8} (hne : l ≠ []) (h : ∀ c ∈ l,Dig c) : Lib.atoi l = some (H7 l : Int):=by
 cases l with
 | nil=>exact absurd rfl hne
 | cons c r=>
  have h1:=h c (List.mem_cons_self ..)
  unfold Dig at h1
  have e45 : (c == 45) = false:=by
   rw [beq_eq_false_iff_ne]
   rintro rfl
   exact absurd h1.1 (by decide)
  have e43 : (c == 43) = false:=by
   rw [beq_eq_false_iff_ne]
   rintro rfl
   exact absurd h1.1 (by decide)
  have e : Lib.atoi (c :: r) = if (c == 45) = true then (Lib.decNat r).map fun (m : Nat)=>-(m : Int) else if (c == 43) = true then (Lib.decNat r).map fun (m : Nat)=>(m : Int) else (Lib.decNat (c :: r)).map fun (m : Nat)=>(m : Int):=rfl
  have e2 : Lib.decNat (c :: r) = Lib.decFrom 0 (c :: r):=rfl
  rw [e,e45,e43,e2,a32 h]
  rfl
theorem cr2 {w : World} {T : TypeId} {t : ByteArray} : Ext w (Lib.bytesWorld w T t):=.of_below (Lib.bytesWorld_below w T t)
theorem dw9 {w : World} {l : List UInt8} (hne : l ≠ []) (h : ∀ c ∈ l,Dig c) (hl : l.length ≤ 18) :
  Gives prog 171 [F4 l] w fun v' w'=>v' = .tuple #[.int .i64 (H7 l : Int),.nilIface] ∧ Ext w w':=
 Calls.mono (Tryz.strconv_Atoi ⟨l.toArray⟩ (H7 l : Int) (by rw [ah6]; exact hl) (cq3 hne h) w) fun e w' ⟨he,t,hw⟩=>⟨_,he,rfl,hw ▸ cr2⟩
theorem bz5 {S : Nat → Prop} {w : World} {s : List UInt8} (hS : Up S w) (hd : ∀ c ∈ s,Dig c) (hl : s.length ≤ 1000000) :
  Gives prog 142 [F4 s] w fun v' w'=>Ext w w' ∧ s7 S 193 .u32 w' v' (H7 s):=by
 refine l8 func142 rfl rfl rfl ?_
 repeat refine wW ?_
 try refine n5 ?_
 refine F6 ((0,0) :: [(0,0),(3,28)]) (fun k ρ w'=>∃ (L : List Nat) (v : Value),k ≤ s.length ∧ ρ 0 = F4 (s.take k) ∧ ρ 3 = v ∧ (0 < k → 9 * L.length + k = s.length) ∧ L.length ≤ s.length ∧ H7 (s.drop k) = r8 L ∧ Digs L ∧ Ext w w' ∧ Own w.heap.size 193 1 w' v L.length (L.map fun d : Nat=>.int .u32 d)) s.length ?_ ?_
 ·exact ⟨[],_,Nat.le_refl _,by rw [List.take_of_length_le (Nat.le_refl _)]; rfl,rfl,by simp,by simp,by rw [List.drop_of_length_le (Nat.le_refl _)]; rfl,R1,.refl,ac0⟩
 rintro k u w1 ⟨L,v,hk,h0,h3,hcnt,hLl,ab3,hLd,k1,ho⟩
 refine j8 0 h0 (j8 3 h3 ?_)
 clear h0 h3
 have htk : (s.take k).length = k:=by rw [List.length_take]; omega
 repeat (first | refine a63 rfl ?_ | refine wW ?_ | refine d7 ?_ | refine X6 rfl rfl ?_)
 try refine i6 ?_
 refine j4 rfl ?_ ?_ <;> intro hc
 ·obtain ⟨cut,hcut⟩ : ∃ cut,cut = k - 9:=⟨_,rfl⟩
  have hmax : max (0 : Int) (((s.take k).length : Int) - 9) = (cut : Int):=by omega
  obtain ⟨ch,hch⟩ : ∃ ch,ch = (s.take k).drop cut:=⟨_,rfl⟩
  have hchl : ch.length = k - cut:=by rw [hch,List.length_drop,htk]
  have hchd : ∀ c ∈ ch,Dig c:=fun c hc=>hd c (List.mem_of_mem_take (List.mem_of_mem_drop (hch ▸ hc)))
  have hchne : ch ≠ []:=by intro e; rw [e] at hchl; simp at hchl; omega
  have hdv:=cm0 hchd
  have hdv9 : H7 ch < 1000000000:=by
   have : 10 ^ ch.length ≤ 10 ^ 9:=Nat.pow_le_pow_right (by omega) (by omega)
   omega
  have hsd : s.drop cut = ch ++ s.drop k:=by
   rw [hch]
   conv=>lhs; rw [← List.take_append_drop k s]
   rw [List.drop_append_of_le_length (by omega)]
  repeat (first | refine a63 rfl ?_ | refine wW ?_ | refine q6 ?_ | refine wp_skip ?_ | refine y7 rfl rfl ?_ | refine c81 rfl rfl ?_)
  rw [hmax]
  repeat (first | refine a07 cut rfl rfl rfl (by omega) ?_)
  rw [← hch]
  refine i1 (dw9 hchne hchd (by omega)) rfl ?_
  rintro v2 w2 ⟨rfl,k2⟩
  repeat (first | refine wW ?_ | refine B4 rfl rfl ?_ | refine U0 rfl (ai0 (by omega) (by omega)) ?_)
  refine ab5 (by conv=>(lhs; whnf)) rfl ?_
  intro w3 g k3 hg hgs
  refine U7 (by conv=>(lhs; whnf)) (ab0 (ab0 ho k2) k3) rfl hg (by omega) rfl (fun u hu=>by rw [List.mem_singleton.1 hu]; rfl) (by unfold maxLen; omega) (by omega) (by have:=k1.size; have:=k2.size; have:=k3.size; omega) ?_
  intro v4 w4 ho4 k4
  have hlen : (L ++ [H7 ch]).length = L.length + 1:=by rw [List.length_append]; rfl
  repeat (first | refine av4 cut rfl rfl rfl (by omega) ?_ | refine wW ?_ | refine ab8 ?_)
  refine ⟨by (repeat (first | refine j1 rfl ?_ | exact d9 | refine j2 rfl ?_ | exact d8 | refine m7 rfl ?_ | refine l9 rfl ?_)),cut,by omega,L ++ [H7 ch],v4,by omega,?_,rfl,by rw [hlen]; omega,by rw [hlen]; omega,?_,hLd.append (Digs.cons hdv9 R1),?_,by simpa using ho4⟩
  ·show F4 ((s.take k).take cut) = _
   rw [List.take_take,Nat.min_eq_left (by omega)]
  ·rw [hsd,b85,ab3,aj8,List.length_drop,show s.length - k = 9 * L.length by have:=hcnt (by omega); omega,← ae6,Nat.mul_comm (H7 ch)]
   omega
  exact Keeps.later ((k1.trans k2).trans k3) k4 fun i hi _ e=>by have:=(ho.lt i e.symm).1; omega
 obtain rfl : k = 0:=by omega
 rw [List.drop_zero] at ab3
 repeat (first | refine wW ?_ | refine wp_exit ?_)
 refine i1 (bh8 (S:=S) (v:=v) (l:=L) (Row.of_own ho hS) hLd) rfl ?_
 rintro v2 w2 ⟨rfl,h2⟩
 repeat refine wW ?_
 refine o7 rfl ⟨k1,?_⟩
 rw [ab3]
 exact h2
theorem cn2 (s : List UInt8) : Lib.hasPrefix s [45] = tst (aa9 s):=by
 unfold Lib.hasPrefix aa9
 cases s with
 | nil=>rw [l7 (by simp)]; rfl
 | cons c r=>
  by_cases h : c = 45
  ·subst h
   rw [m6 (by rfl)]
   simp [List.isPrefixOf]
  rw [l7 (by simpa using h)]
  simp [List.isPrefixOf]
  exact fun e=>h e.symm
theorem dd4 (s : List UInt8) : Lib.trimPrefix s [45] = Dgs s:=by
 unfold Lib.trimPrefix Dgs
 rw [cn2]
 by_cases h : aa9 s
 ·rw [m6 h,if_pos h]; rfl
 rw [l7 h,if_neg h]; rfl
theorem by1 {w : World} {s : List UInt8} :
  Gives prog 140 [F4 s,F4 [45]] w fun v' w'=>v' = .tuple #[F4 (Dgs s),.bool (tst (aa9 s))] ∧ w' = w:=
 Calls.mono (Tryz.strings_CutPrefix ⟨s.toArray⟩ ⟨[45].toArray⟩ w) fun e w' ⟨he,hw⟩=>⟨_,he,by
  show Value.tuple #[.string ⟨(Lib.trimPrefix s [45]).toArray⟩,.bool (Lib.hasPrefix s [45])] = _
  rw [dd4,cn2],hw⟩
theorem dn2 (l : List UInt8) (c : UInt8) : (Lib.indexByte l c = -1 ∧ c ∉ l) ∨ ∃ a b,l = a ++ c :: b ∧ c ∉ a ∧ Lib.indexByte l c = (a.length : Int):=by
 induction l with
 | nil=>exact .inl ⟨rfl,by simp⟩
 | cons x l ih=>
  unfold Lib.indexByte
  by_cases hx : x = c
  ·subst hx
   exact .inr ⟨[],l,rfl,by simp,by simp⟩
  have hb : (x == c) = false:=by simpa using hx
  rcases ih with ⟨h1,h2⟩ | ⟨a,b,rfl,h2,h3⟩
  ·refine .inl ⟨by simp [hb,h1],?_⟩
   intro h
   rcases List.mem_cons.1 h with h | h
   ·exact hx h.symm
   exact h2 h
  refine .inr ⟨x :: a,b,rfl,?_,?_⟩
  ·intro h
   rcases List.mem_cons.1 h with h | h
   ·exact hx h.symm
   exact h2 h
  rw [h3]
  have : ((a.length : Int) == -1) = false:=by simp
  simp [hb,this]
theorem c52 {P : Program} {n : Nat} {Q : F1} {ρ : Fr} {w : World} {all rest : List Oper} {d : Tmp} {ty : TypeId} {pos : String} {aft : Array Edge} {t : TypeId} [st : StrT P t] {x : Operand} {l : List UInt8} (m : Int) (hv : ev ρ x = F4 l) (hm : (l.length : Int) = m)
  (h : WpR P n all Q rest (upd ρ d (.int .i64 m)) w) : WpR P n all Q (⟨some d,.call ⟨.builtin .len,#[x],#[t]⟩,ty,pos,aft,none⟩ :: rest) ρ w:=a63 hv (by rw [hm]; exact h)
theorem bz0 {w : World} {s : List UInt8} :
  Gives prog 211 [F4 s,.int .u8 47] w fun v' w'=>v' = .int .i64 (Lib.indexByte s 47) ∧ w' = w:=
 Calls.mono (Tryz.stringslite_IndexByte ⟨s.toArray⟩ 47 w) fun e w' ⟨he,hw⟩=>⟨_,he,rfl,hw⟩
theorem c79 {w : World} {s : List UInt8} (hl : s.length ≤ 9223372036854775806) :
  Gives prog 187 [F4 s,F4 [47]] w fun v' w'=>v' = .int .i64 (Lib.indexByte s 47) ∧ w' = w:=by
 refine l8 func187 rfl rfl rfl ?_
 repeat (first | refine c52 1 rfl rfl ?_ | refine wW ?_ | refine z7 ?_ | refine q6 ?_ | refine q7 rfl rfl ?_ | refine Z7 rfl rfl ?_ | refine ca9 rfl rfl (by omega) ?_)
 refine al0 (a:=[47]) (b:=s) rfl rfl ?_
 repeat (first | refine wW ?_ | refine p9 rfl ?_)
 try refine i6 ?_
 refine j4 rfl ?_ ?_ <;> intro hc
 ·have h47 : s = [47]:=by simpa using hc.symm
  subst h47
  repeat (first | refine wW ?_ | refine r0 ?_ | refine L0 ?_)
  exact S7 rfl (by conv=>(lhs; whnf)) ⟨by rw [show Lib.indexByte [47] 47 = 0 from by simp [Lib.indexByte]],rfl⟩
 repeat (first | refine b59 0 rfl rfl rfl (c:=47) rfl ?_ | refine wW ?_ | refine Z7 rfl rfl ?_ | refine ba8 rfl (by omega) ?_)
 refine i1 (bz0 (s:=s)) rfl ?_
 rintro v2 w2 ⟨rfl,rfl⟩
 repeat (first | refine wW ?_ | refine r0 ?_ | refine L0 ?_)
 exact o7 rfl ⟨rfl,rfl⟩
def d21 (v : Value) (s : List UInt8) : Prop:=((47 : UInt8) ∉ s ∧ v = .tuple #[F4 s,F4 [],.bool false]) ∨ ∃ a b,s = a ++ 47 :: b ∧ (47 : UInt8) ∉ a ∧ v = .tuple #[F4 a,F4 b,.bool true]
theorem dg1 {w : World} {s : List UInt8} (hl : s.length ≤ 9223372036854775806) :
  Gives prog 168 [F4 s,F4 [47]] w fun v' w'=>Ext w w' ∧ d21 v' s:=by
 refine l8 func168 rfl rfl rfl ?_
 repeat (first | refine wW ?_ | refine d7 ?_)
 refine i1 (c79 hl) rfl ?_
 rintro v1 w1 ⟨rfl,rfl⟩
 repeat (first | refine wW ?_ | refine ag0 rfl rfl ?_)
 rcases dn2 s 47 with ⟨h1,h2⟩ | ⟨a,b,rfl,h2,h3⟩
 ·rw [h1]
  repeat (first | refine wW ?_ | refine wp_skip ?_ | refine bh5 rfl (by omega) ?_)
  exact db2 rfl (B8 (by conv=>(lhs; whnf))) (B8 (by conv=>(lhs; whnf))) (B8 (by conv=>(lhs; whnf))) ⟨.refl,.inl ⟨h2,rfl⟩⟩
 rw [h3]
 have hla : a.length + 1 ≤ (a ++ 47 :: b).length:=by simp
 repeat (first | refine A6 ?_ | refine ba8 rfl (by omega) ?_)
 refine s4 10 ?_
 apply b6
 ·intro x w1 k1 hd
  refine q5 ?_
  refine b8 ?_
  exact i7
 apply b6
 ·intro x w1 k1 hd
  refine q5 ?_
  refine b8 ?_
  exact i7
 apply b6
 ·intro x w1 k1 hd
  refine av4 a.length rfl rfl rfl (by omega) ?_
  refine b8 ?_
  exact i7
 apply b6
 ·intro x w1 k1 hd
  refine q5 ?_
  refine b8 ?_
  exact i7
 apply b6
 ·intro x w1 k1 hd
  refine q5 ?_
  refine b8 ?_
  exact i7
 apply b6
 ·intro x w1 k1 hd
  refine q5 ?_
  refine b8 ?_
  exact i7
 apply b6
 ·intro x w1 k1 hd
  refine c52 1 rfl rfl ?_
  refine b8 ?_
  exact i7
 apply b6
 ·intro x w1 k1 hd
  refine A7 rfl rfl ?_
  refine b8 ?_
  exact i7
 apply b6
 ·intro x w1 k1 hd
  refine a07 (a.length + 1) rfl rfl rfl (by omega) ?_
  refine b8 ?_
  exact i7
 apply b6
 ·intro x w1 k1 hd
  refine bp7 ?_
  refine b8 ?_
  exact i7
 refine F5 (F7 ?_)
 intro x w2 k2 _
 repeat (first | refine wW ?_ | refine r0 ?_)
 refine db2 rfl (B8 (by conv=>(lhs; whnf))) (B8 (by conv=>(lhs; whnf))) (B8 (by conv=>(lhs; whnf))) ⟨k2,.inr ⟨a,b,rfl,h2,?_⟩⟩
 rw [List.take_left' rfl,show a ++ 47 :: b = (a ++ [47]) ++ b by simp,List.drop_left' (by simp)]
theorem d39 {w : World} {s : List UInt8} (hl : s.length ≤ 9223372036854775806) :
  Gives prog 139 [F4 s,F4 [47]] w fun v' w'=>Ext w w' ∧ d21 v' s:=by
 refine l8 func139 rfl rfl rfl ?_
 repeat refine wW ?_
 refine i1 (dg1 hl) rfl ?_
 rintro v1 w1 ⟨k1,h1⟩
 rcases h1 with ⟨h1,rfl⟩ | ⟨a,b,h1,h2,rfl⟩
 ·repeat (first | refine wW ?_ | refine B4 rfl rfl ?_)
  exact db2 rfl (B8 (by conv=>(lhs; whnf))) (B8 (by conv=>(lhs; whnf))) (B8 (by conv=>(lhs; whnf))) ⟨k1,.inl ⟨h1,rfl⟩⟩
 repeat (first | refine wW ?_ | refine B4 rfl rfl ?_)
 exact db2 rfl (B8 (by conv=>(lhs; whnf))) (B8 (by conv=>(lhs; whnf))) (B8 (by conv=>(lhs; whnf))) ⟨k1,.inr ⟨a,b,h1,h2,rfl⟩⟩
def cy7 (s : List UInt8) (n : Int) (d : Nat) : Prop:=
 (d = 0 ∧ (47 : UInt8) ∉ s ∧ s = Lib.itoa n) ∨ (2 ≤ d ∧ ∃ a,(47 : UInt8) ∉ a ∧ s = a ++ 47 :: Lib.decDigits d ∧ a = Lib.itoa n)
def bj7 (d : Nat) : Nat:=if d = 0 then 1 else d
theorem ch0 {s : List UInt8} {n : Int} {d : Nat} (h : cy7 s n d) (hg : Nat.gcd (bj7 d) n.natAbs = 1) : ∃ q : Rat,q.num = n ∧ bot q = d ∧ s = R7 q:=by
 unfold bj7 at hg
 rcases h with ⟨rfl,h1,h2⟩ | ⟨h0,a,h1,rfl,h2⟩
 ·exact ⟨(n : Rat),rfl,dl1 n,(a49 h1 _).2 ⟨rfl,h2⟩⟩
 rw [if_neg (by omega),Nat.gcd_comm] at hg
 obtain ⟨q,h3,h4⟩:=dx0 n (d:=d) (by omega) hg
 refine ⟨q,h3,?_,(a04 h1 q).2 ⟨by omega,by rw [h3]; exact h2,by rw [h4]⟩⟩
 unfold bot
 rw [if_neg (by omega),h4]
theorem cv1 {s : List UInt8} {n : Int} {d : Nat} (h : cy7 s n d) (hg : Nat.gcd (bj7 d) n.natAbs ≠ 1) : ∀ q,s ≠ R7 q:=fun q hq=>by
 unfold bj7 at hg
 rcases h with ⟨rfl,h1,h2⟩ | ⟨h0,a,h1,rfl,h2⟩
 ·rw [if_pos rfl,Nat.gcd_one_left] at hg
  exact hg rfl
 rw [if_neg (by omega),Nat.gcd_comm] at hg
 obtain ⟨h3,h4,h5⟩:=(a04 h1 q).1 hq
 have h6:=congrArg H7 h5
 rw [R5,R5] at h6
 rw [h2] at h4
 have h7:=bk7 h4
 subst h6 h7
 exact hg (dl2 q)
theorem c49 {n j k : Nat} (h : n < 10 ^ j) (hj : j ≤ 9 * k) : dl n ≤ k:=by
 refine L5 ?_
 rw [ae6]
 exact Nat.lt_of_lt_of_le h (ba9 hj)
theorem dd5 {z : Int} {s : List UInt8} (h : s = Lib.itoa z) {k : Nat} (hl : s.length ≤ 9 * k) : zl z ≤ k:=cq4 (Nat.le_trans (bk6 z) (h ▸ hl))
theorem dx7 {S : Nat → Prop} {w : World} {x m b : Value} {d : Nat} (hS : Up S w) (h1 : x.oneCell' = true) (h2 : m.oneCell' = true) (hb : s7 S 193 .u32 w b d) :
  Gives prog 134 [.agg #[x,m,b]] w fun v' w'=>Ext w w' ∧ s7 S 193 .u32 w' v' (bj7 d):=by
 have hl:=@I5 d
 unfold dl at hl
 unfold bj7
 refine l8 func134 rfl rfl rfl ?_
 have k : Ext w w:=.refl
 repeat refine wW ?_
 refine r7 (cs:=[x,m,b]) rfl ?_
 intro w_1 g k_1 hg hs_1
 have hsg : w.heap.size ≤ g:=Nat.le_trans k.size hs_1
 clear hs_1
 replace hS:=hS.to k_1
 replace hb:=hb.to k_1
 replace k:=k.trans k_1
 clear k_1
 repeat (first | refine f5 rfl hg rfl ?_ | refine wW ?_ | refine d7 ?_ | refine A2 (by conv=>(lhs; whnf)) (by assumption) ?_ | refine Z7 rfl rfl ?_ | refine j5 rfl ?_)
 try refine i6 ?_
 refine j4 rfl ?_ ?_ <;> intro hc
 ·repeat refine wW ?_
  refine i1 (da7 hS) rfl ?_
  rintro v_2 w_2 ⟨k_2,h3⟩
  replace hS:=hS.to k_2
  replace hb:=hb.to k_2
  replace hg:=hg.to k_2
  replace k:=k.trans k_2
  clear k_2
  repeat (first | refine wW ?_ | refine r0 ?_)
  refine o7 rfl ⟨k,?_⟩
  rw [if_pos (hl.1 (by omega))]
  exact h3
 repeat (first | refine f5 rfl hg rfl ?_ | refine wW ?_ | refine wp_skip ?_ | refine j5 rfl ?_)
 refine o7 rfl ⟨k,?_⟩
 rw [if_neg (fun h=>hc (by have:=hl.2 h; omega))]
 exact hb
theorem dm1 {S : Nat → Prop} {w : World} {va : Value} {a : Nat} (ha : s7 S 193 .u32 w va a) :
  Gives prog 144 [va] w fun v' w'=>v' = .bool (tst (a = 1)) ∧ Ext w w':=(bw2 ha).mono fun _ _ ⟨h,e⟩=>⟨h,e ▸ .refl⟩
theorem dg2 (s : List UInt8) : (¬ X9 (Dgs s) ∨ (aa9 s ∧ Dgs s = [48])) ↔ ∀ z,s ≠ Lib.itoa z:=by
 constructor
 ·rintro (h | ⟨h1,h2⟩) z hz
  ·exact h ((bw7 s).1 ⟨z,hz⟩).1
  exact ((bw7 s).1 ⟨z,hz⟩).2 h1 (by rw [h2]; rfl)
 intro h
 by_cases hd : X9 (Dgs s)
 ·right
  have h2 : ¬ (aa9 s → (Dgs s).head? ≠ some 48):=fun h2=>h _ (bw3 hd h2)
  by_cases hn : aa9 s
  ·refine ⟨hn,?_⟩
   have h3 : (Dgs s).head? = some 48:=Classical.byContradiction fun h3=>h2 fun _=>h3
   have h4:=hd.2.2 h3
   match hds : Dgs s,h3,h4 with
   | [c],h3,_=>simp at h3; rw [h3]
  exact absurd (fun h3=>absurd h3 hn) h2
 exact .inl hd
theorem do2 {b : List UInt8} (h : X9 b) (h0 : b ≠ [48]) (h1 : b ≠ [49]) : 2 ≤ H7 b:=by
 have h2:=aa1 h
 rcases Nat.lt_or_ge (H7 b) 2 with h3 | h3
 ·exfalso
  have h4 : H7 b = 0 ∨ H7 b = 1:=by omega
  rcases h4 with h4 | h4
  ·rw [h4,Lib.decDigits_one (by decide)] at h2; exact h0 h2.symm
  rw [h4,Lib.decDigits_one (by decide)] at h2; exact h1 h2.symm
 exact h3
theorem c21 {b : List UInt8} (h : ¬ (X9 b ∧ b ≠ [48] ∧ b ≠ [49])) {d : Nat} (hd : 2 ≤ d) : b ≠ Lib.decDigits d:=by
 rintro rfl
 refine h ⟨aj6 d,fun e=>?_,fun e=>?_⟩
 ·have:=congrArg H7 e; rw [R5,show H7 [48] = 0 from rfl] at this; omega
 have:=congrArg H7 e; rw [R5,show H7 [49] = 1 from rfl] at this; omega
theorem ce4 (s : List UInt8) : (au3 s).natAbs = H7 (Dgs s) ∧ (au3 s < 0 ↔ aa9 s ∧ 0 < H7 (Dgs s)):=by
 unfold au3
 split
 ·rename_i h; exact ⟨by omega,⟨fun h2=>⟨h,by omega⟩,fun h2=>by omega⟩⟩
 rename_i h; exact ⟨by omega,⟨fun h2=>by omega,fun h2=>absurd h2.1 h⟩⟩
def dp9 (s a b : List UInt8) (has : Bool) : Prop:=(has = false ∧ (47 : UInt8) ∉ s ∧ a = s ∧ b = []) ∨ (has = true ∧ s = a ++ 47 :: b ∧ (47 : UInt8) ∉ a)
theorem c23 {s a b : List UInt8} {has : Bool} (h : dp9 s a b has) (hb : (∀ z,a ≠ Lib.itoa z) ∨ (has = true ∧ ¬ (X9 b ∧ b ≠ [48] ∧ b ≠ [49]))) : ∀ q,s ≠ R7 q:=fun q hq=>by
 rcases h with ⟨rfl,h1,rfl,rfl⟩ | ⟨rfl,rfl,h1⟩
 ·rcases hb with hb | ⟨hb,_⟩
  ·exact hb _ ((a49 h1 q).1 hq).2
  cases hb
 obtain ⟨h2,h3,h4⟩:=(a04 h1 q).1 hq
 rcases hb with hb | ⟨_,hb⟩
 ·exact hb _ h3
 have:=q.den_pos
 exact c21 hb (d:=q.den) (by omega) h4
theorem c04 {S : Nat → Prop} {w : World} {s : List UInt8} (hS : Up S w) (hl : s.length ≤ 140737488351232) :
  Gives prog 98 [F4 s] w fun v' w'=>Ext w w' ∧
   ((70000 < s.length ∧ v' = .tuple #[.agg #[.bool false,.slice none 0 0,.slice none 0 0],.int .i64 2]) ∨ (s.length ≤ 70000 ∧ (∀ q,s ≠ R7 q) ∧ v' = .tuple #[.agg #[.bool false,.slice none 0 0,.slice none 0 0],.int .i64 10]) ∨ (s.length ≤ 70000 ∧ ∃ q,s = R7 q ∧ bg1 S w' v' q)):=by
 refine l8 func98 rfl rfl rfl ?_
 have k : Ext w w:=.refl
 repeat refine wW ?_
 refine q8 (cs:=[.bool false,.slice none 0 0,.slice none 0 0]) rfl ?_
 intro w_1 g k_1 hg hs_1
 have hsg : w.heap.size ≤ g:=Nat.le_trans k.size hs_1
 clear hs_1
 replace hS:=hS.to k_1
 replace k:=k.trans k_1
 clear k_1
 repeat (first | refine a63 rfl ?_ | refine wW ?_ | refine d7 ?_ | refine X6 rfl rfl ?_)
 try refine i6 ?_
 refine j4 rfl ?_ ?_ <;> intro hlong
 ·repeat refine wW ?_
  refine a19 (cs:=[.bool false,.slice none 0 0,.slice none 0 0]) rfl ?_
  refine G3 rfl (by conv=>(lhs; whnf)) hg rfl rfl rfl rfl ?_
  intro w_2 k_2 h_2
  replace hS:=hS.to k_2
  replace k : Ext w w_2:=k.past k_2 hsg
  replace hg:=h_2
  clear h_2 k_2
  repeat (first | refine wW ?_ | refine r0 ?_)
  exact bh7 rfl (n6 hg rfl) (B8 (by conv=>(lhs; whnf))) ⟨k,.inl ⟨by omega,rfl⟩⟩
 ·repeat (first | refine wW ?_ | refine wp_skip ?_)
  refine i1 (d39 (s:=s) (by omega)) rfl ?_
  rintro v_2 w_2 ⟨k_2,c1⟩
  replace hS:=hS.to k_2
  replace hg:=hg.to k_2
  replace k:=k.trans k_2
  clear k_2
  obtain ⟨a,b,has,rfl,hf⟩ : ∃ a b has,v_2 = .tuple #[F4 a,F4 b,.bool has] ∧ dp9 s a b has:=by
   rcases c1 with ⟨h1,rfl⟩ | ⟨a,b,rfl,h1,rfl⟩
   ·exact ⟨s,[],false,rfl,.inl ⟨rfl,h1,rfl,rfl⟩⟩
   exact ⟨a,b,true,rfl,.inr ⟨rfl,rfl,h1⟩⟩
  have hal : a.length ≤ 70000 ∧ b.length ≤ 70000:=by
   rcases hf with ⟨_,_,rfl,rfl⟩ | ⟨_,rfl,_⟩
   ·exact ⟨by omega,by simp⟩
   simp at hlong; exact ⟨by omega,by omega⟩
  clear c1
  have hDl:=dy0 a
  repeat (first | refine wW ?_ | refine B4 rfl rfl ?_)
  refine i1 (by1 (s:=a)) rfl ?_
  rintro v3 w3 ⟨rfl,rfl⟩
  repeat (first | refine wW ?_ | refine d7 ?_ | refine B4 rfl rfl ?_)
  refine i1 (ax1 (s:=Dgs a) (by omega)) rfl ?_
  rintro v_3 w_3 ⟨rfl,k_3⟩
  replace hS:=hS.to k_3
  replace hg:=hg.to k_3
  replace k:=k.trans k_3
  clear k_3
  repeat (first | refine q5 ?_ | refine a84 rfl ?_)
  have hba:=dg2 a
  have hgd : ¬ (∀ z,a ≠ Lib.itoa z) → X9 (Dgs a):=fun hbad=>Classical.byContradiction fun h=>hbad (hba.1 (.inl h))
  refine b11 [(27,50)] (fun ρ w'=>ρ 50 = .bool (tst ((∀ z,a ≠ Lib.itoa z) ∨ (has = true ∧ ¬ (X9 b ∧ b ≠ [48] ∧ b ≠ [49])))) ∧ Ext w_3 w') ?_ ?_
  ·by_cases hbad : ∀ z,a ≠ Lib.itoa z
   ·by_cases hd : X9 (Dgs a)
    ·rcases hba.2 hbad with h | ⟨h1,h2⟩
     ·exact absurd hd h
     rw [l7 (show ¬ ¬ X9 (Dgs a) from fun h=>h hd),m6 h1]
     repeat (first | refine q5 ?_ | refine q7 rfl rfl ?_)
     refine al0 (b:=[48]) rfl rfl ?_
     rw [m6 h2]
     repeat (first | refine wW ?_ | refine q7 rfl rfl ?_ | refine s8 rfl rfl rfl ?_ | refine S4 rfl rfl ?_ | refine s5 rfl ?_ | refine p9 rfl ?_)
     exact ⟨by (repeat (first | refine j1 rfl ?_ | exact d9 | refine j2 rfl ?_ | exact d8 | refine m7 rfl ?_ | refine l9 rfl ?_)),by rw [m6 (Or.inl hbad)]; rfl,.refl⟩
    rw [m6 hd]
    repeat (first | refine wW ?_ | refine s8 rfl rfl rfl ?_ | refine S4 rfl rfl ?_ | refine s5 rfl ?_)
    exact ⟨by (repeat (first | refine j1 rfl ?_ | exact d9 | refine j2 rfl ?_ | exact d8 | refine m7 rfl ?_ | refine l9 rfl ?_)),by rw [m6 (Or.inl hbad)]; rfl,.refl⟩
   rw [l7 (show ¬ ¬ X9 (Dgs a) from fun h=>h (hgd hbad))]
   by_cases hn : aa9 a
   ·have h48 : ¬ Dgs a = [48]:=fun h=>hbad (hba.1 (.inr ⟨hn,h⟩))
    rw [m6 hn]
    repeat (first | refine q5 ?_ | refine q7 rfl rfl ?_)
    refine al0 (b:=[48]) rfl rfl ?_
    rw [l7 h48]
    cases has
    ·repeat (first | refine wW ?_ | refine q7 rfl rfl ?_ | refine s8 rfl rfl rfl ?_ | refine S4 rfl rfl ?_ | refine s5 rfl ?_ | refine p9 rfl ?_)
     exact ⟨by (repeat (first | refine j1 rfl ?_ | exact d9 | refine j2 rfl ?_ | exact d8 | refine m7 rfl ?_ | refine l9 rfl ?_)),congrArg Value.bool (l7 (fun h=>h.elim hbad fun h2=>Bool.noConfusion h2.1)).symm,.refl⟩
    repeat (first | refine q5 ?_ | refine q7 rfl rfl ?_ | refine s5 rfl ?_ | refine p9 rfl ?_)
    refine i1 (ax1 (s:=b) (by omega)) rfl ?_
    rintro v5 w5 ⟨rfl,k5⟩
    by_cases hd : X9 b
    ·rw [m6 hd]
     repeat (first | refine q5 ?_ | refine q7 rfl rfl ?_ | refine av0 rfl ?_)
     refine al0 (b:=[48]) rfl rfl ?_
     by_cases h0 : b = [48]
     ·rw [m6 h0]
      repeat (first | refine wW ?_ | refine q7 rfl rfl ?_ | refine s8 rfl rfl rfl ?_ | refine s5 rfl ?_ | refine p9 rfl ?_)
      exact ⟨by (repeat (first | refine j1 rfl ?_ | exact d9 | refine j2 rfl ?_ | exact d8 | refine m7 rfl ?_ | refine l9 rfl ?_)),congrArg Value.bool (m6 (Or.inr ⟨rfl,fun h=>h.2.1 h0⟩)).symm,k5⟩
     rw [l7 h0]
     repeat (first | refine q5 ?_ | refine q7 rfl rfl ?_ | refine p9 rfl ?_)
     refine al0 (b:=[49]) rfl rfl ?_
     repeat (first | refine wW ?_ | refine q7 rfl rfl ?_ | refine s5 rfl ?_ | refine p9 rfl ?_)
     refine ⟨by (repeat (first | refine j1 rfl ?_ | exact d9 | refine j2 rfl ?_ | exact d8 | refine m7 rfl ?_ | refine l9 rfl ?_)),congrArg Value.bool (N4 ?_),k5⟩
     exact ⟨fun h=>Or.inr ⟨rfl,fun h2=>h2.2.2 h⟩,fun h=>Classical.byContradiction fun h2=>h.elim hbad fun h=>h.2 ⟨hd,h0,h2⟩⟩
    rw [l7 hd]
    repeat (first | refine wW ?_ | refine q7 rfl rfl ?_ | refine s8 rfl rfl rfl ?_ | refine s5 rfl ?_ | refine p9 rfl ?_ | refine av0 rfl ?_)
    exact ⟨by (repeat (first | refine j1 rfl ?_ | exact d9 | refine j2 rfl ?_ | exact d8 | refine m7 rfl ?_ | refine l9 rfl ?_)),congrArg Value.bool (m6 (Or.inr ⟨rfl,fun h=>hd h.1⟩)).symm,k5⟩
   rw [l7 hn]
   cases has
   ·repeat (first | refine wW ?_ | refine q7 rfl rfl ?_ | refine s8 rfl rfl rfl ?_ | refine S4 rfl rfl ?_ | refine p9 rfl ?_)
    exact ⟨by (repeat (first | refine j1 rfl ?_ | exact d9 | refine j2 rfl ?_ | exact d8 | refine m7 rfl ?_ | refine l9 rfl ?_)),congrArg Value.bool (l7 (fun h=>h.elim hbad fun h2=>Bool.noConfusion h2.1)).symm,.refl⟩
   repeat (first | refine q5 ?_ | refine q7 rfl rfl ?_ | refine s8 rfl rfl rfl ?_ | refine p9 rfl ?_)
   refine i1 (ax1 (s:=b) (by omega)) rfl ?_
   rintro v5 w5 ⟨rfl,k5⟩
   by_cases hd : X9 b
   ·rw [m6 hd]
    repeat (first | refine q5 ?_ | refine q7 rfl rfl ?_ | refine av0 rfl ?_)
    refine al0 (b:=[48]) rfl rfl ?_
    by_cases h0 : b = [48]
    ·rw [m6 h0]
     repeat (first | refine wW ?_ | refine q7 rfl rfl ?_ | refine s8 rfl rfl rfl ?_ | refine s5 rfl ?_ | refine p9 rfl ?_)
     exact ⟨by (repeat (first | refine j1 rfl ?_ | exact d9 | refine j2 rfl ?_ | exact d8 | refine m7 rfl ?_ | refine l9 rfl ?_)),congrArg Value.bool (m6 (Or.inr ⟨rfl,fun h=>h.2.1 h0⟩)).symm,k5⟩
    rw [l7 h0]
    repeat (first | refine q5 ?_ | refine q7 rfl rfl ?_ | refine p9 rfl ?_)
    refine al0 (b:=[49]) rfl rfl ?_
    repeat (first | refine wW ?_ | refine q7 rfl rfl ?_ | refine s5 rfl ?_ | refine p9 rfl ?_)
    refine ⟨by (repeat (first | refine j1 rfl ?_ | exact d9 | refine j2 rfl ?_ | exact d8 | refine m7 rfl ?_ | refine l9 rfl ?_)),congrArg Value.bool (N4 ?_),k5⟩
    exact ⟨fun h=>Or.inr ⟨rfl,fun h2=>h2.2.2 h⟩,fun h=>Classical.byContradiction fun h2=>h.elim hbad fun h=>h.2 ⟨hd,h0,h2⟩⟩
   rw [l7 hd]
   repeat (first | refine wW ?_ | refine q7 rfl rfl ?_ | refine s8 rfl rfl rfl ?_ | refine s5 rfl ?_ | refine p9 rfl ?_ | refine av0 rfl ?_)
   exact ⟨by (repeat (first | refine j1 rfl ?_ | exact d9 | refine j2 rfl ?_ | exact d8 | refine m7 rfl ?_ | refine l9 rfl ?_)),congrArg Value.bool (m6 (Or.inr ⟨rfl,fun h=>hd h.1⟩)).symm,k5⟩
  rintro u5 w5 ⟨h50,k5⟩
  refine j8 50 h50 ?_
  clear h50
  replace hS:=hS.to k5
  replace hg:=hg.to k5
  replace k:=k.trans k5
  clear k5
  skip
  refine j4 rfl ?_ ?_ <;> intro hb0
  ·have hq:=c23 hf hb0
   repeat refine wW ?_
   refine a19 (cs:=[.bool false,.slice none 0 0,.slice none 0 0]) rfl ?_
   refine G3 rfl (by conv=>(lhs; whnf)) hg rfl rfl rfl rfl ?_
   intro w_5 k_5 h_5
   replace hS:=hS.to k_5
   replace k : Ext w w_5:=k.past k_5 hsg
   replace hg:=h_5
   clear h_5 k_5
   repeat (first | refine wW ?_ | refine r0 ?_)
   exact bh7 rfl (n6 hg rfl) (B8 (by conv=>(lhs; whnf))) ⟨k,.inr (.inl ⟨by omega,hq,rfl⟩)⟩
  ·have hbad : ¬ ∀ z,a ≠ Lib.itoa z:=fun h=>hb0 (.inl h)
   have hb2 : ¬ (has = true ∧ ¬ (X9 b ∧ b ≠ [48] ∧ b ≠ [49])):=fun h=>hb0 (.inr h)
   have hgood : X9 (Dgs a) ∧ (aa9 a → (Dgs a).head? ≠ some 48):=(bw7 a).1 (Classical.byContradiction fun h=>hbad fun z hz=>h ⟨z,hz⟩)
   have hav : a = Lib.itoa (au3 a):=bw3 hgood.1 hgood.2
   obtain ⟨hnv1,hnv2⟩:=ce4 a
   obtain ⟨d,hd⟩ : ∃ d,d = if has = true then H7 b else 0:=⟨_,rfl⟩
   have hparts : cy7 s (au3 a) d:=by
    rcases hf with ⟨rfl,h1,rfl,rfl⟩ | ⟨rfl,rfl,h1⟩
    ·exact .inl ⟨by rw [hd,if_neg (by decide)],h1,hav⟩
    have h2 : X9 b ∧ b ≠ [48] ∧ b ≠ [49]:=Classical.byContradiction fun h=>hb2 ⟨rfl,h⟩
    rw [if_pos rfl] at hd
    refine .inr ⟨by rw [hd]; exact do2 h2.1 h2.2.1 h2.2.2,a,h1,?_,hav⟩
    rw [hd,aa1 h2.1]
   have hbd : has = true → ∀ c ∈ b,Dig c:=fun h=>(Classical.byContradiction (p:=X9 b) fun h2=>hb2 ⟨h,fun h3=>h2 h3.1⟩).2.1
   have hls : dl d ≤ 7778:=by
    rw [hd]
    split
    ·rename_i h
     exact c49 (cm0 (hbd h)) (by omega)
    rw [df8]
    omega
   have hln : zl (au3 a) ≤ 7778:=dd5 hav (by omega)
   have hlk : dl (bj7 d) ≤ 7778:=by
    unfold bj7
    split
    ·exact Nat.le_trans (L5 (k:=1) (by decide)) (by decide)
    exact hls
   repeat (first | refine wW ?_ | refine wp_skip ?_)
   refine i1 (bz5 hS hgood.1.2.1 (by omega)) rfl ?_
   rintro v_5 w_5 ⟨k_5,h1⟩
   replace hS:=hS.to k_5
   replace hg:=hg.to k_5
   replace k:=k.trans k_5
   clear k_5
   refine i1 (W9 (p:=aa9 a) (n:=H7 (Dgs a)) (au3 a) h1 hnv1 hnv2) rfl ?_
   rintro v_6 w_6 ⟨k_6,m,rfl,h2⟩
   replace hS:=hS.to k_6
   replace hg:=hg.to k_6
   replace h1:=h1.to k_6
   replace k:=k.trans k_6
   clear k_6
   refine b04 (by conv=>(lhs; whnf)) ?_
   skip
   refine d07 (zs:=[.bool false,.slice none 0 0,.slice none 0 0]) (us:=[.bool (tst (au3 a < 0)),m,.slice none 0 0]) rfl (fun _=>rfl) rfl rfl (cy1 rfl h2.one rfl) ?_
   intro w_7 g9 k_7 hs_7 hg9
   have hsg9 : w.heap.size ≤ g9:=Nat.le_trans k.size hs_7
   have ne_g_g9 : g ≠ g9:=fun e=>by have:=hg.lt; omega
   clear hs_7
   replace hS:=hS.to k_7
   replace hg:=hg.to k_7
   replace h2:=h2.to k_7
   replace k:=k.trans k_7
   clear k_7
   have hgg : g ≠ g9:=ne_g_g9
   repeat (first | refine wW ?_ | refine d7 ?_)
   first | refine n5 ?_ | refine F9 ?_ | refine D3 ?_ | skip
   refine ao4 [(58,60)] (fun ρ w'=>∃ bt,Up S w' ∧ Ext w w' ∧ Blk w' g 41 [.bool false,.slice none 0 0,.slice none 0 0] ∧ Blk w' g9 41 [.bool (tst (au3 a < 0)),m,bt] ∧ s7 S 193 .u32 w' m (au3 a).natAbs ∧ s7 S 193 .u32 w' bt d) ?_ ?_
   ·cases has
    ·rw [if_neg (by decide)] at hd
     subst hd
     repeat (first | refine K5 ?_ | refine wp_skip ?_ | refine wp_cond_false rfl ?_)
     exact ⟨by (repeat (first | refine j1 rfl ?_ | exact d9 | refine j2 rfl ?_ | exact d8 | refine m7 rfl ?_ | refine l9 rfl ?_)),_,hS,k,hg,hg9,h2,.nil⟩
    rw [if_pos rfl] at hd
    subst hd
    repeat (first | refine wW ?_ | refine wp_cond_true rfl ?_)
    refine i1 (bz5 hS (hbd rfl) (by omega)) rfl ?_
    rintro v_8 w_8 ⟨k_8,h3⟩
    replace hS:=hS.to k_8
    replace hg:=hg.to k_8
    replace h2:=h2.to k_8
    replace hg9:=hg9.to k_8
    replace k:=k.trans k_8
    clear k_8
    repeat (first | refine j5 rfl ?_)
    refine J4 rfl rfl hg9 (show 0 + 2 < 3 by omega) h3.one ?_
    intro w_9 k_9 h_9
    replace hS:=hS.to k_9
    replace hg:=hg.wr k_9 (by omega)
    replace h2:=h2.wrT k_9 hg9 (by decide)
    replace h3:=h3.wrT k_9 hg9 (by decide)
    replace k : Ext w w_9:=k.past k_9 hsg9
    replace hg9:=h_9
    clear h_9 k_9
    repeat refine wW ?_
    exact ⟨by (repeat (first | refine j1 rfl ?_ | exact d9 | refine j2 rfl ?_ | exact d8 | refine m7 rfl ?_ | refine l9 rfl ?_)),_,hS,k,hg,hg9,h2,h3⟩
   rintro u6 w6 ⟨bt,hS,k,hg,hg9,h2,h3⟩
   have hm1:=h2.one
   have hb1:=h3.one
   repeat (first | refine A6 ?_ | refine d7 ?_)
   refine s4 7 ?_
   apply b6
   ·intro x w1 k1 hd
    refine n7 rfl (hg9.to k1) rfl ?_
    refine b8 ?_
    exact i7
   refine b6 (e:=ar3 S 193 .u32 (bj7 d)) ?_ ?_
   ·intro x w1 k1 hd
    refine i1 (dx7 (x:=.bool (tst (au3 a < 0))) (m:=m) (b:=bt) (hS.to k1) rfl hm1 (h3.to k1)) rfl ?_
    rintro v2 w2 ⟨k2,h2⟩
    exact b8 (y0 k2 h2)
   apply b6
   ·intro x w1 k1 hd
    refine j5 rfl ?_
    refine b8 ?_
    exact i7
   apply b6
   ·intro x w1 k1 hd
    refine j5 rfl ?_
    refine b8 ?_
    exact i7
   apply b6
   ·intro x w1 k1 hd
    refine f5 rfl (hg9.to k1) rfl ?_
    refine b8 ?_
    exact i7
   refine b6 (e:=ar3 S 193 .u32 (Nat.gcd (bj7 d) (au3 a).natAbs)) ?_ ?_
   ·intro x w1 k1 hd
    refine i1 (dp4 (hS.to k1) hd.2.2.2.1 (h2.to k1) (by omega) (Nat.le_trans hln (by decide))) rfl ?_
    rintro v2 w2 ⟨k2,h2⟩
    exact b8 (y0 k2 h2)
   refine b6 (e:=Ent.eq (.bool (tst (Nat.gcd (bj7 d) (au3 a).natAbs = 1)))) ?_ ?_
   ·intro x w1 k1 hd
    refine i1 (dm1 (S:=S) hd.1) rfl ?_
    rintro v2 w2 ⟨rfl,k2⟩
    exact b8 (dw4 (rfl) k2)
   refine F5 (F7 ?_)
   intro x w7 k7 _
   replace hS:=hS.to k7
   replace hg:=hg.to k7
   replace hg9:=hg9.to k7
   replace h2:=h2.to k7
   replace h3:=h3.to k7
   replace k:=k.trans k7
   clear k7
   repeat (first | refine wW ?_ | refine a84 rfl ?_)
   refine j4 rfl ?_ ?_ <;> intro hgc
   ·have hq:=cv1 hparts hgc
    repeat refine wW ?_
    refine a19 (cs:=[.bool false,.slice none 0 0,.slice none 0 0]) rfl ?_
    refine G3 rfl (by conv=>(lhs; whnf)) hg rfl rfl rfl rfl ?_
    intro w_9 k_9 h_9
    replace hS:=hS.to k_9
    replace hg9:=hg9.wr k_9 (by omega)
    replace h2:=h2.wrT k_9 hg (by decide)
    replace h3:=h3.wrT k_9 hg (by decide)
    replace k : Ext w w_9:=k.past k_9 hsg
    replace hg:=h_9
    clear h_9 k_9
    repeat (first | refine wW ?_ | refine r0 ?_)
    exact bh7 rfl (n6 hg rfl) (B8 (by conv=>(lhs; whnf))) ⟨k,.inr (.inl ⟨by omega,hq,rfl⟩)⟩
   obtain ⟨q,hq1,hq2,hq3⟩:=ch0 hparts (Classical.not_not.1 hgc)
   have hq : RatV S w7 (.agg #[.bool (tst (au3 a < 0)),m,bt]) q:=by
    rw [← hq1]
    refine ⟨m,bt,rfl,?_,?_⟩
    ·rw [hq1]; exact h2
    rw [hq2]; exact h3
   repeat (first | refine n7 rfl hg9 rfl ?_ | refine wW ?_ | refine wp_skip ?_ | refine aq9 ?_)
   refine i1 (ak4 hS hq) rfl ?_
   rintro v_9 w_9 ⟨k_9,r,e,rfl,hor⟩
   replace hS:=hS.to k_9
   replace hg:=hg.to k_9
   replace k:=k.trans k_9
   clear k_9
   rcases hor with ⟨hf,rfl,mr,br,rfl,hm,hb⟩ | ⟨hf,rfl,mr,br,rfl,hm,hb⟩
   ·skip
    repeat (first | refine B4 rfl rfl ?_)
    refine G3 rfl rfl hg rfl rfl hm.one hb.one ?_
    intro w_10 k_10 h_10
    replace hS:=hS.to k_10
    replace hm:=hm.wrT k_10 hg (by decide)
    replace hb:=hb.wrT k_10 hg (by decide)
    replace k : Ext w w_10:=k.past k_10 hsg
    replace hg:=h_10
    clear h_10 k_10
    repeat refine wW ?_
    exact bh7 rfl (n6 hg rfl) (B8 (by conv=>(lhs; whnf))) ⟨k,.inr (.inr ⟨by omega,q,hq3,_,_,rfl,.inl ⟨hf,rfl,mr,br,rfl,hm,hb⟩⟩)⟩
   ·skip
    repeat (first | refine B4 rfl rfl ?_)
    refine G3 rfl rfl hg rfl rfl hm.one hb.one ?_
    intro w_10 k_10 h_10
    replace hS:=hS.to k_10
    replace hm:=hm.wrT k_10 hg (by decide)
    replace hb:=hb.wrT k_10 hg (by decide)
    replace k : Ext w w_10:=k.past k_10 hsg
    replace hg:=h_10
    clear h_10 k_10
    repeat refine wW ?_
    exact bh7 rfl (n6 hg rfl) (B8 (by conv=>(lhs; whnf))) ⟨k,.inr (.inr ⟨by omega,q,hq3,_,_,rfl,.inr ⟨hf,rfl,mr,br,rfl,hm,hb⟩⟩)⟩
theorem m7 {W : List (Nat × Nat)} {ρ ρ' : Fr} {d : Nat} {v : Value} (hd : inW W d = true) (h : Y5 W ρ ρ') : Y5 W (upd ρ d v) ρ':=by
 intro i hi
 rw [h i hi,M6]
 cases hb : Nat.beq i d with
 | false=>rfl
 | true=>rw [Nat.eq_of_beq_eq_true hb,hd] at hi; cases hi
theorem bi8 (z : Int) {d : Nat} (hd : 0 < d) : (mkRat z d).num.natAbs ≤ z.natAbs ∧ (mkRat z d).den ≤ d:=by
 obtain ⟨h1,h2,_,_⟩:=af9 z hd
 rw [h1,h2]
 exact ⟨Nat.div_le_self ..,Nat.div_le_self ..⟩
theorem q9 {a b : Rat} {n m : Nat} (ha : rl a n) (hb : rl b m) : rl (a * b) (n + m):=by
 rw [a42]
 obtain ⟨h1,h2⟩:=bi8 (a.num * b.num) (Nat.mul_pos a.den_pos b.den_pos)
 have h3:=ag9 a.num.natAbs b.num.natAbs
 have h4:=ag9 a.den b.den
 rw [Int.natAbs_mul] at h1
 obtain ⟨a1,a2⟩:=ha
 obtain ⟨b1,b2⟩:=hb
 exact ⟨Nat.le_trans (H9 h1) (by omega),Nat.le_trans (H9 h2) (by omega)⟩
theorem s6 {a : Rat} {n m : Nat} (h : rl a n) (hm : n ≤ m) : rl a m:=⟨Nat.le_trans h.1 hm,Nat.le_trans h.2 hm⟩
theorem j9 {a : Rat} {n m : Nat} (h : rl a n) (hm : n ≤ m:=by omega) : rl a m:=
 s6 h hm
theorem ah1 {a b : Rat} {n m : Nat} (ha : rl a n) (hb : rl b m) : rl (a + b) (n + m + 1):=by
 rw [Rat.add_def']
 obtain ⟨h1,h2⟩:=bi8 (a.num * b.den + b.num * a.den) (Nat.mul_pos a.den_pos b.den_pos)
 have h3:=bs5 (a.num * b.den) (b.num * a.den)
 have h4:=U2 a.num b.den
 have h5:=U2 b.num a.den
 have h6:=ag9 a.den b.den
 have h7 : zl (a.den : Int) = dl a.den:=by unfold zl; rw [Int.natAbs_natCast]
 have h8 : zl (b.den : Int) = dl b.den:=by unfold zl; rw [Int.natAbs_natCast]
 obtain ⟨a1,a2⟩:=ha
 obtain ⟨b1,b2⟩:=hb
 have a1' : zl a.num ≤ n:=a1
 have b1' : zl b.num ≤ m:=b1
 refine ⟨Nat.le_trans (H9 h1) ?_,Nat.le_trans (H9 h2) (by omega)⟩
 show zl _ ≤ _
 omega
theorem ag7 {a : Rat} {n : Nat} (ha : rl a n) : rl (-a) n:=by
 refine ⟨?_,?_⟩
 ·rw [Rat.neg_num,Int.natAbs_neg]; exact ha.1
 rw [Rat.neg_den]; exact ha.2
theorem cb1 {a b : Rat} {n m : Nat} (ha : rl a n) (hb : rl b m) : rl (a - b) (n + m + 1):=by
 rw [Rat.sub_eq_add_neg]
 exact ah1 ha (ag7 hb)
theorem ae5 {a b : Rat} {n m : Nat} (ha : rl a n) (hb : rl b m) (hb0 : b.num ≠ 0) : rl (a / b) (n + m):=by
 rw [bj9 a b hb0]
 obtain ⟨h1,h2⟩:=bi8 (a.num * b.den * b.num.sign) (d:=a.den * b.num.natAbs) (Nat.mul_pos a.den_pos (by omega))
 rw [bz3 a b hb0] at h1
 have h4:=ag9 a.num.natAbs b.den
 have h6:=ag9 a.den b.num.natAbs
 obtain ⟨a1,a2⟩:=ha
 obtain ⟨b1,b2⟩:=hb
 exact ⟨Nat.le_trans (H9 h1) (by omega),Nat.le_trans (H9 h2) (by omega)⟩
def dq7 (x : Rat) (e : Int) (q : Rat) : Prop:=(R0 q ∧ e = 0 ∧ x = q) ∨ (¬ R0 q ∧ e = 11 ∧ x = 0)
end Go.Proofs.YtmjbiocildkhnaaGreatDoor
end
section
namespace Go.Proofs.YtmjbiocildkhnaaGreatDoor
open Go Tryz
theorem d49 (a : Rat) : (0 : Rat) / a = 0:=by rw [Rat.div_def,Rat.zero_mul]
@[ext] structure T3 where
 x : Rat
 y : Rat
 z : Rat
namespace T3
def dot (p q : T3) : Rat:=p.x * q.x + p.y * q.y + p.z * q.z
def cross (p q : T3) : T3:=⟨p.y * q.z - p.z * q.y,p.z * q.x - p.x * q.z,p.x * q.y - p.y * q.x⟩
def None (p : T3) : Prop:=p.x = 0 ∧ p.y = 0 ∧ p.z = 0
instance (p : T3) : Decidable p.None:=by unfold None; exact inferInstance
def lead (p : T3) : Rat:=if p.x ≠ 0 then p.x else if p.y ≠ 0 then p.y else p.z
def over (p : T3) (k : Rat) : T3:=⟨p.x / k,p.y / k,p.z / k⟩
def normal (p : T3) : T3:=p.over p.lead
theorem lead_ne {p : T3} (h : ¬ p.None) : p.lead ≠ 0:=by
 unfold lead
 unfold None at h
 split
 ·assumption
 split
 ·assumption
 grind
def Same (p q : T3) : Prop:=(p.cross q).None
def Flat (p q r : T3) : Prop:=(p.cross q).dot r = 0
instance (p q : T3) : Decidable (Same p q):=by unfold Same; exact inferInstance
instance (p q r : T3) : Decidable (Flat p q r):=by unfold Flat; exact inferInstance
theorem cu1 {p : T3} {k : Rat} (hk : k ≠ 0) : (T3.mk (k * p.x) (k * p.y) (k * p.z)).lead = k * p.lead:=by
 unfold lead
 by_cases hx : p.x = 0
 ·by_cases hy : p.y = 0
  ·simp [hx,hy]
  have : k * p.y ≠ 0:=by grind
  simp [hx,hy,this]
 have : k * p.x ≠ 0:=by grind
 simp [hx,this]
theorem bz8 {p : T3} {k : Rat} (hk : k ≠ 0) : (T3.mk (k * p.x) (k * p.y) (k * p.z)).normal = p.normal:=by
 unfold normal over
 rw [cu1 hk]
 by_cases h : p.None
 ·obtain ⟨h1,h2,h3⟩:=h
  simp [h1,h2,h3,d49]
 have hl:=lead_ne h
 have hkl : k * p.lead ≠ 0:=by grind
 ext <;> simp only <;> grind
theorem normal_none {p : T3} : p.normal.None ↔ p.None:=by
 constructor
 ·intro h
  by_cases hn : p.None
  ·exact hn
  have hl:=lead_ne hn
  obtain ⟨h1,h2,h3⟩:=h
  simp only [normal,over] at h1 h2 h3
  refine ⟨?_,?_,?_⟩ <;> grind
 rintro ⟨h1,h2,h3⟩
 simp [normal,over,None,h1,h2,h3,d49]
end T3
def tl (p : T3) (n : Nat) : Prop:=rl p.x n ∧ rl p.y n ∧ rl p.z n
theorem bq7 {p : T3} {m n : Nat} (h : tl p m) (k : m ≤ n) : tl p n:=⟨s6 h.1 k,s6 h.2.1 k,s6 h.2.2 k⟩
theorem F3 {p : T3} {m n : Nat} (h : tl p m) (k : m ≤ n:=by omega) : tl p n:=
 bq7 h k
theorem ca5 {p q : T3} {m n : Nat} (hp : tl p m) (hq : tl q n) : rl (p.dot q) (3 * (m + n) + 2):=
 j9 (ah1 (ah1 (q9 hp.1 hq.1) (q9 hp.2.1 hq.2.1)) (q9 hp.2.2 hq.2.2))
theorem r5 {p q : T3} {m n : Nat} (hp : tl p m) (hq : tl q n) : tl (p.cross q) (2 * (m + n) + 1):=
 ⟨j9 (cb1 (q9 hp.2.1 hq.2.2) (q9 hp.2.2 hq.2.1)),j9 (cb1 (q9 hp.2.2 hq.1) (q9 hp.1 hq.2.2)),j9 (cb1 (q9 hp.1 hq.2.1) (q9 hp.2.1 hq.1))⟩
theorem b13 {a b : Nat} (h : a ≤ b) : dl a ≤ dl b:=L5 (Nat.lt_of_le_of_lt h (E6 b))
theorem az7 {a c : Int} {n : Nat} (ha : zl a ≤ n) (hc : zl c ≤ n) (hn : 1 ≤ n) : rl ((a : Rat) / (c : Rat)) n:=by
 by_cases h : c = 0
 ·subst h
  rw [show ((0 : Int) : Rat) = 0 from rfl,Rat.div_def,Rat.inv_zero,Rat.mul_zero]
  exact ⟨L5 (show 0 < 1000000000 ^ n from Nat.pow_pos (by decide)),Nat.le_trans (L5 (k:=1) (show 1 < 1000000000 ^ 1 by decide)) hn⟩
 have h1 : ((c : Int) : Rat).num ≠ 0:=h
 rw [bj9 _ _ h1]
 show rl (mkRat (a * (1 : Nat) * c.sign) (1 * c.natAbs)) n
 rw [Nat.one_mul]
 have hp : 0 < c.natAbs:=by omega
 obtain ⟨e1,e2,_,_⟩:=af9 (a * (1 : Nat) * c.sign) hp
 have e3 : (a * (1 : Nat) * c.sign).natAbs = a.natAbs:=by
  rw [Int.natAbs_mul,Int.natAbs_mul,Int.natAbs_sign_of_ne_zero h]
  simp
 refine ⟨?_,?_⟩
 ·rw [e1,e3]; exact Nat.le_trans (b13 (Nat.div_le_self _ _)) ha
 rw [e2]; exact Nat.le_trans (b13 (Nat.div_le_self _ _)) hc
def il (p : T3) (n : Nat) : Prop:=∃ (k : Rat) (a b c : Int),k ≠ 0 ∧ p = ⟨k * a,k * b,k * c⟩ ∧ zl a ≤ n ∧ zl b ≤ n ∧ zl c ≤ n
theorem ct0 {p : T3} {n : Nat} (h : il p n) (hn : 1 ≤ n) : tl p.normal n:=by
 obtain ⟨k,a,b,c,h1,h2,h3,h4,h5⟩:=h
 have key : ∃ l : Int,zl l ≤ n ∧ p.lead = k * l:=by
  have ex : p.x = k * a:=congrArg T3.x h2
  have ey : p.y = k * b:=congrArg T3.y h2
  have ez : p.z = k * c:=congrArg T3.z h2
  unfold T3.lead
  split
  ·exact ⟨a,h3,ex⟩
  split
  ·exact ⟨b,h4,ey⟩
  exact ⟨c,h5,ez⟩
 obtain ⟨l,hl,el⟩:=key
 have ek : ∀ z : Int,k * (z : Rat) / (k * (l : Rat)) = (z : Rat) / (l : Rat):=fun z=>by
  by_cases h0 : (l : Rat) = 0
  ·rw [h0,Rat.mul_zero,Rat.div_def,Rat.div_def,Rat.inv_zero,Rat.mul_zero,Rat.mul_zero]
  grind
 have ex : p.normal.x = (a : Rat) / (l : Rat):=by rw [← ek]; simp only [T3.normal,T3.over,el]; rw [congrArg T3.x h2]
 have ey : p.normal.y = (b : Rat) / (l : Rat):=by rw [← ek]; simp only [T3.normal,T3.over,el]; rw [congrArg T3.y h2]
 have ez : p.normal.z = (c : Rat) / (l : Rat):=by rw [← ek]; simp only [T3.normal,T3.over,el]; rw [congrArg T3.z h2]
 exact ⟨ex ▸ az7 h3 hl hn,ey ▸ az7 h4 hl hn,ez ▸ az7 h5 hl hn⟩
end Go.Proofs.YtmjbiocildkhnaaGreatDoor
end
section
namespace Go.Proofs.YtmjbiocildkhnaaGreatDoor
open Go Go.RowKit Tryz
inductive Ch where
 | val (x : Value)
 | ag (n : Nat) (x : Value)
 | int (k : IntKind) (z : Int)
 | lit (k : IntKind) (z : Int)
 | bb (x : Bool)
 | tp (p : Prop)
 | ptr (b o : Nat)
 | fn (g : FuncId) (cap : List (Nat ⊕ Value))
 | sl (x : Value) (m : Nat)
 | str (l : List UInt8)
 | win (b o m c : Nat)
def av7 (β : Nat → Nat) : Nat ⊕ Value → Value
 | .inl b=>.pointer (some ⟨β b,0,none⟩)
 | .inr x=>x
noncomputable def Ch.den (β : Nat → Nat) : Ch → Value
 | .val x=>x
 | .ag _ x=>x
 | .int k z=>.int k z
 | .lit k z=>.int k z
 | .bb x=>.bool x
 | .tp p=>.bool (tst p)
 | .ptr b o=>.pointer (some ⟨β b,o,none⟩)
 | .fn g cap=>.func (.func g) #[] (cap.map (av7 β)).toArray
 | .sl x _=>x
 | .str l=>F4 l
 | .win b o m c=>.slice (some ⟨β b,o,none⟩) m c
noncomputable def Ch.cells (β : Nat → Nat) : Ch → List Value
 | .ag _ x=>x.cells.toList
 | c=>[c.den β]
def Ch.size : Ch → Nat
 | .ag n _=>n
 | _=>1
def Ch.Ok (m : Nat) : Ch → Prop
 | .val x=>x.oneCell' = true
 | .ag n x=>∃ cs : List Value,x = .agg cs.toArray ∧ cs.length = n ∧ ∀ u ∈ cs,u.oneCell' = true
 | .ptr b _=>b < m
 | .fn _ cap=>∀ b,Sum.inl b ∈ cap → b < m
 | .sl x l=>∃ a c,x = .slice a l c ∧ l ≤ c
 | .win b _ _ _=>b < m
 | _=>True
noncomputable def d6 (β : Nat → Nat) (l : List Ch) : List Value:=l.flatMap (Ch.cells β)
def Y2 : List Ch → Nat
 | []=>0
 | c :: r=>c.size + Y2 r
inductive SV where
 | one (c : Ch)
 | agg (l : List Ch)
 | tup (l : List (Bool × List Ch))
 | und
noncomputable def ar6 (β : Nat → Nat) : Bool × List Ch → Value
 | (true,l)=>.agg (d6 β l).toArray
 | (false,c :: _)=>c.den β
 | (false,[])=>undef
noncomputable def SV.den (β : Nat → Nat) : SV → Value
 | .one c=>c.den β
 | .agg l=>.agg (d6 β l).toArray
 | .tup l=>.tuple (l.map (ar6 β)).toArray
 | .und=>undef
def SV.Ok (m : Nat) : SV → Prop
 | .one c=>c.Ok m
 | .agg l=>∀ c ∈ l,c.Ok m
 | .tup l=>∀ p ∈ l,∀ c ∈ p.2,c.Ok m
 | .und=>True
def SV.chunks : SV → Option (List Ch)
 | .one c=>some [c]
 | .agg l=>some l
 | _=>none
section
variable {m m' : Nat} {β β' : Nat → Nat}
theorem Ch.Ok.le {c : Ch} (h : c.Ok m) (hm : m ≤ m') : c.Ok m':=by
 cases c with
 | ptr b o=>exact Nat.lt_of_lt_of_le h hm
 | fn g cap=>exact fun b hb=>Nat.lt_of_lt_of_le (h b hb) hm
 | win b o m c=>exact Nat.lt_of_lt_of_le h hm
 | _=>exact h
theorem SV.Ok.le {s : SV} (h : s.Ok m) (hm : m ≤ m') : s.Ok m':=by
 cases s with
 | one c=>exact Ch.Ok.le (c:=c) h hm
 | agg l=>exact fun c hc=>(h c hc).le hm
 | tup l=>exact fun p hp c hc=>(h p hp c hc).le hm
 | und=>trivial
theorem Ch.cells_ok {c : Ch} (h : c.Ok m) : (c.cells β).length = c.size ∧ ∀ u ∈ c.cells β,u.oneCell' = true:=by
 cases c with
 | val x=>exact ⟨rfl,fun u hu=>by rw [List.mem_singleton.1 hu]; exact h⟩
 | ag n x=>
  obtain ⟨cs,rfl,hl,h1⟩:=h
  exact ⟨by simpa [Ch.cells,Value.cells,Ch.size] using hl,fun u hu=>h1 u (by simpa [Ch.cells,Value.cells] using hu)⟩
 | sl x l=>
  obtain ⟨a,c,rfl,_⟩:=h
  exact ⟨rfl,fun u hu=>by rw [List.mem_singleton.1 hu]; rfl⟩
 | _=>exact ⟨rfl,fun u hu=>by rw [List.mem_singleton.1 hu]; rfl⟩
theorem Ch.cells_den {c : Ch} (h : c.Ok m) : (c.den β).cells = (c.cells β).toArray:=by
 cases c with
 | val x=>exact aj1 h
 | ag n x=>obtain ⟨cs,rfl,hl,h1⟩:=h; simp [Ch.den,Ch.cells]
 | sl x l=>obtain ⟨a,c,rfl,_⟩:=h; rfl
 | _=>rfl
theorem Ch.den_congr {c : Ch} (hb : ∀ i,i < m → β i = β' i) (h : c.Ok m) : c.den β = c.den β':=by
 cases c with
 | ptr b o=>simp only [Ch.den]; rw [hb b h]
 | fn g cap=>
  simp only [Ch.den]
  congr 2
  refine List.map_congr_left fun x hx=>?_
  cases x with
  | inl b=>simp only [av7]; rw [hb b (h b hx)]
  | inr x=>rfl
 | win b o n c=>simp only [Ch.den]; rw [hb b h]
 | _=>rfl
theorem Ch.cells_congr {c : Ch} (hb : ∀ i,i < m → β i = β' i) (h : c.Ok m) : c.cells β = c.cells β':=by
 cases c with
 | ag n x=>rfl
 | _=>exact congrArg (fun x=>[x]) (Ch.den_congr hb h)
theorem J0 {l : List Ch} (hb : ∀ i,i < m → β i = β' i) (h : ∀ c ∈ l,c.Ok m) : d6 β l = d6 β' l:=by
 induction l with
 | nil=>rfl
 | cons c r ih=>
  simp only [d6,List.flatMap_cons] at ih ⊢
  rw [Ch.cells_congr hb (h c (List.mem_cons_self ..)),ih fun c hc=>h c (List.mem_cons_of_mem _ hc)]
theorem SV.den_congr {s : SV} (hb : ∀ i,i < m → β i = β' i) (h : s.Ok m) : s.den β = s.den β':=by
 cases s with
 | one c=>exact Ch.den_congr hb h
 | agg l=>simp only [SV.den]; rw [J0 hb h]
 | tup l=>
  simp only [SV.den]
  congr 2
  refine List.map_congr_left fun p hp=>?_
  have h1:=h p hp
  obtain ⟨g,l⟩:=p
  cases g with
  | true=>simp only [ar6]; rw [J0 hb h1]
  | false=>
   cases l with
   | nil=>rfl
   | cons c r=>exact Ch.den_congr hb (h1 c (List.mem_cons_self ..))
 | und=>rfl
theorem O0 {l : List Ch} (h : ∀ c ∈ l,c.Ok m) : (d6 β l).length = Y2 l:=by
 induction l with
 | nil=>rfl
 | cons c r ih=>
  have h1:=(Ch.cells_ok (β:=β) (h c (List.mem_cons_self ..))).1
  have h2:=ih fun c hc=>h c (List.mem_cons_of_mem _ hc)
  simp only [d6,List.flatMap_cons,List.length_append,Y2] at h2 ⊢
  omega
theorem S9 {l : List Ch} (h : ∀ c ∈ l,c.Ok m) : ∀ u ∈ d6 β l,u.oneCell' = true:=by
 intro u hu
 obtain ⟨c,hc,hu⟩:=List.mem_flatMap.1 hu
 exact (Ch.cells_ok (h c hc)).2 u hu
theorem SV.chunks_ok {s : SV} {l : List Ch} (h : s.chunks = some l) (ok : s.Ok m) : (s.den β).cells = (d6 β l).toArray ∧ ∀ c ∈ l,c.Ok m:=by
 cases s with
 | one c=>
  simp only [SV.chunks,Option.some.injEq] at h
  subst h
  exact ⟨by simp only [SV.den,d6,List.flatMap_cons,List.flatMap_nil,List.append_nil]; exact Ch.cells_den ok,fun c hc=>by rw [List.mem_singleton.1 hc]; exact ok⟩
 | agg l'=>
  simp only [SV.chunks,Option.some.injEq] at h
  subst h
  exact ⟨rfl,ok⟩
 | tup l'=>cases h
 | und=>cases h
end
def aw5 : List Ch → Nat → Option (List Ch)
 | _,0=>some []
 | [],_ + 1=>none
 | c :: r,s=>bif Nat.ble c.size s then (aw5 r (s - c.size)).map (c :: ·) else none
def ldL : List Ch → Nat → Nat → Option (List Ch)
 | l,0,s=>aw5 l s
 | [],_ + 1,_=>none
 | c :: r,o,s=>bif Nat.ble c.size o then ldL r (o - c.size) s else none
def ao6 : List Ch → Nat → Option (List Ch)
 | l,0=>some l
 | [],_ + 1=>none
 | c :: r,s=>bif Nat.ble c.size s then ao6 r (s - c.size) else none
def stL : List Ch → Nat → Nat → List Ch → Option (List Ch)
 | l,0,s,new=>(ao6 l s).map (new ++ ·)
 | [],_ + 1,_,_=>none
 | c :: r,o,s,new=>bif Nat.ble c.size o then (stL r (o - c.size) s new).map (c :: ·) else none
def mkV : Bool → List Ch → Option SV
 | true,[.ag n x]=>some (.one (.ag n x))
 | true,l=>some (.agg l)
 | false,[.ag _ _]=>none
 | false,[c]=>some (.one c)
 | false,_=>none
section
variable {m : Nat} {β : Nat → Nat}
theorem bp3 : ∀ {l : List Ch} {s : Nat} {l' : List Ch},aw5 l s = some l' → (∀ c ∈ l,c.Ok m) → (d6 β l).take s = d6 β l' ∧ (d6 β l').length = s ∧ ∀ c ∈ l',c.Ok m:=by
 intro l
 induction l with
 | nil=>
  intro s l' h hok
  cases s with
  | zero=>simp only [aw5,Option.some.injEq] at h; subst h; exact ⟨rfl,rfl,hok⟩
  | succ s=>cases h
 | cons c r ih=>
  intro s l' h hok
  cases s with
  | zero=>simp only [aw5,Option.some.injEq] at h; subst h; exact ⟨rfl,rfl,fun _ hc=>by cases hc⟩
  | succ s=>
   simp only [aw5] at h
   cases hb : Nat.ble c.size (s + 1) with
   | false=>rw [hb] at h; cases h
   | true=>
    rw [hb] at h
    have hle:=Nat.le_of_ble_eq_true hb
    have hc:=(Ch.cells_ok (β:=β) (hok c (List.mem_cons_self ..))).1
    cases ht : aw5 r (s + 1 - c.size) with
    | none=>rw [ht] at h; cases h
    | some r'=>
     rw [ht] at h
     simp only [cond_true,Option.map_some,Option.some.injEq] at h
     subst h
     obtain ⟨h1,h2,h3⟩:=ih ht fun c hc=>hok c (List.mem_cons_of_mem _ hc)
     refine ⟨?_,?_,?_⟩
     ·simp only [d6,List.flatMap_cons] at h1 ⊢
      rw [List.take_append,hc,h1,List.take_of_length_le (by omega)]
     ·simp only [d6,List.flatMap_cons,List.length_append] at h2 ⊢
      omega
     intro d hd
     rcases List.mem_cons.1 hd with rfl | hd
     ·exact hok _ (List.mem_cons_self ..)
     exact h3 d hd
theorem b86 : ∀ {l : List Ch} {o s : Nat} {l' : List Ch},ldL l o s = some l' → (∀ c ∈ l,c.Ok m) →
  ((d6 β l).drop o).take s = d6 β l' ∧ (d6 β l').length = s ∧ ∀ c ∈ l',c.Ok m:=by
 intro l
 induction l with
 | nil=>
  intro o s l' h hok
  cases o with
  | zero=>simp only [ldL] at h; simpa using bp3 h hok
  | succ o=>cases h
 | cons c r ih=>
  intro o s l' h hok
  cases o with
  | zero=>simp only [ldL] at h; simpa using bp3 h hok
  | succ o=>
   simp only [ldL] at h
   cases hb : Nat.ble c.size (o + 1) with
   | false=>rw [hb] at h; cases h
   | true=>
    rw [hb] at h
    simp only [cond_true] at h
    have hle:=Nat.le_of_ble_eq_true hb
    have hc:=(Ch.cells_ok (β:=β) (hok c (List.mem_cons_self ..))).1
    obtain ⟨h1,h2,h3⟩:=ih h fun c hc=>hok c (List.mem_cons_of_mem _ hc)
    refine ⟨?_,h2,h3⟩
    rw [← h1]
    simp only [d6,List.flatMap_cons]
    rw [List.drop_append,hc,List.drop_eq_nil_of_le (by omega),List.nil_append]
theorem cv2 : ∀ {l : List Ch} {s : Nat} {l' : List Ch},ao6 l s = some l' → (∀ c ∈ l,c.Ok m) → (d6 β l).drop s = d6 β l' ∧ s ≤ (d6 β l).length ∧ ∀ c ∈ l',c.Ok m:=by
 intro l
 induction l with
 | nil=>
  intro s l' h hok
  cases s with
  | zero=>simp only [ao6,Option.some.injEq] at h; subst h; exact ⟨rfl,Nat.zero_le _,hok⟩
  | succ s=>cases h
 | cons c r ih=>
  intro s l' h hok
  cases s with
  | zero=>simp only [ao6,Option.some.injEq] at h; subst h; exact ⟨rfl,Nat.zero_le _,hok⟩
  | succ s=>
   simp only [ao6] at h
   cases hb : Nat.ble c.size (s + 1) with
   | false=>rw [hb] at h; cases h
   | true=>
    rw [hb] at h
    simp only [cond_true] at h
    have hle:=Nat.le_of_ble_eq_true hb
    have hc:=(Ch.cells_ok (β:=β) (hok c (List.mem_cons_self ..))).1
    obtain ⟨h1,h2,h3⟩:=ih h fun c hc=>hok c (List.mem_cons_of_mem _ hc)
    refine ⟨?_,?_,h3⟩
    ·rw [← h1]
     simp only [d6,List.flatMap_cons]
     rw [List.drop_append,hc,List.drop_eq_nil_of_le (by omega),List.nil_append]
    simp only [d6,List.flatMap_cons,List.length_append] at h2 ⊢
    omega
theorem bg4 : ∀ {l : List Ch} {o s : Nat} {new l' : List Ch},stL l o s new = some l' → (∀ c ∈ l,c.Ok m) → (∀ c ∈ new,c.Ok m) →
  (d6 β l).take o ++ d6 β new ++ (d6 β l).drop (o + s) = d6 β l' ∧ o + s ≤ (d6 β l).length ∧ ∀ c ∈ l',c.Ok m:=by
 have base : ∀ {l : List Ch} {s : Nat} {new l' : List Ch},(ao6 l s).map (new ++ ·) = some l' → (∀ c ∈ l,c.Ok m) → (∀ c ∈ new,c.Ok m) →
   (d6 β l).take 0 ++ d6 β new ++ (d6 β l).drop (0 + s) = d6 β l' ∧ 0 + s ≤ (d6 β l).length ∧ ∀ c ∈ l',c.Ok m:=by
  intro l s new l' h hok hnew
  cases hd : ao6 l s with
  | none=>rw [hd] at h; cases h
  | some r=>
   rw [hd] at h
   simp only [Option.map_some,Option.some.injEq] at h
   subst h
   obtain ⟨h1,h2,h3⟩:=cv2 (β:=β) hd hok
   refine ⟨?_,by omega,?_⟩
   ·rw [Nat.zero_add,h1]
    simp [d6]
   intro c hc
   rcases List.mem_append.1 hc with h | h
   ·exact hnew c h
   exact h3 c h
 intro l
 induction l with
 | nil=>
  intro o s new l' h hok hnew
  cases o with
  | zero=>exact base (by simpa only [stL] using h) hok hnew
  | succ o=>cases h
 | cons c r ih=>
  intro o s new l' h hok hnew
  cases o with
  | zero=>exact base (by simpa only [stL] using h) hok hnew
  | succ o=>
   simp only [stL] at h
   cases hb : Nat.ble c.size (o + 1) with
   | false=>rw [hb] at h; cases h
   | true=>
    rw [hb] at h
    have hle:=Nat.le_of_ble_eq_true hb
    have hc:=(Ch.cells_ok (β:=β) (hok c (List.mem_cons_self ..))).1
    cases hs : stL r (o + 1 - c.size) s new with
    | none=>rw [hs] at h; cases h
    | some r'=>
     rw [hs] at h
     simp only [cond_true,Option.map_some,Option.some.injEq] at h
     subst h
     obtain ⟨h1,h2,h3⟩:=ih hs (fun c hc=>hok c (List.mem_cons_of_mem _ hc)) hnew
     refine ⟨?_,?_,?_⟩
     ·simp only [d6,List.flatMap_cons] at h1 ⊢
      rw [← h1]
      rw [List.take_append,List.drop_append,hc,List.take_of_length_le (by omega),List.drop_eq_nil_of_le (by omega),List.nil_append]
      rw [show o + 1 + s - c.size = o + 1 - c.size + s by omega]
      simp
     ·simp only [d6,List.flatMap_cons,List.length_append] at h2 ⊢
      omega
     intro d hd
     rcases List.mem_cons.1 hd with rfl | hd
     ·exact hok _ (List.mem_cons_self ..)
     exact h3 d hd
theorem de2 {g : Bool} {l : List Ch} {s : SV} (h : mkV g l = some s) (hok : ∀ c ∈ l,c.Ok m) :
  s.Ok m ∧ (g = true → s.den β = .agg (d6 β l).toArray) ∧ (g = false → d6 β l = [s.den β]):=by
 unfold mkV at h
 split at h
 ·simp only [Option.some.injEq] at h
  subst h
  have h1:=hok _ (List.mem_cons_self ..)
  refine ⟨h1,fun _=>?_,fun h=>by cases h⟩
  obtain ⟨cs,rfl,hl,h2⟩:=h1
  simp [SV.den,Ch.den,d6,Ch.cells,Value.cells]
 ·simp only [Option.some.injEq] at h
  subst h
  exact ⟨hok,fun _=>rfl,fun h=>by cases h⟩
 ·cases h
 ·rename_i c hne
  simp only [Option.some.injEq] at h
  subst h
  refine ⟨hok _ (List.mem_cons_self ..),(fun h=>by cases h),fun _=>?_⟩
  simp only [d6,List.flatMap_cons,List.flatMap_nil,List.append_nil,SV.den]
  cases c with
  | ag n x=>exact absurd rfl (hne n x)
  | _=>rfl
 cases h
end
inductive TKd where
 | int (k : IntKind)
 | bool
 | str
 | slice (e : TypeId)
 | array (n : Nat) (e : TypeId)
 | struct (fs : List (Nat × Nat × Bool))
 | iface
 | ptr (e : TypeId)
 | other
structure TI where
 size : Nat
 bytes : Nat
 agg : Bool
 zero : List Ch
 kind : TKd
abbrev Env:=List (TypeId × TI)
def Env.get : Env → TypeId → Option TI
 | [],_=>none
 | (i,t) :: r,d=>bif Nat.beq i d then some t else Env.get r d
def bd2 (P : Program) : List Field → List (Nat × Nat × Bool) → Bool
 | [],[]=>true
 | f :: r,p :: q=>(Nat.beq f.offset p.1) && (match P.info? f.type with | some i=>Nat.beq i.size p.2.1 | none=>false) && (match ba2 (P.underlying f.type) with | some g=>g == p.2.2 | none=>false) && bd2 P r q
 | _,_=>false
def bv7 (P : Program) (t : TypeId) : TKd → Prop
 | .int k=>P.underlying t = some (.int k)
 | .bool=>P.underlying t = some .bool
 | .str=>P.underlying t = some .string
 | .slice e=>P.underlying t = some (.slice e)
 | .array n e=>P.underlying t = some (.array n e)
 | .struct fs=>∃ fl : Array Field,P.underlying t = some (.struct fl) ∧ bd2 P fl.toList fs = true ∧
   ∀ w,(fl.mapM fun f=>Prod.mk f.offset <$> sizeOf f.type : Sem _).run P w = .ok (fs.map fun p=>(p.1,p.2.1)).toArray w
 | .iface=>∃ ms,P.underlying t = some (.interface ms)
 | .ptr e=>P.underlying t = some (.pointer e)
 | .other=>True
structure TyOk (P : Program) (t : TypeId) (ti : TI) : Prop where
 ty : ∃ z,TyI P t ti.size ti.bytes z ti.agg ∧ z.cells = (d6 (fun _=>0) ti.zero).toArray
 ok : ∀ c ∈ ti.zero,c.Ok 0
 kind : bv7 P t ti.kind
def EnvOk (P : Program) (E : Env) : Prop:=∀ p ∈ E,TyOk P p.1 p.2
theorem EnvOk.get {P : Program} {E : Env} (h : EnvOk P E) : ∀ {t : TypeId} {ti : TI},E.get t = some ti → TyOk P t ti:=by
 induction E with
 | nil=>intro t ti h; cases h
 | cons p r ih=>
  obtain ⟨i,u⟩:=p
  intro t ti hg
  simp only [Env.get] at hg
  cases hb : Nat.beq i t with
  | true=>
   rw [hb] at hg
   simp only [cond_true,Option.some.injEq] at hg
   subst hg
   obtain rfl:=Nat.eq_of_beq_eq_true hb
   exact h _ (List.mem_cons_self ..)
  | false=>
   rw [hb] at hg
   exact ih (fun p hp=>h p (List.mem_cons_of_mem _ hp)) hg
theorem bb1 {P : Program} : ∀ {fl : List Field} {fs : List (Nat × Nat × Bool)},bd2 P fl fs = true → ∀ (f : Nat) (p : Nat × Nat × Bool),fs[f]? = some p →
  ∃ fd i,fl[f]? = some fd ∧ fd.offset = p.1 ∧ P.info? fd.type = some i ∧ i.size = p.2.1 ∧ ba2 (P.underlying fd.type) = some p.2.2:=by
 intro fl
 induction fl with
 | nil=>
  intro fs h f p hp
  cases fs with
  | nil=>simp at hp
  | cons q r=>cases h
 | cons a r ih=>
  intro fs h f p hp
  cases fs with
  | nil=>cases h
  | cons q r'=>
   simp only [bd2,Bool.and_eq_true] at h
   obtain ⟨⟨⟨h1,h2⟩,h3⟩,h4⟩:=h
   cases f with
   | zero=>
    simp only [List.getElem?_cons_zero,Option.some.injEq] at hp
    subst hp
    cases hi : P.info? a.type with
    | none=>rw [hi] at h2; cases h2
    | some i=>
     rw [hi] at h2
     cases hg : ba2 (P.underlying a.type) with
     | none=>rw [hg] at h3; cases h3
     | some g=>
      rw [hg] at h3
      exact ⟨a,i,rfl,Nat.eq_of_beq_eq_true h1,hi,Nat.eq_of_beq_eq_true h2,by rw [hg]; simpa using h3⟩
   | succ f=>
    simp only [List.getElem?_cons_succ] at hp ⊢
    exact ih h4 f p hp
structure AbsE where
 Q : Nat → Prop
 R : World → Prop
 frame : ∀ w w',R w → w.heap.size ≤ w'.heap.size → (∀ k,Q k → w'.heap[k]? = w.heap[k]?) → R w'
inductive HE where
 | blk (T : TypeId) (l : List Ch)
 | row (T : TypeId) (s : Nat) (v : Value) (n : Nat) (cs : List Value)
 | gone
 | abs (A : AbsE)
 | hid (T : TypeId) (l : List Ch)
structure Bs where
 n : Nat
 K : Nat → Prop
 m : Nat
 b : Nat → Nat
abbrev Bs.of (n : Nat) (K : Nat → Prop) : Bs:=⟨n,K,0,fun _=>0⟩
def J3 : List (Nat × SV) → Nat → Option SV
 | [],_=>none
 | (i,s) :: r,d=>bif Nat.beq i d then some s else J3 r d
def nth : List HE → Nat → Option HE
 | [],_=>none
 | h :: _,0=>some h
 | _ :: r,i + 1=>nth r i
def Y1 : List HE → Nat → HE → List HE
 | [],_,_=>[]
 | _ :: r,0,x=>x :: r
 | h :: r,i + 1,x=>h :: Y1 r i x
theorem M5 : ∀ (l : List HE) (i : Nat),nth l i = l[i]?:=by
 intro l
 induction l with
 | nil=>intro i; simp [nth]
 | cons h r ih=>intro i; cases i with
  | zero=>simp [nth]
  | succ i=>simp [nth,ih]
theorem M4 : ∀ (l : List HE) (i : Nat) (x : HE),Y1 l i x = l.set i x:=by
 intro l
 induction l with
 | nil=>intro i x; simp [Y1]
 | cons h r ih=>intro i x; cases i with
  | zero=>simp [Y1]
  | succ i=>simp [Y1,ih]
def au8 : Value → Option Ch
 | .int k z=>some (.lit k z)
 | .bool x=>some (.bb x)
 | .string s=>some (.str s.data.toList)
 | .slice a m c=>bif Nat.ble m c then some (.sl (.slice a m c) m) else none
 | .agg _=>none
 | .tuple _=>none
 | .float k x=>some (.val (.float k x))
 | .complex k x y=>some (.val (.complex k x y))
 | .pointer x=>some (.val (.pointer x))
 | .map x=>some (.val (.map x))
 | .chan x=>some (.val (.chan x))
 | .func f a b=>some (.val (.func f a b))
 | .nilFunc=>some (.val .nilFunc)
 | .iface t x=>some (.val (.iface t x))
 | .nilIface=>some (.val .nilIface)
def by5 : List Value → Option (List Ch)
 | []=>some []
 | x :: r=>match au8 x,by5 r with | some c,some l=>some (c :: l) | _,_=>none
def dh2 : Value → Option SV
 | .agg cs=>(by5 cs.toList).map .agg
 | .tuple cs=>match cs.toList with | []=>some .und | _=>none
 | x=>(au8 x).map .one
def opd (fr : List (Nat × SV)) : Operand → Option SV
 | .tmp t=>J3 fr t
 | .const v=>dh2 v
 | .global g=>some (.one (.val (.pointer (some ⟨g,0,none⟩))))
 | .func f=>some (.one (.fn f []))
theorem be1 {β : Nat → Nat} {m : Nat} {x : Value} {c : Ch} (h : au8 x = some c) : c.den β = x ∧ c.Ok m ∧ x.oneCell' = true:=by
 cases x <;> simp only [au8,Option.some.injEq] at h
 case string s=>subst h; exact ⟨by show Value.string ⟨s.data.toList.toArray⟩ = _; simp,trivial,rfl⟩
 case slice a n k=>
  cases hb : Nat.ble n k with
  | false=>rw [hb] at h; cases h
  | true=>
   rw [hb] at h
   simp only [cond_true,Option.some.injEq] at h
   subst h
   exact ⟨rfl,⟨_,_,rfl,Nat.le_of_ble_eq_true hb⟩,rfl⟩
 case agg=>cases h
 case tuple=>cases h
 all_goals (subst h; exact ⟨rfl,(by first | trivial | rfl),rfl⟩)
theorem ck0 {β : Nat → Nat} {m : Nat} : ∀ {l : List Value} {r : List Ch},by5 l = some r → d6 β r = l ∧ ∀ c ∈ r,c.Ok m:=by
 intro l
 induction l with
 | nil=>intro r h; simp only [by5,Option.some.injEq] at h; subst h; exact ⟨rfl,fun _ hc=>by cases hc⟩
 | cons x r ih=>
  intro q h
  simp only [by5] at h
  cases h1 : au8 x with
  | none=>rw [h1] at h; cases h
  | some c=>
   cases h2 : by5 r with
   | none=>rw [h1,h2] at h; cases h
   | some l=>
    rw [h1,h2] at h
    simp only [Option.some.injEq] at h
    subst h
    obtain ⟨e1,e2,e3⟩:=be1 (β:=β) (m:=m) h1
    obtain ⟨e4,e5⟩:=ih h2
    refine ⟨?_,?_⟩
    ·simp only [d6,List.flatMap_cons] at e4 ⊢
     rw [e4]
     have h3:=Ch.cells_den (β:=β) e2
     rw [e1,aj1 e3] at h3
     have h4:=congrArg Array.toList h3
     simp only at h4
     rw [← h4]
     rfl
    intro d hd
    rcases List.mem_cons.1 hd with rfl | hd
    ·exact e2
    exact e5 d hd
theorem dl4 {β : Nat → Nat} {m : Nat} {x : Value} {s : SV} (h : dh2 x = some s) : x = s.den β ∧ s.Ok m:=by
 have one : ∀ {x : Value} {s : SV},(au8 x).map .one = some s → x = s.den β ∧ s.Ok m:=by
  intro x s h
  cases h1 : au8 x with
  | none=>rw [h1] at h; cases h
  | some c=>
   rw [h1] at h
   simp only [Option.map_some,Option.some.injEq] at h
   subst h
   obtain ⟨e1,e2,_⟩:=be1 (β:=β) (m:=m) h1
   exact ⟨e1.symm,e2⟩
 cases x
 case agg cs=>
  simp only [dh2] at h
  cases h1 : by5 cs.toList with
  | none=>rw [h1] at h; cases h
  | some l=>
   rw [h1] at h
   simp only [Option.map_some,Option.some.injEq] at h
   subst h
   obtain ⟨e1,e2⟩:=ck0 (β:=β) (m:=m) h1
   exact ⟨by simp [SV.den,e1],e2⟩
 case tuple cs=>
  simp only [dh2] at h
  split at h
  ·rename_i h1
   simp only [Option.some.injEq] at h
   subst h
   refine ⟨?_,trivial⟩
   have : cs = #[]:=by simpa using h1
   subst this
   rfl
  cases h
 all_goals exact one h
def Kn (β : Nat → Nat) (m : Nat) (x : Option SV) (v : Value) : Prop:=∀ s,x = some s → v = s.den β ∧ s.Ok m
theorem ad8 {β : Nat → Nat} {m : Nat} {fr : List (Nat × SV)} {ρ : Fr} {x : Operand} (h : ∀ t,x = .tmp t → Kn β m (J3 fr t) (ρ t)) : Kn β m (opd fr x) (ev ρ x):=by
 cases x with
 | tmp t=>exact h t rfl
 | const v=>intro s hs; exact dl4 hs
 | global g=>intro s hs; simp only [opd,Option.some.injEq] at hs; subst hs; exact ⟨rfl,rfl⟩
 | func f=>
  intro s hs
  simp only [opd,Option.some.injEq] at hs
  subst hs
  exact ⟨rfl,fun b hb=>by cases hb⟩
def InR : IntKind → Int → Prop
 | .i8,z=>-128 ≤ z ∧ z ≤ 127
 | .i16,z=>-32768 ≤ z ∧ z ≤ 32767
 | .i32,z=>-2147483648 ≤ z ∧ z ≤ 2147483647
 | .i64,z=>-9223372036854775808 ≤ z ∧ z ≤ 9223372036854775807
 | .u8,z=>0 ≤ z ∧ z ≤ 255
 | .u16,z=>0 ≤ z ∧ z ≤ 65535
 | .u32,z=>0 ≤ z ∧ z ≤ 4294967295
 | .u64,z=>0 ≤ z ∧ z ≤ 18446744073709551615
theorem InR.wrap {k : IntKind} {z : Int} (h : InR k z) : k.wrap z = z:=by
 cases k <;> simp only [InR] at h <;> simp [IntKind.wrap,IntKind.signed,IntKind.bits] <;> omega
def K7 : List Prop → Prop
 | []=>True
 | p :: r=>p ∧ K7 r
theorem ba7 {a b : List Prop} : K7 (a ++ b) ↔ K7 a ∧ K7 b:=by
 induction a with
 | nil=>simp [K7]
 | cons p r ih=>simp [K7,ih,and_assoc]
inductive Eff where
 | put (s : SV) (vc : List Prop)
 | mk (T : TypeId) (l : List Ch) (s : SV)
 | wr (b : Nat) (l : List Ch)
def cl5 : Value → Option (List Ch)
 | .agg cs=>by5 cs.toList
 | x=>(au8 x).map fun c=>[c]
def r9 (z : Value) : List Ch:=(cl5 z).getD []
theorem b84 {β : Nat → Nat} {m : Nat} {z : Value} {l : List Ch} (h : cl5 z = some l) : z.cells = (d6 β l).toArray ∧ ∀ c ∈ l,c.Ok m:=by
 have one : ∀ {x : Value},(au8 x).map (fun c=>[c]) = some l → x.cells = (d6 β l).toArray ∧ ∀ c ∈ l,c.Ok m:=by
  intro x h
  cases h1 : au8 x with
  | none=>rw [h1] at h; cases h
  | some c=>
   rw [h1] at h
   simp only [Option.map_some,Option.some.injEq] at h
   subst h
   obtain ⟨e1,e2,e3⟩:=be1 (β:=β) (m:=m) h1
   refine ⟨?_,fun d hd=>by rw [List.mem_singleton.1 hd]; exact e2⟩
   have:=Ch.cells_den (β:=β) e2
   rw [e1] at this
   simpa [d6] using this
 cases z
 case agg cs=>
  obtain ⟨e1,e2⟩:=ck0 (β:=β) (m:=m) h
  exact ⟨by rw [e1]; simp [Value.cells],e2⟩
 all_goals exact one h
theorem A1 {P : Program} {t : TypeId} {s b : Nat} {z : Value} {g : Bool} {kd : TKd} (ty : TyI P t s b z g) (hz : (cl5 z).isSome = true) (hk : bv7 P t kd) : TyOk P t ⟨s,b,g,r9 z,kd⟩:=by
 cases h : cl5 z with
 | none=>rw [h] at hz; cases hz
 | some l=>
  have e : r9 z = l:=by unfold r9; rw [h]; rfl
  rw [e]
  exact ⟨⟨z,ty,(b84 (m:=0) h).1⟩,(b84 (β:=fun _=>0) h).2,hk⟩
theorem cu2 {P : Program} : EnvOk P []:=fun p hp=>by cases hp
theorem p7 {P : Program} {p : TypeId × TI} {E : Env} (h : TyOk P p.1 p.2) (r : EnvOk P E) : EnvOk P (p :: E):=fun q hq=>by
 rcases List.mem_cons.1 hq with rfl | hq
 ·exact h
 exact r q hq
def af0 (P : Program) (ρ : Operand → Value) (o : Op) (ty : TypeId) (w : World) (v : Value) : Prop:=∀ d pos aft g,(execOp ρ ⟨d,o,ty,pos,aft,g⟩).run P w = .ok (.value v) w
section
variable {P : Program} {E : Env} {β : Nat → Nat} {m : Nat} {w : World} {ty : TypeId} {ρ : Operand → Value}
def bv4 : Option SV → Option SV → Option SV → Option Eff
 | some (.one (.bb true)),x,_=>x.map fun s=>.put s []
 | some (.one (.bb false)),_,y=>y.map fun s=>.put s []
 | _,_,_=>none
theorem G4 {s s' : SV} {vc vc' : List Prop} (h : Eff.put s vc = Eff.put s' vc') : s = s' ∧ vc = vc':=by cases h; exact ⟨rfl,rfl⟩
theorem ar2 {x : Option SV} {s : SV} {vc : List Prop} (h : (x.map fun s=>Eff.put s []) = some (.put s vc)) : x = some s:=by
 cases x with
 | none=>cases h
 | some y=>simp only [Option.map_some,Option.some.injEq] at h; rw [(G4 h).1]
theorem cb9 {c x y : Operand} {cs xs ys : Option SV} {s : SV} {vc : List Prop} (hc : Kn β m cs (ρ c)) (hx : Kn β m xs (ρ x)) (hy : Kn β m ys (ρ y)) (h : bv4 cs xs ys = some (.put s vc)) :
  af0 P ρ (.pick c x y) ty w (s.den β) ∧ s.Ok m:=by
 unfold bv4 at h
 split at h
 ·have h1:=hc _ rfl
  have h2:=hx _ (ar2 h)
  refine ⟨fun d pos aft g=>?_,h2.2⟩
  simp [execOp,h1.1,SV.den,Ch.den,asBool,h2.1]
 ·have h1:=hc _ rfl
  have h2:=hy _ (ar2 h)
  refine ⟨fun d pos aft g=>?_,h2.2⟩
  simp [execOp,h1.1,SV.den,Ch.den,asBool,h2.1]
 cases h
def arr (x : Ch) (p : Prop) : Option (Ch × List Prop):=some (x,[p])
def pur (x : Ch) : Option (Ch × List Prop):=some (x,[])
def cc3 (op : BinOp) (k : IntKind) (a b : Int) : Option (Ch × List Prop):=
 match op with
 | .add=>pur (.lit k (k.wrap (a + b)))
 | .sub=>pur (.lit k (k.wrap (a - b)))
 | .mul=>pur (.lit k (k.wrap (a * b)))
 | .quo=>bif decide (b = 0) then none else pur (.lit k (k.wrap (a.tdiv b)))
 | .rem=>bif decide (b = 0) then none else pur (.lit k (a.tmod b))
 | .eql=>pur (.bb (decide (a = b)))
 | .neq=>pur (.bb (!decide (a = b)))
 | .lss=>pur (.bb (decide (a < b)))
 | .leq=>pur (.bb (decide (a ≤ b)))
 | .gtr=>pur (.bb (decide (b < a)))
 | .geq=>pur (.bb (decide (b ≤ a)))
 | _=>none
def bi2 (op : BinOp) (k : IntKind) (a b : Int) : Option (Ch × List Prop):=
 match op with
 | .add=>arr (.int k (a + b)) (InR k (a + b))
 | .sub=>arr (.int k (a - b)) (InR k (a - b))
 | .mul=>arr (.int k (a * b)) (InR k (a * b))
 | .quo=>arr (.int k (a / b)) (0 ≤ a ∧ 0 < b ∧ InR k (a / b))
 | .rem=>arr (.int k (a % b)) (0 ≤ a ∧ 0 < b)
 | .eql=>pur (.tp (a = b))
 | .neq=>pur (.tp (a ≠ b))
 | .lss=>pur (.tp (a < b))
 | .leq=>pur (.tp (a ≤ b))
 | .gtr=>pur (.tp (b < a))
 | .geq=>pur (.tp (b ≤ a))
 | _=>none
def a69 : Ch → Option Prop
 | .bb x=>some (x = true)
 | .tp p=>some p
 | _=>none
def bx0 (op : BinOp) (x y : Ch) : Option (Ch × List Prop):=
 match a69 x,a69 y with
 | some p,some q=>match op with
  | .eql=>pur (.tp (p ↔ q))
  | .neq=>pur (.tp (¬ (p ↔ q)))
  | _=>none
 | _,_=>none
def cf3 (op : BinOp) (a b : List UInt8) : Option (Ch × List Prop):=
 match op with
 | .eql=>pur (.tp (a = b))
 | .neq=>pur (.tp (a ≠ b))
 | .add=>arr (.str (a ++ b)) (a.length + b.length ≤ 9223372036854775807)
 | _=>none
def cl2 (E : Env) (t : TypeId) : Bool:=match E.get t with | some ti=>(match ti.kind with | .bool=>true | _=>false) | none=>false
def d06 (E : Env) (op : BinOp) (t : TypeId) : Ch → Ch → Option (Ch × List Prop)
 | .lit k a,.lit k' b=>bif decide (k = k') then cc3 op k a b else none
 | .lit k a,.int k' b=>bif decide (k = k') then bi2 op k a b else none
 | .int k a,.lit k' b=>bif decide (k = k') then bi2 op k a b else none
 | .int k a,.int k' b=>bif decide (k = k') then bi2 op k a b else none
 | .str a,.str b=>cf3 op a b
 | x,y=>bif cl2 E t then bx0 op x y else none
theorem cw1 {op : BinOp} {k : IntKind} {a b : Int} {c : Ch} {vc : List Prop} (h : cc3 op k a b = some (c, vc)) :
    (binOp op 0 (.int k a) (.int k b)).run P w = .ok (c.den β) w ∧ c.Ok m ∧ (∀ t, (binOp op t (.int k a) (.int k b)) = binOp op 0 (.int k a) (.int k b)) := by
  have hb0 : ∀ {x : Option (Ch × List Prop)}, (bif decide (b = 0) then none else x) = some (c, vc) → b ≠ 0 ∧ x = some (c, vc) := by
    intro x h
    by_cases e : b = 0
    · rw [decide_eq_true e] at h; cases h
    · rw [decide_eq_false e] at h; exact ⟨e, h⟩
  cases op <;> simp only [cc3, pur, Option.some.injEq, Prod.mk.injEq] at h
  case quo =>
    obtain ⟨h1, h2⟩ := hb0 h
    simp only [Option.some.injEq, Prod.mk.injEq] at h2
    obtain ⟨rfl, rfl⟩ := h2
    exact ⟨by simp [binOp, Op.intDiv, h1, Ch.den], trivial, fun t => rfl⟩
  case rem =>
    obtain ⟨h1, h2⟩ := hb0 h
    simp only [Option.some.injEq, Prod.mk.injEq] at h2
    obtain ⟨rfl, rfl⟩ := h2
    exact ⟨by simp [binOp, Op.intDiv, h1, Ch.den], trivial, fun t => rfl⟩
  all_goals first
    | (cases h; done)
    | (obtain ⟨rfl, rfl⟩ := h
       exact ⟨by simp [binOp, Op.intArith, Op.intCmp, Ch.den]; try (first | rfl | (by_cases e : a = b <;> simp [e, bne])), trivial, fun t => rfl⟩)
theorem a93 {op : BinOp} {k : IntKind} {a b : Int} {c : Ch} {vc : List Prop} (h : bi2 op k a b = some (c,vc)) (hv : K7 vc) :
  (binOp op 0 (.int k a) (.int k b)).run P w = .ok (c.den β) w ∧ c.Ok m ∧ (∀ t,(binOp op t (.int k a) (.int k b)) = binOp op 0 (.int k a) (.int k b)):=by
 have e1 : (a == b) = tst (a = b):=by rw [← P0,Bool.eq_iff_iff]; simp
 have e2 : (a != b) = tst (a ≠ b):=by rw [← P0,Bool.eq_iff_iff]; simp
 cases op <;> simp only [bi2,pur,arr,Option.some.injEq,Prod.mk.injEq] at h
 all_goals first
  | (cases h; done)
  | skip
 case quo=>
  obtain ⟨rfl,rfl⟩:=h
  obtain ⟨⟨h0,h1,h2⟩,_⟩:=hv
  exact ⟨by simp [binOp,Op.intDiv,show b ≠ 0 by omega,Ch.den,bg6 h0,h2.wrap],trivial,fun t=>rfl⟩
 case rem=>
  obtain ⟨rfl,rfl⟩:=h
  obtain ⟨⟨h0,h1⟩,_⟩:=hv
  exact ⟨by simp [binOp,Op.intDiv,show b ≠ 0 by omega,Ch.den,b07 h0],trivial,fun t=>rfl⟩
 case add=>obtain ⟨rfl,rfl⟩:=h; exact ⟨by simp [binOp,Op.intArith,Ch.den,InR.wrap hv.1],trivial,fun t=>rfl⟩
 case sub=>obtain ⟨rfl,rfl⟩:=h; exact ⟨by simp [binOp,Op.intArith,Ch.den,InR.wrap hv.1],trivial,fun t=>rfl⟩
 case mul=>obtain ⟨rfl,rfl⟩:=h; exact ⟨by simp [binOp,Op.intArith,Ch.den,InR.wrap hv.1],trivial,fun t=>rfl⟩
 all_goals
  obtain ⟨rfl,rfl⟩:=h
  exact ⟨by simp [binOp,Op.intCmp,Ch.den,e1,e2,P0],trivial,fun t=>rfl⟩
theorem bn9 {c : Ch} {p : Prop} (h : a69 c = some p) : c.den β = .bool (tst p):=by
 cases c <;> simp only [a69,Option.some.injEq] at h <;> first | (cases h; done) | skip
 case bb x=>subst h; cases x; exact congrArg Value.bool (l7 (by simp)).symm; exact congrArg Value.bool (m6 rfl).symm
 case tp q=>subst h; rfl
theorem cb0 {op : BinOp} {x y c : Ch} {t : TypeId} {vc : List Prop} (ht : P.underlying t = some .bool) (h : bx0 op x y = some (c,vc)) :
  (binOp op t (x.den β) (y.den β)).run P w = .ok (c.den β) w ∧ c.Ok m ∧ (∃ u u',x.den β = .bool u ∧ y.den β = .bool u'):=by
 have bt : BoolT P t:=⟨ht⟩
 unfold bx0 at h
 cases hx : a69 x with
 | none=>rw [hx] at h; cases h
 | some p=>
  cases hy : a69 y with
  | none=>rw [hx,hy] at h; cases h
  | some q=>
   rw [hx,hy] at h
   have e1:=bn9 (β:=β) hx
   have e2:=bn9 (β:=β) hy
   have e3 : (tst p == tst q) = tst (p ↔ q):=by
    by_cases hp : p <;> by_cases hq : q
    ·rw [m6 hp,m6 hq,m6 ⟨fun _=>hq,fun _=>hp⟩]; rfl
    ·rw [m6 hp,l7 hq,l7 fun h=>hq (h.1 hp)]; rfl
    ·rw [l7 hp,m6 hq,l7 fun h=>hp (h.2 hq)]; rfl
    rw [l7 hp,l7 hq,m6 ⟨fun h=>(hp h).elim,fun h=>(hq h).elim⟩]; rfl
   cases op <;> simp only [pur,Option.some.injEq,Prod.mk.injEq] at h <;> first | (cases h; done) | skip
   ·obtain ⟨rfl,rfl⟩:=h
    rw [e1,e2]
    exact ⟨by simp [binOp,al5,Ch.den,e3],trivial,_,_,rfl,rfl⟩
   obtain ⟨rfl,rfl⟩:=h
   rw [e1,e2]
   exact ⟨by simp [binOp,al5,Ch.den,e3,bne,bc1],trivial,_,_,rfl,rfl⟩
theorem cp8 {op : BinOp} {a b : List UInt8} {c : Ch} {vc : List Prop} (h : cf3 op a b = some (c,vc)) (hv : K7 vc) :
  (binOp op 0 (F4 a) (F4 b)).run P w = .ok (c.den β) w ∧ c.Ok m ∧ (∀ t,(binOp op t (F4 a) (F4 b)) = binOp op 0 (F4 a) (F4 b)):=by
 have e0 : (a == b) = tst (a = b):=by
  rw [← P0,Bool.eq_iff_iff]
  simp
 cases op <;> simp only [cf3,pur,arr,Option.some.injEq,Prod.mk.injEq] at h <;> first | (cases h; done) | skip
 ·obtain ⟨rfl,rfl⟩:=h
  have h1 : ¬ (((⟨a.toArray⟩ : ByteArray).size + (⟨b.toArray⟩ : ByteArray).size : Nat) : Int) > IntKind.i64.max:=by
   show ¬ ((a.toArray.size + b.toArray.size : Nat) : Int) > IntKind.i64.max
   have:=hv.1
   simp [IntKind.max,IntKind.signed,IntKind.bits]
   omega
  have h2 : (⟨a.toArray⟩ : ByteArray) ++ ⟨b.toArray⟩ = ⟨(a ++ b).toArray⟩:=by
   apply ByteArray.ext
   simp
  exact ⟨by simp only [binOp,Op.stringOp,if_neg h1,h2,Ch.den]; simp,trivial,fun t=>rfl⟩
 ·obtain ⟨rfl,rfl⟩:=h
  exact ⟨by simp [binOp,Op.stringOp,Ch.den,e0],trivial,fun t=>rfl⟩
 obtain ⟨rfl,rfl⟩:=h
 exact ⟨by simp [binOp,Op.stringOp,Ch.den,bne,e0,bc1],trivial,fun t=>rfl⟩
end
section
variable {P : Program} {E : Env} {β : Nat → Nat} {m : Nat} {w : World} {ty : TypeId} {ρ : Operand → Value}
def ce6 (E : Env) (op : BinOp) (t : TypeId) : Option SV → Option SV → Option Eff
 | some (.one x),some (.one y)=>(d06 E op t x y).map fun r=>.put (.one r.1) r.2
 | _,_=>none
theorem cu9 {op : BinOp} {t t' : TypeId} {x y : Operand} {xs ys : Option SV} {s : SV} {vc : List Prop} (hE : EnvOk P E) (hx : Kn β m xs (ρ x)) (hy : Kn β m ys (ρ y)) (h : ce6 E op t xs ys = some (.put s vc)) (hv : K7 vc) :
  af0 P ρ (.binOp op t x y t') ty w (s.den β) ∧ s.Ok m:=by
 unfold ce6 at h
 split at h
 ·rename_i cx cy
  have h1:=(hx _ rfl).1
  have h2:=(hy _ rfl).1
  simp only [SV.den] at h1 h2
  cases hb : d06 E op t cx cy with
  | none=>rw [hb] at h; cases h
  | some r=>
   obtain ⟨c,vc'⟩:=r
   rw [hb] at h
   simp only [Option.map_some,Option.some.injEq] at h
   obtain ⟨rfl,rfl⟩:=G4 h
   unfold d06 at hb
   have hk : ∀ {k k' : IntKind} {o : Option (Ch × List Prop)},(bif decide (k = k') then o else none) = some (c,vc') → k = k' ∧ o = some (c,vc'):=by
    intro k k' o h
    by_cases e : k = k'
    ·rw [decide_eq_true e] at h; exact ⟨e,h⟩
    rw [decide_eq_false e] at h; cases h
   have num : ∀ {k : IntKind} {a b : Int},ρ x = .int k a → ρ y = .int k b → (binOp op 0 (.int k a) (.int k b)).run P w = .ok (c.den β) w ∧ c.Ok m ∧ (∀ t,(binOp op t (.int k a) (.int k b)) = binOp op 0 (.int k a) (.int k b)) →
     af0 P ρ (.binOp op t x y t') ty w ((SV.one c).den β) ∧ (SV.one c).Ok m:=by
    intro k a b e1 e2 hr
    refine ⟨fun d pos aft g=>?_,hr.2.1⟩
    have e3 : (eqGuard op t x y (.int k a) (.int k b)).run P w = .ok () w:=by cases op <;> rfl
    simp [execOp,e1,e2,e3,hr.2.2 t,hr.1,SV.den]
   split at hb
   ·obtain ⟨hkk,hb2⟩:=hk hb; subst hkk; exact num h1 h2 (cw1 hb2)
   ·obtain ⟨hkk,hb2⟩:=hk hb; subst hkk; exact num h1 h2 (a93 hb2 hv)
   ·obtain ⟨hkk,hb2⟩:=hk hb; subst hkk; exact num h1 h2 (a93 hb2 hv)
   ·obtain ⟨hkk,hb2⟩:=hk hb; subst hkk; exact num h1 h2 (a93 hb2 hv)
   ·rename_i a b
    have hr:=cp8 (P:=P) (β:=β) (m:=m) (w:=w) hb hv
    refine ⟨fun d pos aft g=>?_,hr.2.1⟩
    simp only [Ch.den] at h1 h2
    have e3 : (eqGuard op t x y (F4 a) (F4 b)).run P w = .ok () w:=by cases op <;> rfl
    simp [execOp,h1,h2,e3,hr.2.2 t,hr.1,SV.den]
   unfold cl2 at hb
   cases ht : E.get t with
   | none=>rw [ht] at hb; cases hb
   | some ti=>
    simp only [ht] at hb
    have hkd:=(hE.get ht).kind
    cases hk2 : ti.kind <;> simp only [hk2] at hb hkd <;> first | (cases hb; done) | skip
    simp only [cond_true] at hb
    obtain ⟨hr1,hr2,u,u',e4,e5⟩:=cb0 (P:=P) (β:=β) (m:=m) (w:=w) hkd hb
    refine ⟨fun d pos aft g=>?_,hr2⟩
    have e3 : (eqGuard op t x y (ρ x) (ρ y)).run P w = .ok () w:=by rw [h1,h2,e4,e5]; cases op <;> rfl
    simp [execOp,e3]
    rw [h1,h2,hr1]
    rfl
 cases h
def c15 (op : UnOp) : Option SV → Option Eff
 | some (.one (.bb x))=>match op with | .not=>some (.put (.one (.bb (!x))) []) | _=>none
 | some (.one (.tp p))=>match op with | .not=>some (.put (.one (.tp (¬ p))) []) | _=>none
 | some (.one (.lit k z))=>match op with | .neg=>some (.put (.one (.lit k (k.wrap (0 - z)))) []) | _=>none
 | some (.one (.int k z))=>match op with | .neg=>some (.put (.one (.int k (0 - z))) [InR k (0 - z)]) | _=>none
 | _=>none
theorem da4 {op : UnOp} {t : TypeId} {x : Operand} {xs : Option SV} {s : SV} {vc : List Prop} (hx : Kn β m xs (ρ x)) (h : c15 op xs = some (.put s vc)) (hv : K7 vc) :
  af0 P ρ (.unOp op t x) ty w (s.den β) ∧ s.Ok m:=by
 unfold c15 at h
 split at h
 ·have h1:=(hx _ rfl).1
  cases op <;> simp only [Option.some.injEq] at h <;> first | (cases h; done) | skip
  obtain ⟨rfl,rfl⟩:=G4 h
  exact ⟨fun d pos aft g=>by simp [execOp,h1,SV.den,Ch.den,Op.unary],trivial⟩
 ·have h1:=(hx _ rfl).1
  cases op <;> simp only [Option.some.injEq] at h <;> first | (cases h; done) | skip
  obtain ⟨rfl,rfl⟩:=G4 h
  exact ⟨fun d pos aft g=>by simp [execOp,h1,SV.den,Ch.den,Op.unary,bc1],trivial⟩
 ·have h1:=(hx _ rfl).1
  cases op <;> simp only [Option.some.injEq] at h <;> first | (cases h; done) | skip
  obtain ⟨rfl,rfl⟩:=G4 h
  exact ⟨fun d pos aft g=>by simp [execOp,h1,SV.den,Ch.den,Op.unary,Op.intArith],trivial⟩
 ·have h1:=(hx _ rfl).1
  cases op <;> simp only [Option.some.injEq] at h <;> first | (cases h; done) | skip
  obtain ⟨rfl,rfl⟩:=G4 h
  have h2:=hv.1.wrap
  exact ⟨fun d pos aft g=>by simp [execOp,h1,SV.den,Ch.den,Op.unary,Op.intArith]; simpa using h2,trivial⟩
 cases h
def D1 (E : Env) (t : TypeId) : TKd:=match E.get t with | some ti=>ti.kind | none=>.other
theorem D8 {t : TypeId} (hE : EnvOk P E) : bv7 P t (D1 E t):=by
 unfold D1
 cases h : E.get t with
 | none=>trivial
 | some ti=>exact (hE.get h).kind
def br6 (E : Env) (src dst : TypeId) : Option SV → Option Eff
 | some (.one (.lit _ z))=>match D1 E src,D1 E dst with | .int _,.int k=>some (.put (.one (.lit k (k.wrap z))) []) | _,_=>none
 | some (.one (.int _ z))=>match D1 E src,D1 E dst with | .int j,.int k=>bif j.signed && !k.signed then some (.put (.one (.int k (k.wrap z))) []) else some (.put (.one (.int k z)) [InR k z]) | _,_=>none
 | some (.one (.str l))=>match D1 E src,D1 E dst with | .str,.str=>some (.put (.one (.str l)) []) | _,_=>none
 | _=>none
theorem ch3 {src dst : TypeId} {x : Operand} {xs : Option SV} {s : SV} {vc : List Prop} (hE : EnvOk P E) (hx : Kn β m xs (ρ x)) (h : br6 E src dst xs = some (.put s vc)) (hv : K7 vc) :
  af0 P ρ (.convert src dst x) ty w (s.den β) ∧ s.Ok m:=by
 have h2:=D8 (t:=src) hE
 have h3:=D8 (t:=dst) hE
 unfold br6 at h
 split at h
 ·have h1:=(hx _ rfl).1
  split at h <;> first | (cases h; done) | skip
  rename_i e1 e2
  rw [e1] at h2
  rw [e2] at h3
  simp only [Option.some.injEq] at h
  obtain ⟨rfl,rfl⟩:=G4 h
  exact ⟨fun d pos aft g=>by simp [execOp,h1,SV.den,Ch.den,convert,run_underlying h2,run_underlying h3,Conv.intToInt],trivial⟩
 ·have h1:=(hx _ rfl).1
  split at h <;> first | (cases h; done) | skip
  rename_i j k e1 e2
  rw [e1] at h2
  rw [e2] at h3
  cases hb : (j.signed && !k.signed) with
  | true=>
   rw [hb] at h
   simp only [cond_true,Option.some.injEq] at h
   obtain ⟨rfl,rfl⟩:=G4 h
   exact ⟨fun d pos aft g=>by simp [execOp,h1,SV.den,Ch.den,convert,run_underlying h2,run_underlying h3,Conv.intToInt],trivial⟩
  | false=>
   rw [hb] at h
   simp only [cond_false,Option.some.injEq] at h
   obtain ⟨rfl,rfl⟩:=G4 h
   exact ⟨fun d pos aft g=>by simp [execOp,h1,SV.den,Ch.den,convert,run_underlying h2,run_underlying h3,Conv.intToInt,hv.1.wrap],trivial⟩
 ·have h1:=(hx _ rfl).1
  split at h <;> first | (cases h; done) | skip
  rename_i e1 e2
  rw [e1] at h2
  rw [e2] at h3
  simp only [Option.some.injEq] at h
  obtain ⟨rfl,rfl⟩:=G4 h
  exact ⟨fun d pos aft g=>by simp [execOp,h1,SV.den,Ch.den,convert,run_underlying h2,run_underlying h3],trivial⟩
 cases h
def ci7 : Option SV → Option (Nat ⊕ Value)
 | some (.one (.ptr b 0))=>some (.inl b)
 | some (.one (.val x))=>some (.inr x)
 | some (.one (.sl x _))=>some (.inr x)
 | some (.one (.int k z))=>some (.inr (.int k z))
 | some (.one (.lit k z))=>some (.inr (.int k z))
 | some (.one (.str l))=>some (.inr (F4 l))
 | some (.one (.ag _ x))=>some (.inr x)
 | _=>none
def av6 : List (Option SV) → Option (List (Nat ⊕ Value))
 | []=>some []
 | x :: r=>match ci7 x,av6 r with | some c,some l=>some (c :: l) | _,_=>none
theorem c40 {x : Option SV} {c : Nat ⊕ Value} {v : Value} (hx : Kn β m x v) (h : ci7 x = some c) : v = av7 β c ∧ ∀ b,c = .inl b → b < m:=by
 unfold ci7 at h
 split at h <;> first | (cases h; done) | skip
 all_goals
  have h1:=hx _ rfl
  simp only [Option.some.injEq] at h
  subst h
 ·exact ⟨h1.1,fun b hb=>by cases hb; exact h1.2⟩
 all_goals exact ⟨h1.1,fun b hb=>by cases hb⟩
theorem cw5 : ∀ {xs : List (Option SV)} {vs : List Value} {cs : List (Nat ⊕ Value)},xs.length = vs.length → (∀ i,Kn β m (xs.getD i none) (vs.getD i undef)) → av6 xs = some cs → vs = cs.map (av7 β) ∧ ∀ b,Sum.inl b ∈ cs → b < m:=by
 intro xs
 induction xs with
 | nil=>
  intro vs cs hl hk h
  simp only [av6,Option.some.injEq] at h
  subst h
  cases vs with
  | nil=>exact ⟨rfl,fun b hb=>by cases hb⟩
  | cons v r=>simp at hl
 | cons x r ih=>
  intro vs cs hl hk h
  cases vs with
  | nil=>simp at hl
  | cons v vr=>
   simp only [av6] at h
   cases h1 : ci7 x with
   | none=>rw [h1] at h; cases h
   | some c=>
    cases h2 : av6 r with
    | none=>rw [h1,h2] at h; cases h
    | some l=>
     rw [h1,h2] at h
     simp only [Option.some.injEq] at h
     subst h
     have h3:=c40 (hk 0) h1
     have h4:=ih (by simpa using hl) (fun i=>hk (i + 1)) h2
     refine ⟨?_,?_⟩
     ·have e0 : v = av7 β c:=h3.1
      rw [List.map_cons,← h4.1,← e0]
     intro b hb
     rcases List.mem_cons.1 hb with e | hb
     ·exact h3.2 b e.symm
     exact h4.2 b hb
def bu9 (fn : Fn) (first : Array Operand) (caps : List (Option SV)) : Option Eff:=
 match fn,first.toList with
 | .func g,[]=>(av6 caps).map fun l=>.put (.one (.fn g l)) []
 | _,_=>none
theorem cd8 {fn : Fn} {first cap : Array Operand} {f : Operand → Option SV} {s : SV} {vc : List Prop} (hx : ∀ x,x ∈ cap.toList → Kn β m (f x) (ρ x)) (h : bu9 fn first (cap.toList.map f) = some (.put s vc)) :
  af0 P ρ (.makeFunc fn first cap) ty w (s.den β) ∧ s.Ok m:=by
 unfold bu9 at h
 split at h
 ·rename_i g hf
  have hf' : first = #[]:=by simpa using hf
  subst hf'
  cases hc : av6 (cap.toList.map f) with
  | none=>rw [hc] at h; cases h
  | some l=>
   rw [hc] at h
   simp only [Option.map_some,Option.some.injEq] at h
   obtain ⟨rfl,rfl⟩:=G4 h
   have hk:=cw5 (β:=β) (m:=m) (vs:=cap.toList.map ρ) (by simp) (fun i=>by
    simp only [List.getD_eq_getElem?_getD,List.getElem?_map]
    cases hi : cap.toList[i]? with
    | none=>intro s hs; simp at hs
    | some x=>simpa using hx x (List.mem_of_getElem? hi)) hc
   refine ⟨fun d pos aft g=>?_,hk.2⟩
   have e : Array.map ρ cap = (l.map (av7 β)).toArray:=by rw [← hk.1,← Array.toList_map,Array.toArray_toList]
   simp [execOp,Instr.makeFunc,SV.den,Ch.den,e]
 cases h
def a92 (E : Env) (T : TypeId) (f : Nat) : Option SV → Option Eff
 | some (.one (.ptr b o))=>match D1 E T with
  | .struct fs=>match (fs[f]? : Option (Nat × Nat × Bool)) with
   | some p=>bif Nat.beq p.2.1 0 then none else some (.put (.one (.ptr b (o + p.1))) [])
   | none=>none
  | _=>none
 | _=>none
theorem R4 (g o k : Nat) : (⟨g,o,none⟩ : Addr).add k = ⟨g,o + k,none⟩:=by
 unfold Addr.add
 split <;> simp_all
theorem bs1 {T : TypeId} {f : Nat} {x : Operand} {xs : Option SV} {s : SV} {vc : List Prop} (hE : EnvOk P E) (hx : Kn β m xs (ρ x)) (h : a92 E T f xs = some (.put s vc)) :
  af0 P ρ (.fieldAddr T x f) ty w (s.den β) ∧ s.Ok m:=by
 have h2:=D8 (t:=T) hE
 unfold a92 at h
 split at h <;> first | (cases h; done) | skip
 rename_i b o
 have h1:=hx _ rfl
 split at h <;> first | (cases h; done) | skip
 rename_i fs e1
 rw [e1] at h2
 obtain ⟨fl,h3,h4,h5⟩:=h2
 split at h <;> first | (cases h; done) | skip
 rename_i p e2
 obtain ⟨fd,i,h6,h7,h8,h9,h10⟩:=bb1 h4 f p e2
 cases hz : Nat.beq p.2.1 0 with
 | true=>rw [hz] at h; cases h
 | false=>
  rw [hz] at h
  simp only [cond_false,Option.some.injEq] at h
  obtain ⟨rfl,rfl⟩:=G4 h
  refine ⟨fun d pos aft g=>?_,h1.2⟩
  have hf : fl[f]? = some fd:=by simpa using h6
  have hn : i.size ≠ 0:=by rw [h9]; intro e; rw [e] at hz; cases hz
  simp [execOp,h1.1,SV.den,Ch.den,Instr.fieldAt,run_underlying h3,hf,Instr.sureAddr,fieldPlace,sizeOf,typeInfo,h8,hn,h7,R4]
def bh0 (E : Env) (T : TypeId) (f : Nat) : Option SV → Option Eff
 | some (.agg l)=>match D1 E T with
  | .struct fs=>match (fs[f]? : Option (Nat × Nat × Bool)) with
   | some p=>((ldL l p.1 p.2.1).bind (mkV p.2.2)).map fun s=>.put s []
   | none=>none
  | _=>none
 | _=>none
theorem dd9 {t : TypeId} {i : TypeInfo} (h : P.info? t = some i) : (sizeOf t).run P w = .ok i.size w:=by simp [sizeOf,typeInfo,h]
theorem cl3 {t : TypeId} {g : Bool} (h : ba2 (P.underlying t) = some g) : (isAgg t).run P w = .ok g w:=by
 cases hu : P.underlying t with
 | none=>rw [hu] at h; cases h
 | some d=>
  rw [hu] at h
  cases d <;> simp [ba2] at h <;> subst h <;> simp [isAgg,run_underlying hu]
theorem b50 {t : TypeId} {l l' : List Ch} {o sz : Nat} {g : Bool} {s : SV} {i : TypeInfo} (hi : P.info? t = some i) (hs : i.size = sz) (hg : ba2 (P.underlying t) = some g) (hok : ∀ c ∈ l,c.Ok m)
  (h1 : ldL l o sz = some l') (h2 : mkV g l' = some s) : (part t (d6 β l).toArray o).run P w = .ok (s.den β) w ∧ s.Ok m:=by
 obtain ⟨e1,e2,e3⟩:=b86 (β:=β) h1 hok
 obtain ⟨e4,e5,e6⟩:=de2 (β:=β) h2 e3
 refine ⟨?_,e4⟩
 cases g with
 | true=>
  have e7 : (d6 β l).toArray.extract o (o + sz) = (d6 β l').toArray:=by
   rw [← e1]
   apply Array.toList_inj.1
   simp [List.extract_eq_take_drop]
  simp only [part,Sem.run_bind,cl3 hg,Result.andThen,dd9 hi,hs,if_true,Sem.run_pure,e7,e5 rfl]
 | false=>
  have e7:=e6 rfl
  rw [e7] at e1 e2
  have e8 : (d6 β l)[o]? = some (s.den β):=by
   have : (((d6 β l).drop o).take sz)[0]? = some (s.den β):=by rw [e1]; rfl
   rw [List.getElem?_take] at this
   split at this
   ·simpa using this
   cases this
  simp [part,cl3 hg,e8]
theorem b17 {T : TypeId} {f : Nat} {x : Operand} {xs : Option SV} {s : SV} {vc : List Prop} (hE : EnvOk P E) (hx : Kn β m xs (ρ x)) (h : bh0 E T f xs = some (.put s vc)) :
  af0 P ρ (.field T x f) ty w (s.den β) ∧ s.Ok m:=by
 have h2:=D8 (t:=T) hE
 unfold bh0 at h
 split at h <;> first | (cases h; done) | skip
 rename_i l
 have h1:=hx _ rfl
 split at h <;> first | (cases h; done) | skip
 rename_i fs e1
 rw [e1] at h2
 obtain ⟨fl,h3,h4,h5⟩:=h2
 split at h <;> first | (cases h; done) | skip
 rename_i p e2
 obtain ⟨fd,i,h6,h7,h8,h9,h10⟩:=bb1 h4 f p e2
 have h11:=ar2 h
 cases hl : ldL l p.1 p.2.1 with
 | none=>rw [hl] at h11; cases h11
 | some l'=>
  rw [hl] at h11
  simp only [Option.bind_some] at h11
  obtain ⟨h12,h13⟩:=b50 (P:=P) (w:=w) (β:=β) h8 h9 h10 h1.2 hl h11
  refine ⟨fun d pos aft g=>?_,h13⟩
  have hf : fl[f]? = some fd:=by simpa using h6
  simp [execOp,h1.1,SV.den,Instr.field,run_underlying h3,hf,asAgg,h7,h12]
def a59 (E : Env) (T : TypeId) : Option SV → Option SV → Option Eff
 | some (.one (.ptr b o)),some (.one (.lit _ z))=>match D1 E T with
  | .array n e=>match E.get e with
   | some ti=>bif decide (0 ≤ z) && decide (z < n) then some (.put (.one (.ptr b (o + z.toNat * ti.size))) []) else none
   | none=>none
  | _=>none
 | some (.one (.win b o n c)),some (.one (.lit _ z))=>match D1 E T with
  | .slice e=>match E.get e with
   | some ti=>bif decide (0 ≤ z) && decide (z < n) then some (.put (.one (.ptr b (o + z.toNat * ti.size))) []) else none
   | none=>none
  | _=>none
 | _,_=>none
theorem br7 {T : TypeId} {x y : Operand} {xs ys : Option SV} {s : SV} {vc : List Prop} (hE : EnvOk P E) (hx : Kn β m xs (ρ x)) (hy : Kn β m ys (ρ y)) (h : a59 E T xs ys = some (.put s vc)) :
  af0 P ρ (.indexAddr T x y) ty w (s.den β) ∧ s.Ok m:=by
 have h2:=D8 (t:=T) hE
 unfold a59 at h
 have fin : ∀ {z : Int} {n b o : Nat} {e : TypeId} {ti : TI},(bif decide (0 ≤ z) && decide (z < n) then some (Eff.put (.one (.ptr b (o + z.toNat * ti.size))) []) else none) = some (.put s vc) →
   (0 ≤ z ∧ z < n) ∧ s = .one (.ptr b (o + z.toNat * ti.size)):=by
  intro z n b o e ti h
  by_cases hr : 0 ≤ z ∧ z < n
  ·rw [decide_eq_true hr.1,decide_eq_true hr.2] at h
   simp only [Bool.and_self,cond_true,Option.some.injEq] at h
   exact ⟨hr,(G4 h).1.symm⟩
  exfalso
  have : (decide (0 ≤ z) && decide (z < n)) = false:=by
   rw [Bool.and_eq_false_iff,decide_eq_false_iff_not,decide_eq_false_iff_not]
   exact Decidable.not_and_iff_or_not.1 hr
  rw [this] at h
  cases h
 split at h <;> first | (cases h; done) | skip
 ·have h1:=hx _ rfl
  have h3:=hy _ rfl
  split at h <;> first | (cases h; done) | skip
  rename_i e1
  rw [e1] at h2
  split at h <;> first | (cases h; done) | skip
  rename_i ti e2
  obtain ⟨zz,hty,_⟩:=(hE.get e2).ty
  obtain ⟨hr,rfl⟩:=fin (e:=0) h
  refine ⟨fun d pos aft g=>?_,h1.2⟩
  simp [execOp,h1.1,h3.1,SV.den,Ch.den,Instr.indexAt,asIntOf,run_underlying h2,Instr.sureAddr,hr.1,hr.2,hty.runSize w,R4]
 have h1:=hx _ rfl
 have h3:=hy _ rfl
 split at h <;> first | (cases h; done) | skip
 rename_i e1
 rw [e1] at h2
 split at h <;> first | (cases h; done) | skip
 rename_i ti e2
 obtain ⟨zz,hty,_⟩:=(hE.get e2).ty
 obtain ⟨hr,rfl⟩:=fin (e:=0) h
 refine ⟨fun d pos aft g=>?_,h1.2⟩
 simp [execOp,h1.1,h3.1,SV.den,Ch.den,Instr.indexAt,asIntOf,run_underlying h2,Instr.sureAddr,hr.1,hr.2,hty.runSize w,R4]
def bh9 (E : Env) (T : TypeId) : Option SV → Option SV → Option Eff
 | some (.agg l),some (.one (.lit _ z))=>match D1 E T with
  | .array n e=>match E.get e with
   | some ti=>bif decide (0 ≤ z) && decide (z < n) then ((ldL l (z.toNat * ti.size) ti.size).bind (mkV ti.agg)).map fun s=>.put s [] else none
   | none=>none
  | _=>none
 | _,_=>none
theorem bx3 {T : TypeId} {x y : Operand} {xs ys : Option SV} {s : SV} {vc : List Prop} (hE : EnvOk P E) (hx : Kn β m xs (ρ x)) (hy : Kn β m ys (ρ y)) (h : bh9 E T xs ys = some (.put s vc)) :
  af0 P ρ (.index T x y) ty w (s.den β) ∧ s.Ok m:=by
 have h2:=D8 (t:=T) hE
 unfold bh9 at h
 split at h <;> first | (cases h; done) | skip
 have h1:=hx _ rfl
 have h3:=hy _ rfl
 split at h <;> first | (cases h; done) | skip
 rename_i e1
 rw [e1] at h2
 split at h <;> first | (cases h; done) | skip
 rename_i l k z _ n e _ ti e2
 obtain ⟨zz,hty,_⟩:=(hE.get e2).ty
 by_cases hr : 0 ≤ z ∧ z < n
 ·rw [decide_eq_true hr.1,decide_eq_true hr.2] at h
  simp only [Bool.and_self,cond_true] at h
  have h11:=ar2 h
  cases hl : ldL l (z.toNat * ti.size) ti.size with
  | none=>rw [hl] at h11; cases h11
  | some l'=>
   rw [hl] at h11
   simp only [Option.bind_some] at h11
   obtain ⟨i,hi,hi2,_⟩:=hty.ex
   obtain ⟨h12,h13⟩:=b50 (P:=P) (w:=w) (β:=β) hi hi2 hty.aggp h1.2 hl h11
   refine ⟨fun d pos aft g=>?_,h13⟩
   simp [execOp,h1.1,h3.1,SV.den,Ch.den,Instr.index,asIntOf,run_underlying h2,hr.1,hr.2,hty.runSize w,h12]
 exfalso
 have : (decide (0 ≤ z) && decide (z < n)) = false:=by
  rw [Bool.and_eq_false_iff,decide_eq_false_iff_not,decide_eq_false_iff_not]
  exact Decidable.not_and_iff_or_not.1 hr
 rw [this] at h
 cases h
def de8 : Bool × List Ch → Option SV
 | (true,l)=>some (.agg l)
 | (false,[c])=>some (.one c)
 | _=>none
def aw2 (i : Nat) : Option SV → Option Eff
 | some (.tup l)=>match (l[i]? : Option (Bool × List Ch)) with | some p=>(de8 p).map fun s=>.put s [] | none=>none
 | _=>none
theorem bn2 {i : Nat} {x : Operand} {xs : Option SV} {s : SV} {vc : List Prop} (hx : Kn β m xs (ρ x)) (h : aw2 i xs = some (.put s vc)) :
  af0 P ρ (.extract x i) ty w (s.den β) ∧ s.Ok m:=by
 unfold aw2 at h
 split at h <;> first | (cases h; done) | skip
 rename_i l
 have h1:=hx _ rfl
 split at h <;> first | (cases h; done) | skip
 rename_i p hp
 have h2:=ar2 h
 have hok:=h1.2 p (List.mem_of_getElem? hp)
 have hd : s.den β = ar6 β p ∧ s.Ok m:=by
  unfold de8 at h2
  split at h2 <;> first | (cases h2; done) | skip
  ·simp only [Option.some.injEq] at h2; subst h2; exact ⟨rfl,hok⟩
  simp only [Option.some.injEq] at h2; subst h2; exact ⟨rfl,hok _ (List.mem_cons_self ..)⟩
 refine ⟨fun d pos aft g=>?_,hd.2⟩
 have h1' : ρ x = .tuple (l.map (ar6 β)).toArray:=h1.1
 simp [execOp,h1',Instr.extract,hp,hd.1]
def cc2 : Option SV → Option Eff
 | some (.one (.ptr b o))=>some (.put (.one (.ptr b o)) [])
 | _=>none
theorem cw6 {x : Operand} {xs : Option SV} {s : SV} {vc : List Prop} (hx : Kn β m xs (ρ x)) (h : cc2 xs = some (.put s vc)) :
  af0 P ρ (.nilCheck x) ty w (s.den β) ∧ s.Ok m:=by
 unfold cc2 at h
 split at h <;> first | (cases h; done) | skip
 have h1:=hx _ rfl
 simp only [Option.some.injEq] at h
 obtain ⟨rfl,rfl⟩:=G4 h
 refine ⟨fun d pos aft g=>?_,h1.2⟩
 simp [execOp,h1.1,SV.den,Ch.den]
end
def HE.mine (b : Nat) : HE → Nat → Prop
 | .blk _ _,k=>k = b
 | .row _ _ v _ _,k=>v.ownBlock = some k
 | .gone,_=>False
 | .abs A,k=>A.Q k
 | .hid _ _,k=>k = b
def m9 (β : Nat → Nat) (hp : List HE) (i k : Nat) : Prop:=∃ e,hp[i]? = some e ∧ e.mine (β i) k
theorem P8 {β : Nat → Nat} {hp : List HE} {i k : Nat} {e : HE} (h : hp[i]? = some e) : m9 β hp i k ↔ e.mine (β i) k:=by
 unfold m9
 rw [h]
 exact ⟨fun ⟨e',h1,h2⟩=>by cases h1; exact h2,fun h=>⟨e,rfl,h⟩⟩
theorem af8 {β : Nat → Nat} {hp : List HE} {i k : Nat} (h : hp[i]? = none) : ¬ m9 β hp i k:=by
 unfold m9
 rw [h]
 rintro ⟨e,h1,_⟩
 cases h1
structure Mem (base : Bs) (hp : List HE) (β : Nat → Nat) (w : World) : Prop where
 blk : ∀ (i : Nat) (T : TypeId) (l : List Ch),hp[i]? = some (HE.blk T l) → Blk w (β i) T (d6 β l) ∧ ∀ c ∈ l,c.Ok hp.length
 row : ∀ (i : Nat) (T : TypeId) (s : Nat) (v : Value) (n : Nat) (cs : List Value),hp[i]? = some (HE.row T s v n cs) → Own 0 T s w v n cs
 abs : ∀ (i : Nat) (A : AbsE),hp[i]? = some (HE.abs A) → A.R w
 low : ∀ i k,m9 β hp i k → (base.n ≤ k ∨ ¬ base.K k) ∧ k < w.heap.size
 apart : ∀ i j k,m9 β hp i k → m9 β hp j k → i = j
def Sof (S0 : Nat → Prop) (β : Nat → Nat) (hp : List HE) : Nat → Prop:=fun k=>S0 k ∧ ∀ i,¬ m9 β hp i k
section
variable {P : Program} {E : Env} {β : Nat → Nat} {m : Nat} {w : World} {ty : TypeId} {ρ : Operand → Value}
def a02 (E : Env) (hp : List HE) (T : TypeId) : Option SV → Option Eff
 | some (.one (.ptr b o))=>match E.get T,nth hp b with
  | some ti,some (.blk _ l)=>((ldL l o ti.size).bind (mkV ti.agg)).map fun s=>.put s []
  | _,_=>none
 | _=>none
theorem b40 {T : TypeId} {ti : TI} {g o : Nat} {T' : TypeId} {l l' : List Ch} {s : SV} (hT : TyOk P T ti) (hb : Blk w g T' (d6 β l)) (hok : ∀ c ∈ l,c.Ok m) (h1 : ldL l o ti.size = some l') (h2 : mkV ti.agg l' = some s) :
  (loadVar T ⟨g,o,none⟩).run P w = .ok (s.den β) w ∧ s.Ok m:=by
 obtain ⟨e1,e2,e3⟩:=b86 (β:=β) h1 hok
 obtain ⟨e4,e5,e6⟩:=de2 (β:=β) h2 e3
 obtain ⟨z,hty,_⟩:=hT.ty
 have hcell : ∀ i,i < (d6 β l').length → w.cell? ⟨g,o + i,none⟩ = (d6 β l')[i]?:=by
  intro i hi
  have h3 : (d6 β l')[i]? = (d6 β l)[o + i]?:=by
   rw [← e1,List.getElem?_take,if_pos (by omega),List.getElem?_drop]
  rw [h3]
  have h4 : o + i < (d6 β l).length:=by
   have : (d6 β l')[i]? ≠ none:=by simp; omega
   rw [h3] at this
   simpa using this
  rw [List.getElem?_eq_getElem h4]
  exact hb.cell (List.getElem?_eq_getElem h4)
 refine ⟨?_,e4⟩
 cases hg : ti.agg with
 | true=>
  rw [hg] at hty
  rw [e5 hg]
  exact aq5 hty e2 hcell
 | false=>
  rw [hg] at hty
  have e7:=e6 hg
  have h5:=hcell 0 (by rw [e7]; simp)
  rw [e7] at h5
  exact Z9 hty (by simpa using h5)
theorem ax3 {base : Bs} {hp : List HE} {T : TypeId} {x : Operand} {xs : Option SV} {s : SV} {vc : List Prop} (hE : EnvOk P E) (hm : Mem base hp β w) (hx : Kn β m xs (ρ x)) (h : a02 E hp T xs = some (.put s vc)) :
  (∀ d pos aft g,(execOp ρ ⟨d,.load T x,ty,pos,aft,g⟩).run P w = .ok (.value (s.den β)) w) ∧ s.Ok hp.length:=by
 unfold a02 at h
 split at h <;> first | (cases h; done) | skip
 rename_i b o
 have h1:=(hx _ rfl).1
 split at h <;> first | (cases h; done) | skip
 rename_i ti T' l e1 e2
 have h11:=ar2 h
 rw [M5] at e2
 obtain ⟨hb,hok⟩:=hm.blk b T' l e2
 cases hl : ldL l o ti.size with
 | none=>rw [hl] at h11; cases h11
 | some l'=>
  rw [hl] at h11
  simp only [Option.bind_some] at h11
  obtain ⟨h2,h3⟩:=b40 (P:=P) (hE.get e1) hb hok hl h11
  refine ⟨fun d pos aft g=>?_,h3⟩
  simp [execOp,h1,SV.den,Ch.den,Instr.loadAt,Instr.sureAddr,h2]
def bj5 (E : Env) (hp : List HE) (T : TypeId) : Option SV → Option SV → Option Eff
 | some (.one (.ptr b o)),some y=>match E.get T,nth hp b,y.chunks with
  | some ti,some (.blk _ l),some new=>bif Nat.beq (Y2 new) ti.size then (stL l o ti.size new).map fun l'=>.wr b l' else none
  | _,_,_=>none
 | _,_=>none
theorem b14 {base : Bs} {hp : List HE} {T : TypeId} {x y : Operand} {xs ys : Option SV} {b : Nat} {l' : List Ch} (hE : EnvOk P E) (hm : Mem base hp β w) (hx : Kn β hp.length xs (ρ x)) (hy : Kn β hp.length ys (ρ y))
  (h : bj5 E hp T xs ys = some (.wr b l')) : ∃ T' l w',hp[b]? = some (HE.blk T' l) ∧ (∀ c ∈ l',c.Ok hp.length) ∧ Wrt (β b) w w' ∧ Blk w' (β b) T' (d6 β l') ∧
   ∀ d pos aft g,(execOp ρ ⟨d,.store T x y,ty,pos,aft,g⟩).run P w = .ok .skip w':=by
 unfold bj5 at h
 split at h <;> first | (cases h; done) | skip
 rename_i b' o yv
 have h1:=(hx _ rfl).1
 have h2:=hy _ rfl
 split at h <;> first | (cases h; done) | skip
 rename_i ti T' l new e1 e2 e3
 cases hs : Nat.beq (Y2 new) ti.size with
 | false=>rw [hs] at h; cases h
 | true=>
  rw [hs] at h
  simp only [cond_true] at h
  cases hst : stL l o ti.size new with
  | none=>rw [hst] at h; cases h
  | some l2=>
   rw [hst] at h
   simp only [Option.map_some,Option.some.injEq] at h
   cases h
   rw [M5] at e2
   obtain ⟨hb,hok⟩:=hm.blk b T' l e2
   obtain ⟨h3,h4⟩:=SV.chunks_ok (β:=β) e3 h2.2
   obtain ⟨h5,h6,h7⟩:=bg4 (β:=β) hst hok h4
   obtain ⟨z,hty,_⟩:=(hE.get e1).ty
   have hlen:=O0 (β:=β) h4
   have hsz:=Nat.eq_of_beq_eq_true hs
   have h8:=run_storeCells_at P (β b) o T' (d6 β new) 0 (d6 β l).toArray w hb (by simp; omega) (S9 h4)
   have e9 : ((d6 β l).toArray.toList.take (o + 0) ++ d6 β new ++ (d6 β l).toArray.toList.drop (o + 0 + (d6 β new).length)).toArray = (d6 β l').toArray:=by
    rw [← h5]
    simp [hlen,hsz]
   rw [e9] at h8
   refine ⟨T',l,w.setRow (β b) (d6 β l').toArray,e2,h7,⟨rfl,rfl,rfl,by simp [World.setRow],fun k _ hk=>setRow_other w _ k _ hk⟩,setRow_heap w _ _ _ T' (0,0) hb,fun d pos aft g=>?_⟩
   have e10 : (d6 β new).length = ti.size:=by omega
   have h11 : ρ x = .pointer (some ⟨β b,o,none⟩):=h1
   simp [execOp,h11,h2.1,Instr.storeAt,Instr.sureAddr,storeVar,hty.runSize w,h3,e10,h8]
def bf4 (T : TypeId) (k : Nat) : Option SV → Option Eff
 | some x=>x.chunks.map fun l=>.mk T l (.one (.ptr k 0))
 | none=>none
theorem bq8 {T : TypeId} {k : Nat} {x : Operand} {xs : Option SV} {T' : TypeId} {l : List Ch} {s : SV} (hx : Kn β m xs (ρ x)) (h : bf4 T k xs = some (.mk T' l s)) :
  T' = T ∧ s = .one (.ptr k 0) ∧ (∀ c ∈ l,c.Ok m) ∧ ∀ d pos aft g,(execOp ρ ⟨d,.box T x,ty,pos,aft,g⟩).run P w = .ok (.value (.pointer (some ⟨w.heap.size,0,none⟩))) (w.alloc (.cells (d6 β l).toArray T)):=by
 unfold bf4 at h
 split at h <;> first | (cases h; done) | skip
 rename_i xv
 have h1:=hx _ rfl
 cases hc : xv.chunks with
 | none=>rw [hc] at h; cases h
 | some l2=>
  rw [hc] at h
  simp only [Option.map_some,Option.some.injEq] at h
  cases h
  obtain ⟨h3,h4⟩:=SV.chunks_ok (β:=β) hc h1.2
  exact ⟨rfl,rfl,h4,fun d pos aft g=>by simp [execOp,h1.1,Instr.box,newVar,newRow,h3]⟩
def ap9 (E : Env) (T : TypeId) (k : Nat) : Option Eff:=(E.get T).map fun ti=>.mk T ti.zero (.one (.ptr k 0))
theorem a95 {T : TypeId} {k : Nat} {T' : TypeId} {l : List Ch} {s : SV} (hE : EnvOk P E) (h : ap9 E T k = some (.mk T' l s)) :
  T' = T ∧ s = .one (.ptr k 0) ∧ (∀ c ∈ l,c.Ok m) ∧ ∀ d pos aft g,(execOp ρ ⟨d,.alloc T,ty,pos,aft,g⟩).run P w = .ok (.value (.pointer (some ⟨w.heap.size,0,none⟩))) (w.alloc (.cells (d6 β l).toArray T)):=by
 unfold ap9 at h
 cases ht : E.get T with
 | none=>rw [ht] at h; cases h
 | some ti=>
  rw [ht] at h
  simp only [Option.map_some,Option.some.injEq] at h
  cases h
  have hok:=(hE.get ht).ok
  obtain ⟨z,hty,hz⟩:=(hE.get ht).ty
  have e : d6 (fun _=>0) ti.zero = d6 β ti.zero:=J0 (m:=0) (fun i hi=>absurd hi (Nat.not_lt_zero i)) hok
  rw [e] at hz
  exact ⟨rfl,rfl,fun c hc=>(hok c hc).le (Nat.zero_le _),fun d pos aft g=>by simp [execOp,Instr.alloc,hty.runZero w,newVar,newRow,hz]⟩
def ba1 (pl : Nat → Option (Nat × Nat)) : List Ch → List (Nat × Option SV) → Option (List Ch)
 | l,[]=>some l
 | l,(i,x) :: r=>match pl i,x.bind SV.chunks with
  | some (o,sz),some new=>bif Nat.beq (Y2 new) sz then (stL l o sz new).bind fun l'=>ba1 pl l' r else none
  | _,_=>none
theorem b73 : ∀ (vs : List Value) (cs : Array Value) (o : Nat) (k : Nat),o + k + vs.length ≤ cs.size →
  ((vs.zipIdx k).foldl (fun cs (p : Value × Nat)=>cs.setIfInBounds (o + p.2) p.1) cs).toList = cs.toList.take (o + k) ++ vs ++ cs.toList.drop (o + k + vs.length):=by
 intro vs
 induction vs with
 | nil=>intro cs o k h; simp
 | cons v r ih=>
  intro cs o k h
  simp only [List.zipIdx_cons,List.foldl_cons,List.length_cons] at h ⊢
  rw [ih _ o (k + 1) (by simp; omega)]
  simp only [Array.toList_setIfInBounds]
  have h1 : (cs.toList.set (o + k) v).take (o + (k + 1)) = cs.toList.take (o + k) ++ [v]:=by
   rw [show o + (k + 1) = o + k + 1 by omega,List.take_add_one,List.take_set_of_le (Nat.le_refl _),List.getElem?_set_self (by simp; omega)]
   rfl
  have h2 : (cs.toList.set (o + k) v).drop (o + (k + 1) + r.length) = cs.toList.drop (o + k + (r.length + 1)):=by
   rw [List.drop_set_of_lt (by omega)]
   congr 1
   omega
  rw [h1,h2]
  simp
theorem b37 {pl : Nat → Option (Nat × Nat)} : ∀ {ps : List (Nat × Option SV)} {vs : List (Nat × Value)} {l l' : List Ch},ps.length = vs.length → (∀ (i : Nat) (p : Nat × Option SV) (v : Nat × Value),ps[i]? = some p → vs[i]? = some v → p.1 = v.1 ∧ Kn β m p.2 v.2) →
  (∀ c ∈ l,c.Ok m) → ba1 pl l ps = some l' → Instr.fill pl (d6 β l).toArray vs = some (d6 β l').toArray ∧ ∀ c ∈ l',c.Ok m:=by
 intro ps
 induction ps with
 | nil=>
  intro vs l l' hl hk hok h
  simp only [ba1,Option.some.injEq] at h
  subst h
  cases vs with
  | nil=>exact ⟨rfl,hok⟩
  | cons v r=>simp at hl
 | cons p r ih=>
  intro vs l l' hl hk hok h
  obtain ⟨i,x⟩:=p
  cases vs with
  | nil=>simp at hl
  | cons v vr=>
   obtain ⟨i',v⟩:=v
   obtain ⟨h1,h2⟩:=hk 0 _ _ rfl rfl
   simp only at h1 h2
   subst h1
   simp only [ba1] at h
   split at h <;> first | (cases h; done) | skip
   rename_i o sz new e1 e2
   cases hs : Nat.beq (Y2 new) sz with
   | false=>rw [hs] at h; cases h
   | true=>
    rw [hs] at h
    simp only [cond_true] at h
    cases hst : stL l o sz new with
    | none=>rw [hst] at h; cases h
    | some l2=>
     rw [hst] at h
     simp only [Option.bind_some] at h
     cases x with
     | none=>cases e2
     | some xv=>
      simp only [Option.bind_some] at e2
      obtain ⟨h3,h4⟩:=h2 _ rfl
      obtain ⟨h5,h6⟩:=SV.chunks_ok (β:=β) e2 h4
      obtain ⟨h7,h8,h9⟩:=bg4 (β:=β) hst hok h6
      have hlen:=O0 (β:=β) h6
      have hsz:=Nat.eq_of_beq_eq_true hs
      obtain ⟨h10,h11⟩:=ih (vs:=vr) (by simpa using hl) (fun j p v hp hv=>hk (j + 1) p v (by simpa using hp) (by simpa using hv)) h9 h
      refine ⟨?_,h11⟩
      rw [Instr.fill]
      simp only [e1]
      rw [h3,h5]
      have hno : ((d6 β new).toArray.size ≠ sz || decide (o + (d6 β new).toArray.size > (d6 β l).toArray.size)) = false:=by
       simp
       omega
      rw [if_neg (by rw [hno]; simp),← h10]
      congr 1
      apply Array.toList_inj.1
      have hf:=b73 (d6 β new) (d6 β l).toArray o 0 (by simp; omega)
      rw [← Array.foldl_toList]
      simp only [Array.toList_zipIdx,List.toList_toArray] at hf ⊢
      rw [hf,← h7]
      simp
      omega
def d52 (fs : List (Nat × Nat × Bool)) (i : Nat) : Option (Nat × Nat):=(fs[i]?).map fun p=>(p.1,p.2.1)
def bk9 (E : Env) (T : TypeId) (ps : List (Nat × Option SV)) : Option Eff:=
 match E.get T with
 | some ti=>match ti.kind with
  | .struct fs=>(ba1 (d52 fs) ti.zero ps).map fun l=>.put (.agg l) []
  | .array _ e=>match E.get e with
   | some te=>(ba1 (fun i=>some (i * te.size,te.size)) ti.zero ps).map fun l=>.put (.agg l) []
   | none=>none
  | _=>none
 | none=>none
theorem b25 {T : TypeId} {parts : Array (Nat × Operand)} {f : Operand → Option SV} {s : SV} {vc : List Prop} (hE : EnvOk P E) (hx : ∀ p ∈ parts.toList,Kn β m (f p.2) (ρ p.2))
  (h : bk9 E T (parts.toList.map fun p=>(p.1,f p.2)) = some (.put s vc)) : af0 P ρ (.build T parts) ty w (s.den β) ∧ s.Ok m:=by
 unfold bk9 at h
 split at h <;> first | (cases h; done) | skip
 rename_i ti e1
 obtain ⟨z,hty,hz⟩:=(hE.get e1).ty
 have hok:=(hE.get e1).ok
 have hkd:=(hE.get e1).kind
 have e : d6 (fun _=>0) ti.zero = d6 β ti.zero:=J0 (m:=0) (fun i hi=>absurd hi (Nat.not_lt_zero i)) hok
 rw [e] at hz
 have hk2 : ∀ (i : Nat) (p : Nat × Option SV) (v : Nat × Value),(parts.toList.map fun p=>(p.1,f p.2))[i]? = some p → (parts.toList.map fun p=>(p.1,ρ p.2))[i]? = some v → p.1 = v.1 ∧ Kn β m p.2 v.2:=by
  intro i p v hp hv
  simp only [List.getElem?_map] at hp hv
  cases hi : parts.toList[i]? with
  | none=>rw [hi] at hp; cases hp
  | some q=>
   rw [hi] at hp hv
   simp only [Option.map_some,Option.some.injEq] at hp hv
   subst hp hv
   exact ⟨rfl,hx q (List.mem_of_getElem? hi)⟩
 have hok' : ∀ c ∈ ti.zero,c.Ok m:=fun c hc=>(hok c hc).le (Nat.zero_le _)
 split at h <;> first | (cases h; done) | skip
 ·rename_i fs e2
  rw [e2] at hkd
  obtain ⟨fl,h3,h4,h5⟩:=hkd
  cases hf : ba1 (d52 fs) ti.zero (parts.toList.map fun p=>(p.1,f p.2)) with
  | none=>rw [hf] at h; cases h
  | some l=>
   rw [hf] at h
   simp only [Option.map_some,Option.some.injEq] at h
   obtain ⟨rfl,rfl⟩:=G4 h
   obtain ⟨h6,h7⟩:=b37 (β:=β) (m:=m) (vs:=parts.toList.map fun p=>(p.1,ρ p.2)) (by simp) hk2 hok' hf
   refine ⟨fun d pos aft g=>?_,h7⟩
   have h8 : Instr.fill (fun i=>Option.map (fun p : Nat × Nat × Bool=>(p.1,p.2.1)) fs[i]?) (d6 β ti.zero).toArray (parts.toList.map fun p=>(p.1,ρ p.2)) = some (d6 β l).toArray:=h6
   simp [execOp,Instr.build,hty.runZero w,run_underlying h3,h5,hz,h8,SV.den]
 rename_i n e0 e2
 rw [e2] at hkd
 split at h <;> first | (cases h; done) | skip
 rename_i te e3
 obtain ⟨ze,htye,_⟩:=(hE.get e3).ty
 cases hf : ba1 (fun i=>some (i * te.size,te.size)) ti.zero (parts.toList.map fun p=>(p.1,f p.2)) with
 | none=>rw [hf] at h; cases h
 | some l=>
  rw [hf] at h
  simp only [Option.map_some,Option.some.injEq] at h
  obtain ⟨rfl,rfl⟩:=G4 h
  obtain ⟨h6,h7⟩:=b37 (β:=β) (m:=m) (vs:=parts.toList.map fun p=>(p.1,ρ p.2)) (by simp) hk2 hok' hf
  refine ⟨fun d pos aft g=>?_,h7⟩
  have hkd' : P.underlying T = some (.array n e0):=hkd
  simp [execOp,Instr.build,hty.runZero w,run_underlying hkd',htye.runSize w,hz,h6,SV.den]
end
section
variable {P : Program} {E : Env} {β : Nat → Nat} {m : Nat} {w : World} {ty : TypeId} {ρ : Operand → Value}
def cf6 (sz : Nat) : Nat → List (Nat × Option SV) → Option (List Ch)
 | _,[]=>some []
 | i,(j,x) :: r=>match x.bind SV.chunks with
  | some new=>bif Nat.beq i j && Nat.beq (Y2 new) sz then (cf6 sz (i + 1) r).map (new ++ ·) else none
  | none=>none
theorem dg9 {sz : Nat} : ∀ {ps : List (Nat × Option SV)} {vs : List (Nat × Value)} {l : List Ch} {i : Nat} {arr : Array Value},ps.length = vs.length → (∀ (i : Nat) (p : Nat × Option SV) (v : Nat × Value),ps[i]? = some p → vs[i]? = some v → p.1 = v.1 ∧ Kn β m p.2 v.2) →
  arr.size = (i + ps.length) * sz → cf6 sz i ps = some l → Instr.fill (fun i=>some (i * sz,sz)) arr vs = some (arr.toList.take (i * sz) ++ d6 β l).toArray ∧ ∀ c ∈ l,c.Ok m:=by
 intro ps
 induction ps with
 | nil=>
  intro vs l i arr hl hk hz h
  simp only [cf6,Option.some.injEq] at h
  subst h
  cases vs with
  | nil=>
   refine ⟨?_,fun c hc=>by cases hc⟩
   simp only [Instr.fill,d6,List.flatMap_nil,List.append_nil]
   congr 1
   apply Array.toList_inj.1
   simp only [List.length_nil,Nat.add_zero] at hz
   simp only [List.toList_toArray]
   rw [List.take_of_length_le (by simp; omega)]
  | cons v r=>simp at hl
 | cons p r ih=>
  intro vs l i arr hl hk hz h
  obtain ⟨j,x⟩:=p
  cases vs with
  | nil=>simp at hl
  | cons v vr=>
   obtain ⟨j',v⟩:=v
   obtain ⟨h1,h2⟩:=hk 0 _ _ rfl rfl
   simp only at h1 h2
   subst h1
   simp only [cf6] at h
   split at h <;> first | (cases h; done) | skip
   rename_i new e2
   cases hs : (Nat.beq i j && Nat.beq (Y2 new) sz) with
   | false=>rw [hs] at h; cases h
   | true=>
    rw [hs] at h
    simp only [Bool.and_eq_true] at hs
    obtain rfl:=Nat.eq_of_beq_eq_true hs.1
    have hsz:=Nat.eq_of_beq_eq_true hs.2
    cases x with
    | none=>cases e2
    | some xv=>
     simp only [Option.bind_some] at e2
     obtain ⟨h3,h4⟩:=h2 _ rfl
     obtain ⟨h5,h6⟩:=SV.chunks_ok (β:=β) e2 h4
     have hlen:=O0 (β:=β) h6
     cases hr : cf6 sz (i + 1) r with
     | none=>rw [hr] at h; cases h
     | some l2=>
      rw [hr] at h
      simp only [cond_true,Option.map_some,Option.some.injEq] at h
      subst h
      have hz1 : arr.size = i * sz + sz + r.length * sz:=by
       rw [hz,List.length_cons,Nat.add_mul,Nat.add_mul,Nat.one_mul]; omega
      have hf:=b73 (d6 β new) arr (i * sz) 0 (by omega)
      have ih2:=ih (vs:=vr) (l:=l2) (i:=i + 1) (arr:=(arr.toList.take (i * sz) ++ d6 β new ++ arr.toList.drop (i * sz + sz)).toArray) (by simpa using hl) (fun j p v hp hv=>hk (j + 1) p v (by simpa using hp) (by simpa using hv)) (by
       simp only [List.size_toArray,List.length_append,List.length_take,List.length_drop,Array.length_toList,hlen,hsz]
       rw [show (i + 1 + r.length) * sz = i * sz + sz + r.length * sz by rw [Nat.add_mul,Nat.add_mul,Nat.one_mul]]
       omega) hr
      refine ⟨?_,?_⟩
      ·rw [Instr.fill]
       simp only
       rw [h3,h5]
       have hno : ((d6 β new).toArray.size ≠ sz || decide (i * sz + (d6 β new).toArray.size > arr.size)) = false:=by
        simp
        omega
       rw [if_neg (by rw [hno]; simp)]
       have e3 : Array.foldl (fun cs (x : Value × Nat)=>cs.setIfInBounds (i * sz + x.snd) x.fst) arr (d6 β new).toArray.zipIdx = (arr.toList.take (i * sz) ++ d6 β new ++ arr.toList.drop (i * sz + sz)).toArray:=by
        apply Array.toList_inj.1
        rw [← Array.foldl_toList]
        simp only [Array.toList_zipIdx,List.toList_toArray] at hf ⊢
        rw [hf]
        simp [hlen,hsz]
       rw [e3,ih2.1]
       congr 2
       rw [show (i + 1) * sz = i * sz + sz by rw [Nat.add_mul,Nat.one_mul]]
       have e4 : (arr.toList.take (i * sz) ++ d6 β new).length = i * sz + sz:=by
        simp only [List.length_append,List.length_take,Array.length_toList,hlen,hsz]
        omega
       rw [List.take_append,e4,Nat.sub_self,List.take_zero,List.append_nil,List.take_of_length_le (by omega)]
       simp [d6]
      intro c hc
      rcases List.mem_append.1 hc with hc | hc
      ·exact h6 c hc
      exact ih2.2 c hc
def bu1 (E : Env) (T : TypeId) (n k : Nat) (ps : List (Nat × Option SV)) : Option Eff:=
 match D1 E T with
 | .slice e=>match E.get e with
  | some te=>bif Nat.ble (n * te.size) 16777216 && Nat.beq ps.length n then (cf6 te.size 0 ps).map fun l=>.mk e l (.one (.win k 0 n n)) else none
  | none=>none
 | _=>none
theorem br1 {T T' : TypeId} {n k : Nat} {parts : Array (Nat × Operand)} {f : Operand → Option SV} {l : List Ch} {s : SV} (hE : EnvOk P E) (hx : ∀ p ∈ parts.toList,Kn β m (f p.2) (ρ p.2))
  (h : bu1 E T n k (parts.toList.map fun p=>(p.1,f p.2)) = some (.mk T' l s)) :
  s = .one (.win k 0 n n) ∧ (∀ c ∈ l,c.Ok m) ∧ ∀ d pos aft g,(execOp ρ ⟨d,.buildSlice T n parts,ty,pos,aft,g⟩).run P w = .ok (.value (.slice (some ⟨w.heap.size,0,none⟩) n n)) (w.alloc (.cells (d6 β l).toArray T')):=by
 have hkd:=D8 (t:=T) hE
 unfold bu1 at h
 split at h <;> first | (cases h; done) | skip
 rename_i e e1
 rw [e1] at hkd
 split at h <;> first | (cases h; done) | skip
 rename_i te e2
 obtain ⟨z,hty,hz⟩:=(hE.get e2).ty
 cases hb : (Nat.ble (n * te.size) 16777216 && Nat.beq (parts.toList.map fun p=>(p.1,f p.2)).length n) with
 | false=>rw [hb] at h; cases h
 | true=>
  rw [hb] at h
  simp only [Bool.and_eq_true] at hb
  have hle:=Nat.le_of_ble_eq_true hb.1
  have hlen:=Nat.eq_of_beq_eq_true hb.2
  cases hr : cf6 te.size 0 (parts.toList.map fun p=>(p.1,f p.2)) with
  | none=>rw [hr] at h; cases h
  | some l2=>
   rw [hr] at h
   simp only [cond_true,Option.map_some,Option.some.injEq] at h
   cases h
   have hk2 : ∀ (i : Nat) (p : Nat × Option SV) (v : Nat × Value),(parts.toList.map fun p=>(p.1,f p.2))[i]? = some p → (parts.toList.map fun p=>(p.1,ρ p.2))[i]? = some v → p.1 = v.1 ∧ Kn β m p.2 v.2:=by
    intro i p v hp hv
    simp only [List.getElem?_map] at hp hv
    cases hi : parts.toList[i]? with
    | none=>rw [hi] at hp; cases hp
    | some q=>
     rw [hi] at hp hv
     simp only [Option.map_some,Option.some.injEq] at hp hv
     subst hp hv
     exact ⟨rfl,hx q (List.mem_of_getElem? hi)⟩
   have hfill : ∀ arr : Array Value,arr.size = n * te.size → Instr.fill (fun i=>some (i * te.size,te.size)) arr (parts.toList.map fun p=>(p.1,ρ p.2)) = some (d6 β l).toArray ∧ ∀ c ∈ l,c.Ok m:=by
    intro arr ha
    have h1:=dg9 (β:=β) (m:=m) (vs:=parts.toList.map fun p=>(p.1,ρ p.2)) (arr:=arr) (by simp) hk2 (by rw [hlen,ha,Nat.zero_add]) hr
    simpa using h1
   refine ⟨rfl,(hfill (Array.replicate (n * te.size) undef) (by simp)).2,fun d pos aft g=>?_⟩
   have hkd' : P.underlying T = some (.slice T'):=hkd
   by_cases h0 : n * te.size = 0
   ·have hf:=(hfill (Array.map (fun _=>default) (Array.range 0)) (by simp [h0])).1
    simp [execOp,Instr.buildSlice,run_underlying hkd',hty.runSize w,h0,newRow,hf]
   have hf:=(hfill ((Array.range (n * te.size)).map (z.cells[· % z.cells.size]!)) (by simp)).1
   have hgt : ¬ 16777216 < n * te.size:=by omega
   simp [execOp,Instr.buildSlice,run_underlying hkd',hty.runSize w,h0,hty.runZero w,newRow,hf,hgt]
def ao0 : Ch → Bool
 | .ptr _ _=>false
 | .win _ _ _ _=>false
 | .fn _ cap=>cap.all fun c=>match c with | .inl _=>false | .inr _=>true
 | _=>true
theorem ba3 {c : Ch} (h : ao0 c = true) (ok : c.Ok m) : c.Ok 0:=by
 cases c with
 | ptr b o=>cases h
 | win b o n c=>cases h
 | fn g cap=>
  intro b hb
  have:=List.all_eq_true.1 h _ hb
  cases this
 | _=>exact ok
def au0 : TKd → Bool
 | .iface=>false
 | .other=>false
 | _=>true
noncomputable def be4 (E : Env) (T : TypeId) : Option SV → Option Eff
 | some (.one c)=>bif au0 (D1 E T) && ao0 c then some (.put (.one (.val (.iface T (c.den fun _=>0)))) []) else none
 | some (.agg l)=>bif au0 (D1 E T) && l.all ao0 then some (.put (.one (.val (.iface T (SV.den (fun _=>0) (.agg l))))) []) else none
 | _=>none
theorem b28 {t : TypeId} {k : TKd} (hk : bv7 P t k) (hp : au0 k = true) : ∃ d,P.underlying t = some d ∧ ∀ ms,d ≠ .interface ms:=by
 cases k <;> first | (cases hp; done) | skip
 case struct fs=>obtain ⟨fl,h,_⟩:=hk; exact ⟨_,h,fun ms h=>by cases h⟩
 all_goals exact ⟨_,hk,fun ms h=>by cases h⟩
theorem b42 {T : TypeId} {x : Operand} {xs : Option SV} {s : SV} {vc : List Prop} (hE : EnvOk P E) (hx : Kn β m xs (ρ x)) (h : be4 E T xs = some (.put s vc)) :
  af0 P ρ (.makeInterface T x) ty w (s.den β) ∧ s.Ok m:=by
 have hkd:=D8 (t:=T) hE
 have hrun : ∀ v,ρ x = v → au0 (D1 E T) = true → ∀ d pos aft g,(execOp ρ ⟨d,.makeInterface T x,ty,pos,aft,g⟩).run P w = .ok (.value (.iface T v)) w:=by
  intro v hv hp d pos aft g
  obtain ⟨td,h1,h2⟩:=b28 hkd hp
  subst hv
  have h3 : (Instr.makeInterface T (ρ x)).run P w = .ok (.iface T (ρ x)) w:=by
   unfold Instr.makeInterface
   simp only [Sem.run_bind,run_underlying h1,Result.andThen]
   cases td <;> first | rfl | exact absurd rfl (h2 _)
  simp [execOp,h3]
 unfold be4 at h
 split at h <;> first | (cases h; done) | skip
 ·rename_i c
  have h1:=hx _ rfl
  cases hb : (au0 (D1 E T) && ao0 c) with
  | false=>rw [hb] at h; cases h
  | true=>
   rw [hb] at h
   simp only [Bool.and_eq_true] at hb
   simp only [cond_true,Option.some.injEq] at h
   obtain ⟨rfl,rfl⟩:=G4 h
   refine ⟨fun d pos aft g=>?_,rfl⟩
   have e : (SV.one c).den β = c.den fun _=>0:=SV.den_congr (s:=.one c) (m:=0) (fun i hi=>absurd hi (Nat.not_lt_zero i)) (ba3 hb.2 h1.2)
   rw [hrun _ (h1.1.trans e) hb.1]
   rfl
 rename_i l
 have h1:=hx _ rfl
 cases hb : (au0 (D1 E T) && l.all ao0) with
 | false=>rw [hb] at h; cases h
 | true=>
  rw [hb] at h
  simp only [Bool.and_eq_true] at hb
  simp only [cond_true,Option.some.injEq] at h
  obtain ⟨rfl,rfl⟩:=G4 h
  refine ⟨fun d pos aft g=>?_,rfl⟩
  have e : (SV.agg l).den β = SV.den (fun _=>0) (.agg l):=SV.den_congr (s:=.agg l) (m:=0) (fun i hi=>absurd hi (Nat.not_lt_zero i)) (fun c hc=>ba3 (List.all_eq_true.1 hb.2 c hc) (h1.2 c hc))
  rw [hrun _ (h1.1.trans e) hb.1]
  rfl
def bnd : Option (Option SV) → Nat → Option Nat
 | none,d=>some d
 | some (some (.one (.lit .i64 z))),_=>bif decide (0 ≤ z) then some z.toNat else none
 | _,_=>none
def cc6 (E : Env) (T : TypeId) (x : Option SV) (lo hi mx : Option (Option SV)) : Option Eff:=
 match x,D1 E T with
 | some (.one (.ptr b o)),.array n e=>match E.get e,bnd mx n with
  | some te,some c=>match bnd hi n with
   | some h=>match bnd lo 0 with
    | some l=>bif Nat.ble l h && Nat.ble h c && Nat.ble c n && (mx.isNone || hi.isSome) then some (.put (.one (.win b (bif Nat.beq c l then o else o + l * te.size) (h - l) (c - l))) []) else none
    | none=>none
   | none=>none
  | _,_=>none
 | _,_=>none
theorem as2 {x : Option (Option SV)} {xo : Option Operand} {d k y : Nat} {code : BoundsCode} {v : Value} (h : bnd x d = some k) (hs : x.isSome = true) (hk : ∀ o,xo = some o → Kn β m (x.getD none) (ρ o)) (hx : xo.map ρ = some v) (hle : k ≤ y) :
  (Instr.sliceBound v y code).run P w = .ok k w:=by
 cases xo with
 | none=>cases hx
 | some o=>
  simp only [Option.map_some,Option.some.injEq] at hx
  subst hx
  unfold bnd at h
  split at h <;> first | (cases h; done) | skip
  ·cases hs
  rename_i z
  have h1:=(hk o rfl _ rfl).1
  by_cases h0 : 0 ≤ z
  ·rw [decide_eq_true h0] at h
   simp only [cond_true,Option.some.injEq] at h
   subst h
   simp only [SV.den,Ch.den] at h1
   have h2 : z ≤ (y : Int):=by omega
   simp [Instr.sliceBound,h1,asIntOf,h0,h2]
  rw [decide_eq_false h0] at h
  cases h
theorem cr5 {T : TypeId} {x : Operand} {lo hi mx : Option Operand} {f : Operand → Option SV} {s : SV} {vc : List Prop} (hE : EnvOk P E) (hx : Kn β m (f x) (ρ x)) (hl : ∀ o,lo = some o → Kn β m (f o) (ρ o)) (hh : ∀ o,hi = some o → Kn β m (f o) (ρ o)) (hmx : ∀ o,mx = some o → Kn β m (f o) (ρ o))
  (h : cc6 E T (f x) (lo.map f) (hi.map f) (mx.map f) = some (.put s vc)) : af0 P ρ (.slice T x lo hi mx) ty w (s.den β) ∧ s.Ok m:=by
 have hkd:=D8 (t:=T) hE
 unfold cc6 at h
 split at h <;> first | (cases h; done) | skip
 rename_i b o n e e1 e2
 rw [e2] at hkd
 have h1:=hx _ e1
 split at h <;> first | (cases h; done) | skip
 rename_i te c e3 e4
 obtain ⟨z,hty,_⟩:=(hE.get e3).ty
 split at h <;> first | (cases h; done) | skip
 rename_i hh' e5
 split at h <;> first | (cases h; done) | skip
 rename_i l e6
 cases hb : (Nat.ble l hh' && Nat.ble hh' c && Nat.ble c n && ((mx.map f).isNone || (hi.map f).isSome)) with
 | false=>rw [hb] at h; cases h
 | true=>
  rw [hb] at h
  simp only [Bool.and_eq_true] at hb
  obtain ⟨⟨⟨b1,b2⟩,b3⟩,b4⟩:=hb
  have c1:=Nat.le_of_ble_eq_true b1
  have c2:=Nat.le_of_ble_eq_true b2
  have c3:=Nat.le_of_ble_eq_true b3
  simp only [cond_true,Option.some.injEq] at h
  obtain ⟨rfl,rfl⟩:=G4 h
  refine ⟨fun d pos aft g=>?_,h1.2⟩
  have hbs : (Instr.sliceBounds false n n (lo.map ρ) (hi.map ρ) (mx.map ρ)).run P w = .ok (l,hh',c) w:=by
   unfold Instr.sliceBounds
   cases mx with
   | none=>
    have ec : c = n:=by simpa [bnd] using e4.symm
    subst ec
    cases hi with
    | none=>
     have eh : hh' = c:=by simpa [bnd] using e5.symm
     subst eh
     cases lo with
     | none=>
      have el : l = 0:=by simpa [bnd] using e6.symm
      subst el
      simp
     | some lo'=>
      have r1:=fun code=>as2 (P:=P) (w:=w) (ρ:=ρ) (β:=β) (m:=m) (y:=hh') (code:=code) (v:=ρ lo') e6 rfl (xo:=some lo') (fun o ho=>by cases ho; exact hl _ rfl) rfl c1
      simp [r1]
    | some hi'=>
     have r2:=fun code=>as2 (P:=P) (w:=w) (ρ:=ρ) (β:=β) (m:=m) (y:=c) (code:=code) (v:=ρ hi') e5 rfl (xo:=some hi') (fun o ho=>by cases ho; exact hh _ rfl) rfl c2
     cases lo with
     | none=>
      have el : l = 0:=by simpa [bnd] using e6.symm
      subst el
      simp [r2]
     | some lo'=>
      have r1:=fun code=>as2 (P:=P) (w:=w) (ρ:=ρ) (β:=β) (m:=m) (y:=hh') (code:=code) (v:=ρ lo') e6 rfl (xo:=some lo') (fun o ho=>by cases ho; exact hl _ rfl) rfl c1
      simp [r1,r2]
   | some mx'=>
    have r3:=fun code=>as2 (P:=P) (w:=w) (ρ:=ρ) (β:=β) (m:=m) (y:=n) (code:=code) (v:=ρ mx') e4 rfl (xo:=some mx') (fun o ho=>by cases ho; exact hmx _ rfl) rfl c3
    cases hi with
    | none=>simp at b4
    | some hi'=>
     have r2:=fun code=>as2 (P:=P) (w:=w) (ρ:=ρ) (β:=β) (m:=m) (y:=c) (code:=code) (v:=ρ hi') e5 rfl (xo:=some hi') (fun o ho=>by cases ho; exact hh _ rfl) rfl c2
     cases lo with
     | none=>
      have el : l = 0:=by simpa [bnd] using e6.symm
      subst el
      simp [r2,r3]
     | some lo'=>
      have r1:=fun code=>as2 (P:=P) (w:=w) (ρ:=ρ) (β:=β) (m:=m) (y:=hh') (code:=code) (v:=ρ lo') e6 rfl (xo:=some lo') (fun o ho=>by cases ho; exact hl _ rfl) rfl c1
      simp [r1,r2,r3]
  have h1' : ρ x = .pointer (some ⟨β b,o,none⟩):=h1.1
  have hkd' : P.underlying T = some (.array n e):=hkd
  have e7 : (if c = l then (⟨β b,o,none⟩ : Addr) else (⟨β b,o,none⟩ : Addr).add (l * te.size)) = ⟨β b,bif Nat.beq c l then o else o + l * te.size,none⟩:=by
   by_cases hcl : c = l
   ·subst hcl; simp
   have : Nat.beq c l = false:=by
    cases hq : Nat.beq c l with
    | false=>rfl
    | true=>exact absurd (Nat.eq_of_beq_eq_true hq) hcl
   rw [if_neg hcl,R4,this]
   rfl
  simp [execOp,h1',Instr.sliceAt,run_underlying hkd',Instr.sureAddr,hbs,hty.runSize w,e7,SV.den,Ch.den]
def bu5 (E : Env) (cl : Callee) (ts : List TypeId) (xs : List (Option SV)) : Option Eff:=
 match cl,ts,xs with
 | .builtin .len,[t],[some (.one (.sl _ n))]=>match D1 E t with | .slice _=>some (.put (.one (.int .i64 n)) []) | _=>none
 | .builtin .len,[t],[some (.one (.win _ _ n _))]=>match D1 E t with | .slice _=>some (.put (.one (.lit .i64 n)) []) | _=>none
 | .builtin .len,[t],[some (.one (.str l))]=>match D1 E t with | .str=>some (.put (.one (.int .i64 l.length)) []) | _=>none
 | .builtin .max,_,[some (.one (.lit k a)),some (.one (.lit _ b))]=>some (.put (.one (.lit k (max a b))) [])
 | .builtin .max,_,[some (.one (.int k a)),some (.one (.lit _ b))]=>some (.put (.one (.int k (max a b))) [])
 | .builtin .max,_,[some (.one (.lit k a)),some (.one (.int _ b))]=>some (.put (.one (.int k (max a b))) [])
 | .builtin .max,_,[some (.one (.int k a)),some (.one (.int _ b))]=>some (.put (.one (.int k (max a b))) [])
 | .builtin .min,_,[some (.one (.lit k a)),some (.one (.lit _ b))]=>some (.put (.one (.lit k (min a b))) [])
 | .builtin .min,_,[some (.one (.int k a)),some (.one (.lit _ b))]=>some (.put (.one (.int k (min a b))) [])
 | .builtin .min,_,[some (.one (.lit k a)),some (.one (.int _ b))]=>some (.put (.one (.int k (min a b))) [])
 | .builtin .min,_,[some (.one (.int k a)),some (.one (.int _ b))]=>some (.put (.one (.int k (min a b))) [])
 | _,_,_=>none
theorem dt1 (a b : Int) : (if b > a then b else a) = max a b:=by split <;> omega
theorem dr8 (a b : Int) : (if b < a then b else a) = min a b:=by split <;> omega
theorem cf7 {c : Call} {f : Operand → Option SV} {s : SV} {vc : List Prop} (hE : EnvOk P E) (hx : ∀ x ∈ c.args.toList,Kn β m (f x) (ρ x)) (h : bu5 E c.callee c.argTypes.toList (c.args.toList.map f) = some (.put s vc)) :
  af0 P ρ (.call c) ty w (s.den β) ∧ s.Ok m:=by
 obtain ⟨cl,args,ts⟩:=c
 simp only at h hx
 generalize hts : ts.toList = tl at h
 have hts' : ts = tl.toArray:=by rw [← hts,Array.toArray_toList]
 subst hts'
 have two : ∀ {u v : Option SV},args.toList.map f = [u,v] → ∃ x y,args = #[x,y] ∧ Kn β m u (ρ x) ∧ Kn β m v (ρ y):=by
  intro u v he
  match hal : args.toList,he with
  | [x,y],he=>
   rw [hal] at hx
   simp only [List.map_cons,List.map_nil,List.cons.injEq,and_true] at he
   exact ⟨x,y,by rw [← Array.toArray_toList (xs:=args),hal],by rw [← he.1]; exact hx x (by simp),by rw [← he.2]; exact hx y (by simp)⟩
 have one : ∀ {u : Option SV},args.toList.map f = [u] → ∃ x,args = #[x] ∧ Kn β m u (ρ x):=by
  intro u he
  match hal : args.toList,he with
  | [x],he=>
   rw [hal] at hx
   simp only [List.map_cons,List.map_nil,List.cons.injEq,and_true] at he
   exact ⟨x,by rw [← Array.toArray_toList (xs:=args),hal],by rw [← he]; exact hx x (by simp)⟩
 generalize hxs : args.toList.map f = xl at h
 unfold bu5 at h
 split at h <;> first | (cases h; done) | skip
 ·rename_i t sv n
  have hkd:=D8 (t:=t) hE
  obtain ⟨x,rfl,h1⟩:=one hxs
  split at h <;> first | (cases h; done) | skip
  rename_i e e1
  rw [e1] at hkd
  have hkd' : P.underlying t = some (.slice e):=hkd
  simp only [Option.some.injEq] at h
  obtain ⟨rfl,rfl⟩:=G4 h
  obtain ⟨h2,a,cc,h3,_⟩:=h1 _ rfl
  have h4 : ρ x = .slice a n cc:=by rw [h2]; exact h3
  exact ⟨fun d pos aft g=>by simp [execOp,resolve,invoke,builtin,h4,Builtin.len_,run_underlying hkd',goInt,SV.den,Ch.den],trivial⟩
 ·rename_i t _ _ n _
  have hkd:=D8 (t:=t) hE
  obtain ⟨x,rfl,h1⟩:=one hxs
  split at h <;> first | (cases h; done) | skip
  rename_i e e1
  rw [e1] at hkd
  have hkd' : P.underlying t = some (.slice e):=hkd
  simp only [Option.some.injEq] at h
  obtain ⟨rfl,rfl⟩:=G4 h
  have h4:=(h1 _ rfl).1
  exact ⟨fun d pos aft g=>by simp [execOp,resolve,invoke,builtin,h4,Builtin.len_,run_underlying hkd',goInt,SV.den,Ch.den],trivial⟩
 ·rename_i t l
  have hkd:=D8 (t:=t) hE
  obtain ⟨x,rfl,h1⟩:=one hxs
  split at h <;> first | (cases h; done) | skip
  rename_i e1
  rw [e1] at hkd
  have hkd' : P.underlying t = some .string:=hkd
  simp only [Option.some.injEq] at h
  obtain ⟨rfl,rfl⟩:=G4 h
  have h4:=(h1 _ rfl).1
  have h5 : ρ x = F4 l:=h4
  have e5 : (⟨l.toArray⟩ : ByteArray).size = l.length:=by show l.toArray.size = _; simp
  exact ⟨fun d pos aft g=>by simp [execOp,resolve,invoke,builtin,h5,Builtin.len_,run_underlying hkd',goInt,SV.den,Ch.den,e5,-ByteArray.size_data],trivial⟩
 all_goals
  obtain ⟨x,y,rfl,h1,h2⟩:=two hxs
  simp only [Option.some.injEq] at h
  obtain ⟨rfl,rfl⟩:=G4 h
  have h3:=(h1 _ rfl).1
  have h4:=(h2 _ rfl).1
  simp only [SV.den,Ch.den] at h3 h4
  exact ⟨fun d pos aft g=>by simp [execOp,resolve,invoke,builtin,h3,h4,run_max_int2,run_min_int2,dt1,dr8,SV.den,Ch.den],trivial⟩
end
end Go.Proofs.YtmjbiocildkhnaaGreatDoor
end

/- View3 View4 SymY View5 View6 View7 View8 VTry View9 VTryB View10 View11 View12 RefV1 RefV2 RefV3 RefV4 SymZ VG2 Open6 ViewL1 VTryR ViewR1 ViewR2 ViewR3 ViewL2 PasP PasP2 RefM1 -/
import Derived.Test.YtpheooheinfbgaaGreatDoorPascalB4
import Derived.Test.YtpheooheinfbgaaGreatDoorPascalB3
import Derived.Test.YtpheooheinfbgaaGreatDoorPascalB2
import Derived.Deep.Slices
section
set_option linter.unusedVariables false
set_option linter.unusedSimpArgs false
namespace Go.Proofs.YtpheooheinfbgaaGreatDoor
open Go Go.RowKit
set_option maxRecDepth 100000 in
theorem ai5 {S : Nat → Prop} {w : World} {v : Value} {p : T3} (hS : Up S w) (h : TripV S w v p) : Gives Tryz.prog 74 [v] w fun v' w'=>v' = .bool (tst p.None) ∧ Ext w w':=by
 obtain ⟨a,b,c,rfl,ha,hb,hc⟩:=h
 refine o8 (E:=env) (S0:=S) (G:=((ratG a p.x).and ((ratG b p.y).and (ratG c p.z)))) (l:=[.agg [.ag 3 a,.ag 3 b,.ag 3 c]]) Tryz.func74 rfl rfl rfl ⟨G7 ⟨ha.okc,hb.okc,hc.okc,trivial⟩,trivial⟩ rfl ⟨ha,hb,hc⟩ ?_
 refine s_K (.one (.tp (p.x = 0))) ⟨a8,hS,b7⟩ (by kernel_rfl) (by kernel_rfl) (j9 rfl) rfl (fun β S w hS hs hw hG=>have ha:=hG.1; ⟨_,(by kernel_rfl),G6 hS ha⟩) ?_
 refine ad5 (p:=p.x = 0) 6 ⟨a8,hS,b7⟩ (by kernel_rfl) (by kernel_rfl) (fun hx=>?_) (fun hx=>?_)
 ·refine s_K (.one (.tp (p.y = 0))) ⟨a8,hS,b7⟩ (by kernel_rfl) (by kernel_rfl) (j9 rfl) rfl (fun β S w hS hs hw hG=>have hb:=hG.2.1; ⟨_,(by kernel_rfl),G6 hS hb⟩) ?_
  refine ad5 (p:=p.y = 0) 11 ⟨a8,hS,b7⟩ (by kernel_rfl) (by kernel_rfl) (fun hy=>?_) (fun hy=>?_)
  ·refine s_K (.one (.tp (p.z = 0))) ⟨a8,hS,b7⟩ (by kernel_rfl) (by kernel_rfl) (j9 rfl) rfl (fun β S w hS hs hw hG=>have hc:=hG.2.2; ⟨_,(by kernel_rfl),G6 hS hc⟩) ?_
   exact q8 (.bool (tst (p.z = 0))) ⟨a8,hS,b7⟩ (by kernel_rfl) rfl (by kernel_rfl) (fun β=>(by kernel_rfl)) (fun S w hs hw hG=>⟨by rw [show p.None = (p.z = 0) from propext ⟨fun h=>h.2.2,fun h=>⟨hx,hy,h⟩⟩],hw⟩)
  ·exact q8 (.bool false) ⟨a8,hS,b7⟩ (by kernel_rfl) rfl (by kernel_rfl) (fun β=>(by kernel_rfl)) (fun S w hs hw hG=>⟨by rw [j6 fun h : p.None=>hy h.2.1],hw⟩)
 ·exact q8 (.bool false) ⟨a8,hS,b7⟩ (by kernel_rfl) rfl (by kernel_rfl) (fun β=>(by kernel_rfl)) (fun S w hs hw hG=>⟨by rw [j6 fun h : p.None=>hx h.1],hw⟩)
set_option maxRecDepth 100000 in
theorem E7 {S : Nat → Prop} {w : World} {vp vq : Value} {p q : T3} {m n : Nat} (hS : Up S w) (hp : TripV S w vp p) (hq : TripV S w vq q) (hm : tl p m) (hn : tl q n) (hmn : 2 * (m + n + 1) + 1 ≤ 3344) :
  Gives Tryz.prog 55 [vp,vq] w fun v' w'=>v' = .bool (tst (T3.Same p q)) ∧ Ext w w':=by
 refine o8 (E:=env) (S0:=S) (G:=((triG vp (p)).and (triG vq (q)))) (l:=[.one (.ag 9 vp),.one (.ag 9 vq)]) Tryz.func55 rfl rfl rfl ⟨hp.ok,hq.ok,trivial⟩ rfl ⟨hp,hq⟩ ?_
 refine s_1 (fun x0=>.one (.ag 9 x0)) (fun x0=>triG x0 ((p.cross q))) ⟨a8,hS,b7⟩ (by kernel_rfl) (by kernel_rfl) (fun _ _ _ h=>⟨h.ok,rfl⟩) (fun β S w hS hs hw hG=>have hp:=hG.1; have hq:=hG.2; ⟨_,(by kernel_rfl),Y6 hS hp hq hm hn hmn⟩) ?_
 intro x
 refine s_K (.one (.tp (T3.Same p q))) ⟨a8,hS,b7⟩ (by kernel_rfl) (by kernel_rfl) (j9 rfl) rfl (fun β S w hS hs hw hG=>have hx:=hG.1; ⟨_,(by kernel_rfl),ai5 hS hx⟩) ?_
 exact q8 (.bool (tst (T3.Same p q))) ⟨a8,hS,b7⟩ (by kernel_rfl) rfl (by kernel_rfl) (fun β=>(by kernel_rfl)) (fun S w hs hw hG=>⟨rfl,hw⟩)
set_option maxRecDepth 100000 in
theorem an8 {S : Nat → Prop} {w : World} {vp vq vr : Value} {p q r : T3} {m n k : Nat} (hS : Up S w) (hp : TripV S w vp p) (hq : TripV S w vq q) (hr : TripV S w vr r) (hm : tl p m) (hn : tl q n) (hk : tl r k) (hmn : 3 * (2 * (m + n) + 1 + k + 1) + 1 ≤ 3344) :
  Gives Tryz.prog 57 [vp,vq,vr] w fun v' w'=>v' = .bool (tst (T3.Flat p q r)) ∧ Ext w w':=by
 have hc:=E5 hm hn
 refine o8 (E:=env) (S0:=S) (G:=((triG vp (p)).and ((triG vq (q)).and (triG vr (r))))) (l:=[.one (.ag 9 vp),.one (.ag 9 vq),.one (.ag 9 vr)]) Tryz.func57 rfl rfl rfl ⟨hp.ok,hq.ok,hr.ok,trivial⟩ rfl ⟨hp,hq,hr⟩ ?_
 refine l8 6 ⟨a8,hS,b7⟩ (by kernel_rfl) (by kernel_rfl) (by kernel_rfl) ?_
 refine i1 2 (fun η=>(by kernel_rfl)) ?_
 refine h_1 (fun x0=>.one (.ag 9 x0)) (fun x0=>triG x0 ((p.cross q))) (fun η=>(by kernel_rfl)) (fun _ _ _ h=>⟨h.ok,rfl⟩) (fun β η S w hS hs hw hG hd=>have hp:=hG.1; have hq:=hG.2.1; ⟨_,(by kernel_rfl),Y6 hS hp hq hm hn (by omega)⟩) ?_
 refine i1 1 (fun η=>(by kernel_rfl)) ?_
 refine h_1 (fun x0=>.one (.ag 3 x0)) (fun x0=>ratG x0 (((p.cross q).dot r))) (fun η=>(by kernel_rfl)) (fun _ _ _ h=>⟨h.ok,rfl⟩) (fun β η S w hS hs hw hG hd=>have hr:=hG.2.2; ⟨_,(by kernel_rfl),b64 hS (dep hd 2 (by kernel_rfl) (by kernel_rfl) : (triG (η 2) ((p.cross q))).p S w) hr hc hk (by omega)⟩) ?_
 refine h_K (.one (.tp (T3.Flat p q r))) (fun η=>(by kernel_rfl)) (j9 rfl) rfl (fun β η S w hS hs hw hG hd=>⟨_,(by kernel_rfl),G6 hS (dep hd 4 (by kernel_rfl) (by kernel_rfl) : (ratG (η 4) (((p.cross q).dot r))).p S w)⟩) ?_
 refine l6 [false,false,false] (Gh.nil) (by exact fun _ _ h=>trivial) (fun g η=>g) (by kernel_rfl) (fun g η=>(by kernel_rfl)) ?_
 intro η_1
 exact q8 (.bool (tst (T3.Flat p q r))) ⟨a8,hS,b7⟩ (by kernel_rfl) rfl (by kernel_rfl) (fun β=>(by kernel_rfl)) (fun S w hs hw hG=>⟨rfl,hw⟩)
def failE (e : Int) : List PanicEntry:=[{ v:=.iface 108 (.agg #[.int .i64 e]),recovered:=false }]
set_option maxRecDepth 100000 in
theorem ay8 {w : World} {e : Int} : Pan Tryz.prog 56 [.int .i64 e] w (failE e):=by
 have hS : Up All w:=Up.all
 refine M7 (E:=env) (S0:=All) (G:=Gh.nil) (l:=[.one (.int .i64 (e))]) Tryz.func56 rfl rfl rfl ⟨trivial,trivial⟩ rfl trivial ?_
 exact b86 (.iface 108 (.agg #[.int .i64 e])) ⟨a8,hS,b7⟩ (by kernel_rfl) (by kernel_rfl) (fun S w hs hw hG ρ=>⟨rfl,hw⟩)
end Go.Proofs.YtpheooheinfbgaaGreatDoor
end
section
set_option linter.unusedVariables false
set_option linter.unusedSimpArgs false
namespace Go.Proofs.YtpheooheinfbgaaGreatDoor
open Go Go.RowKit
open Classical in
noncomputable def fpos (p : Rat → Prop) : List Rat → Nat → Int
 | [],_=>-1
 | x :: r,k=>if p x then (k : Int) else fpos p r (k + 1)
theorem bn3 {p : Rat → Prop} {l : List Rat} {j : Nat} (hj : j < l.length) : (p (l.getD j 0) → fpos p (l.drop j) j = (j : Int)) ∧ (¬ p (l.getD j 0) → fpos p (l.drop j) j = fpos p (l.drop (j + 1)) (j + 1)):=by
 have e : l.drop j = l.getD j 0 :: l.drop (j + 1):=by
  rw [List.drop_eq_getElem_cons hj,List.getD_eq_getElem?_getD,List.getElem?_eq_getElem hj]
  rfl
 rw [e]
 exact ⟨fun h=>by unfold fpos; rw [if_pos h],fun h=>by conv=>lhs; unfold fpos; rw [if_neg h]⟩
theorem aw2 {p : Rat → Prop} : ∀ {l : List Rat} {k : Nat},(∃ x ∈ l,p x) ↔ 0 ≤ fpos p l k:=by
 intro l
 induction l with
 | nil=>intro k; unfold fpos; simp
 | cons x r ih=>
  intro k
  unfold fpos
  by_cases h : p x
  ·rw [if_pos h]; exact ⟨fun _=>by omega,fun _=>⟨x,List.mem_cons_self ..,h⟩⟩
  ·rw [if_neg h,← ih]
   constructor
   ·rintro ⟨y,hy,hp⟩
    rcases List.mem_cons.1 hy with rfl | hy
    ·exact absurd hp h
    ·exact ⟨y,hy,hp⟩
   ·rintro ⟨y,hy,hp⟩; exact ⟨y,List.mem_cons_of_mem _ hy,hp⟩
abbrev TestF (P : Program) (f : FuncId) (w : World) (l : List Rat) (p : Rat → Prop) : Prop:=∀ S' w' x q,q ∈ l → Up S' w' → Ext w w' → RatV S' w' x q → Gives P f [x] w' fun v w''=>v = .bool (tst (p q)) ∧ Ext w' w''
set_option maxRecDepth 100000 in
set_option maxHeartbeats 1000000 in
theorem a80 {S : Nat → Prop} {w : World} {v : Value} {l : List Rat} {p : Rat → Prop} (f : FuncId) [ci : CallI Tryz.prog f] (hS : Up S w) (h : SeqV true 3 ratF S w v l) (hf : TestF Tryz.prog f w l p) :
  Gives Tryz.prog 127 [v,.func (.func f) #[] #[]] w fun v' w'=>v' = .int .i64 (fpos p l 0) ∧ Ext w w':=by
 have hmx:=h.len_le
 unfold maxLen at hmx
 refine o8 (E:=env) (S0:=S) (G:=(ratsG v (l))) (l:=[.one (.sl v (l).length),.one (.fn f [])]) Tryz.func127 rfl rfl rfl ⟨h.sl,(fun _ h=>by cases h),trivial⟩ rfl h ?_
 refine H2 (ι:=Nat) [(4,5),(8,18)] (fun j=>[(8,.one (.int .i64 (j : Int)))]) (fun _=>[]) (fun j=>(ratsG v (l))) (fun j=>j ≤ l.length ∧ fpos p (l.drop j) j = fpos p l 0) (fun j=>l.length - j) (0) ⟨a8,hS,b7⟩ (by kernel_rfl) (by kernel_rfl) (fun β=>(by kernel_rfl)) (fun β=>(by kernel_rfl)) (by kernel_rfl) (⟨Nat.zero_le _,rfl⟩) (fun S w hw hG=>⟨s9 rfl,fun p hp=>by cases hp⟩) (fun S w hw hG=>hG) (fun hso j hj=>?_)
 refine X3 (p:=(j : Int) < (l.length : Int)) ⟨a8,hS,b7⟩ (by kernel_rfl) (by kernel_rfl) (by kernel_rfl) (fun hlt=>?_) (fun hlt=>?_)
 ·have hlt' : j < l.length:=by omega
  have hx0 : l[j]? = some (l.getD j 0):=by rw [List.getD_eq_getElem?_getD,List.getElem?_eq_getElem hlt']; rfl
  obtain ⟨d1,d2⟩:=bn3 (p:=p) hlt'
  refine q7 ⟨a8,hS,b7⟩ (by kernel_rfl) (ay0 v l.length (j : Int) 42 3 (fun u0=>atG true 3 (fun x0=>ratG x0 ((l.getD j 0))) u0) (by kernel_rfl) ⟨a8,hS,b7⟩ (fun β S w hM hw hG=>have h:=hG; h.el rfl rfl hx0) ?_)
  intro u_1
  refine q7 ⟨a8,hS,b7⟩ (by kernel_rfl) (az5 u_1 42 3 true (fun x0=>.one (.ag 3 x0)) (fun x0=>ratG x0 ((l.getD j 0))) (by kernel_rfl) ⟨a8,hS,b7⟩ (fun S w hw hG=>hG.1) (fun _ _ _ h=>⟨h.ok,rfl⟩) ?_)
  intro x
  refine s_K (.one (.tp (p (l.getD j 0)))) ⟨a8,hS,b7⟩ (by kernel_rfl) (cc7 (by kernel_rfl)) (j9 rfl) rfl (fun β S w hS hs hw hG=>have hx:=hG.1; ⟨_,(by kernel_rfl),hf _ _ _ _ (List.mem_of_getElem? hx0) hS hw hx⟩) ?_
  refine X3 (p:=p (l.getD j 0)) ⟨a8,hS,b7⟩ (by kernel_rfl) (by kernel_rfl) (by kernel_rfl) (fun hp=>?_) (fun hp=>?_)
  ·refine I6 ⟨a8,hS,b7⟩ (by kernel_rfl) (by kernel_rfl) ?_
   exact q8 (.int .i64 (j : Int)) ⟨a8,hS,b7⟩ (by kernel_rfl) rfl (by kernel_rfl) (fun β=>(by kernel_rfl)) (fun S w hs hw hG=>⟨by rw [← hj.2,d1 hp],hw⟩)
  ·refine I8 (ps:=[InR .i64 ((j : Int) + 1)]) ⟨a8,hS,b7⟩ (by kernel_rfl) (by simp only [AllT,InR,and_true]; omega) ?_
   exact F7 (j + 1) ⟨a8,hS,b7⟩ hso (by kernel_rfl) (by kernel_rfl) (fun β=>(by kernel_rfl)) (fun β=>(by kernel_rfl)) (by kernel_rfl) (⟨by omega,by rw [← d2 hp]; exact hj.2⟩) (by omega) (fun S w hw hG=>⟨s9 rfl,fun p hp=>by cases hp⟩) (fun S w hw hG=>hG.2.2)
 ·refine I6 ⟨a8,hS,b7⟩ (by kernel_rfl) (by kernel_rfl) ?_
  exact q8 (.int .i64 (-1)) ⟨a8,hS,b7⟩ (by kernel_rfl) rfl (by kernel_rfl) (fun β=>(by kernel_rfl)) (fun S w hs hw hG=>⟨by rw [← hj.2,List.drop_of_length_le (by omega)]; rfl,hw⟩)
set_option maxRecDepth 100000 in
theorem P7 {S : Nat → Prop} {w : World} {v : Value} {l : List Rat} {p : Rat → Prop} (f : FuncId) [ci : CallI Tryz.prog f] (hS : Up S w) (h : SeqV true 3 ratF S w v l) (hf : TestF Tryz.prog f w l p) :
  Gives Tryz.prog 99 [v,.func (.func f) #[] #[]] w fun v' w'=>v' = .bool (tst (∃ x ∈ l,p x)) ∧ Ext w w':=by
 refine o8 (E:=env) (S0:=S) (G:=(ratsG v (l))) (l:=[.one (.sl v (l).length),.one (.fn f [])]) Tryz.func99 rfl rfl rfl ⟨h.sl,(fun _ h=>by cases h),trivial⟩ rfl h ?_
 refine s_K (.one (.int .i64 (fpos p l 0))) ⟨a8,hS,b7⟩ (by kernel_rfl) (by kernel_rfl) (j9 rfl) rfl (fun β S w hS hs hw hG=>have h:=hG; ⟨_,(by kernel_rfl),a80 f hS h (fun S' w' x q h0 h1 h2 h3=>hf S' w' x q h0 h1 (hw.trans h2) h3)⟩) ?_
 exact q8 (.bool (tst (0 ≤ fpos p l 0))) ⟨a8,hS,b7⟩ (by kernel_rfl) rfl (by kernel_rfl) (fun β=>(by kernel_rfl)) (fun S w hs hw hG=>⟨by rw [aw2 (k:=0)],hw⟩)
def LongR (q : Rat) : Prop:=40 < Lib.nDigits q.num.natAbs ∨ 40 < Lib.nDigits q.den
theorem az3 (z : Int) (h : 0 ≤ z) : (Lib.itoa z).length = Lib.nDigits z.natAbs:=by
 obtain ⟨n,rfl⟩ : ∃ n : Nat,z = (n : Int):=⟨z.toNat,by omega⟩
 rw [ap9,Lib.decDigits_length]
 rfl
theorem cc2 (z : Int) (h : z < 0) : (Lib.itoa (-z)).length = Lib.nDigits z.natAbs:=by
 rw [az3 (-z) (by omega),Int.natAbs_neg]
set_option maxRecDepth 100000 in
theorem cl1 {S : Nat → Prop} {w : World} {v : Value} {q : Rat} (hS : Up S w) (h : RatV S w v q) : Gives Tryz.prog 128 [v] w fun v' w'=>Ext w w' ∧ IntV S 157 .u32 w' v' q.num:=by
 obtain ⟨m,b,rfl,hm,hb⟩:=h
 have hi : IntV S 157 .u32 w (.agg #[.bool (tst (q.num < 0)),m]) q.num:=⟨m,rfl,hm⟩
 refine o8 (E:=env) (S0:=S) (G:=(intG (.agg #[.bool (tst (q.num < 0)),m]) q.num)) (l:=[.agg [.tp (q.num < 0),.val m,.val b]]) Tryz.func128 rfl rfl rfl ⟨G7 ⟨trivial,hm.one,hb.one,trivial⟩,trivial⟩ rfl hi ?_
 exact q8 (.agg #[.bool (tst (q.num < 0)),m]) ⟨a8,hS,b7⟩ (by kernel_rfl) rfl (by kernel_rfl) (fun β=>(by kernel_rfl)) (fun S w hs hw hG=>have hi:=hG; ⟨hw,hi.mono fun k _ hk=>hs k hk⟩)
set_option maxRecDepth 100000 in
set_option maxHeartbeats 1000000 in
theorem au9 {S : Nat → Prop} {w : World} {v : Value} {q : Rat} (ht : Tab w) (hS : Up S w) (h : RatV S w v q) (hl : rl q 1000000) : Gives Tryz.prog 101 [v] w fun v' w'=>v' = .bool (tst (LongR q)) ∧ Ext w w':=by
 have h1 : zl q.num ≤ 1000000:=hl.1
 have h2 : zl (q.den : Int) ≤ 1000000:=hl.2
 have ld:=az3 (q.den : Int) (by omega)
 rw [Int.natAbs_natCast] at ld
 refine o8 (E:=env) (S0:=S) (G:=(ratG v (q))) (l:=[.one (.ag 3 v)]) Tryz.func101 rfl rfl rfl ⟨h.ok,trivial⟩ rfl h ?_
 refine s_1 (fun x0=>.one (.ag 2 x0)) (fun x0=>intG x0 (q.num)) ⟨a8,hS,b7⟩ (by kernel_rfl) (by kernel_rfl) (fun _ _ _ h=>⟨h.ok,rfl⟩) (fun β S w hS hs hw hG=>have h:=hG; ⟨_,(by kernel_rfl),cl1 hS h⟩) ?_
 intro n
 refine s_K (.one (.int .i64 q.num.sign)) ⟨a8,hS,b7⟩ (by kernel_rfl) (by kernel_rfl) (j9 rfl) rfl (fun β S w hS hs hw hG=>have hn:=hG.1; ⟨_,(by kernel_rfl),bw7 hn⟩) ?_
 refine X3 (p:=q.num.sign < 0) ⟨a8,hS,b7⟩ (by kernel_rfl) (by kernel_rfl) (by kernel_rfl) (fun hs=>?_) (fun hs=>?_)
 ·have hneg : q.num < 0:=Int.sign_neg_iff.1 hs
  have ln:=cc2 q.num hneg
  refine s_1 (fun x0=>.one (.ag 2 x0)) (fun x0=>intG x0 ((-q.num))) ⟨a8,hS,b7⟩ (by kernel_rfl) (by kernel_rfl) (fun _ _ _ h=>⟨h.ok,rfl⟩) (fun β S w hS hs hw hG=>have hn:=hG.1; ⟨_,(by kernel_rfl),ce9 hn⟩) ?_
  intro m
  refine s_K (.one (.str (Lib.itoa (-q.num)))) ⟨a8,hS,b7⟩ (by kernel_rfl) (by kernel_rfl) (j9 rfl) rfl (fun β S w hS hs hw hG=>have hm:=hG.1; ⟨_,(by kernel_rfl),aq7 (ht.to hw) hm (by rw [cj4]; omega)⟩) ?_
  refine ad5 (p:=(40 : Int) < ((Lib.itoa (-q.num)).length : Int)) 15 ⟨a8,hS,b7⟩ (by kernel_rfl) (by kernel_rfl) (fun h4=>?_) (fun h4=>?_)
  ·exact q8 (.bool true) ⟨a8,hS,b7⟩ (by kernel_rfl) rfl (by kernel_rfl) (fun β=>(by kernel_rfl)) (fun S w hs hw hG=>⟨by rw [l9 (show LongR q from .inl (by omega))],hw⟩)
  ·refine s_1 (fun x0=>.one (.ag 2 x0)) (fun x0=>intG x0 ((q.den : Int))) ⟨a8,hS,b7⟩ (by kernel_rfl) (by kernel_rfl) (fun _ _ _ h=>⟨h.ok,rfl⟩) (fun β S w hS hs hw hG=>have h:=hG.2.2; ⟨_,(by kernel_rfl),a07 hS h⟩) ?_
   intro d
   refine s_K (.one (.str (Lib.itoa (q.den : Int)))) ⟨a8,hS,b7⟩ (by kernel_rfl) (by kernel_rfl) (j9 rfl) rfl (fun β S w hS hs hw hG=>have hd:=hG.1; ⟨_,(by kernel_rfl),aq7 (ht.to hw) hd (by omega)⟩) ?_
   exact q8 (.bool (tst ((40 : Int) < ((Lib.itoa (q.den : Int)).length : Int)))) ⟨a8,hS,b7⟩ (by kernel_rfl) rfl (by kernel_rfl) (fun β=>(by kernel_rfl)) (fun S w hs hw hG=>have h:=hG.2.2.2; ⟨by rw [show LongR q = ((40 : Int) < ((Lib.itoa (q.den : Int)).length : Int)) from propext ⟨fun h=>by rcases h with h | h <;> omega,fun h=>.inr (by omega)⟩],hw⟩)
 ·have hneg : ¬ q.num < 0:=fun h=>hs (Int.sign_neg_iff.2 h)
  have ln:=az3 q.num (by omega)
  refine s_K (.one (.str (Lib.itoa q.num))) ⟨a8,hS,b7⟩ (by kernel_rfl) (by kernel_rfl) (j9 rfl) rfl (fun β S w hS hs hw hG=>have hn:=hG.1; ⟨_,(by kernel_rfl),aq7 (ht.to hw) hn (by omega)⟩) ?_
  refine ad5 (p:=(40 : Int) < ((Lib.itoa q.num).length : Int)) 15 ⟨a8,hS,b7⟩ (by kernel_rfl) (by kernel_rfl) (fun h4=>?_) (fun h4=>?_)
  ·exact q8 (.bool true) ⟨a8,hS,b7⟩ (by kernel_rfl) rfl (by kernel_rfl) (fun β=>(by kernel_rfl)) (fun S w hs hw hG=>⟨by rw [l9 (show LongR q from .inl (by omega))],hw⟩)
  ·refine s_1 (fun x0=>.one (.ag 2 x0)) (fun x0=>intG x0 ((q.den : Int))) ⟨a8,hS,b7⟩ (by kernel_rfl) (by kernel_rfl) (fun _ _ _ h=>⟨h.ok,rfl⟩) (fun β S w hS hs hw hG=>have h:=hG.2; ⟨_,(by kernel_rfl),a07 hS h⟩) ?_
   intro d
   refine s_K (.one (.str (Lib.itoa (q.den : Int)))) ⟨a8,hS,b7⟩ (by kernel_rfl) (by kernel_rfl) (j9 rfl) rfl (fun β S w hS hs hw hG=>have hd:=hG.1; ⟨_,(by kernel_rfl),aq7 (ht.to hw) hd (by omega)⟩) ?_
   exact q8 (.bool (tst ((40 : Int) < ((Lib.itoa (q.den : Int)).length : Int)))) ⟨a8,hS,b7⟩ (by kernel_rfl) rfl (by kernel_rfl) (fun β=>(by kernel_rfl)) (fun S w hs hw hG=>have h:=hG.2.2; ⟨by rw [show LongR q = ((40 : Int) < ((Lib.itoa (q.den : Int)).length : Int)) from propext ⟨fun h=>by rcases h with h | h <;> omega,fun h=>.inr (by omega)⟩],hw⟩)
set_option maxRecDepth 100000 in
theorem a09 {S : Nat → Prop} {w : World} {v : Value} {q : Rat} (hS : Up S w) (h : RatV S w v q) : Gives Tryz.prog 100 [v] w fun v' w'=>v' = .bool (tst (¬ q = 0)) ∧ Ext w w':=by
 refine o8 (E:=env) (S0:=S) (G:=(ratG v (q))) (l:=[.one (.ag 3 v)]) Tryz.func100 rfl rfl rfl ⟨h.ok,trivial⟩ rfl h ?_
 refine s_K (.one (.tp (q = 0))) ⟨a8,hS,b7⟩ (by kernel_rfl) (by kernel_rfl) (j9 rfl) rfl (fun β S w hS hs hw hG=>have h:=hG; ⟨_,(by kernel_rfl),G6 hS h⟩) ?_
 exact q8 (.bool (tst (¬ q = 0))) ⟨a8,hS,b7⟩ (by kernel_rfl) rfl (by kernel_rfl) (fun β=>(by kernel_rfl)) (fun S w hs hw hG=>⟨rfl,hw⟩)
set_option maxRecDepth 100000 in
theorem cc5 {S : Nat → Prop} {w : World} {v : Value} {q : Rat} (hS : Up S w) (h : RatV S w v q) : Gives Tryz.prog 172 [v] w fun v' w'=>v' = .bool (tst (¬ q = 0)) ∧ Ext w w':=by
 refine o8 (E:=env) (S0:=S) (G:=(ratG v (q))) (l:=[.one (.ag 3 v)]) Tryz.func172 rfl rfl rfl ⟨h.ok,trivial⟩ rfl h ?_
 refine s_K (.one (.tp (q = 0))) ⟨a8,hS,b7⟩ (by kernel_rfl) (by kernel_rfl) (j9 rfl) rfl (fun β S w hS hs hw hG=>have h:=hG; ⟨_,(by kernel_rfl),G6 hS h⟩) ?_
 exact q8 (.bool (tst (¬ q = 0))) ⟨a8,hS,b7⟩ (by kernel_rfl) rfl (by kernel_rfl) (fun β=>(by kernel_rfl)) (fun S w hs hw hG=>⟨rfl,hw⟩)
def NoneL (l : List Rat) : Prop:=¬ ∃ x ∈ l,¬ x = 0
def LongL (l : List Rat) : Prop:=∃ x ∈ l,LongR x
set_option maxRecDepth 100000 in
theorem as2 {S : Nat → Prop} {w : World} {v : Value} {l : List Rat} (ht : Tab w) (hS : Up S w) (h : SeqV true 3 ratF S w v l) (hl : ∀ x ∈ l,rl x 1000000) (h1 : ¬ NoneL l) (h2 : ¬ LongL l) : Gives Tryz.prog 60 [v] w fun v' w'=>v' = .tuple #[] ∧ Ext w w':=by
 refine o8 (E:=env) (S0:=S) (G:=(ratsG v (l))) (l:=[.one (.sl v (l).length)]) Tryz.func60 rfl rfl rfl ⟨h.sl,trivial⟩ rfl h ?_
 refine s_K (.one (.tp (∃ x ∈ l,¬ x = 0))) ⟨a8,hS,b7⟩ (by kernel_rfl) (by kernel_rfl) (j9 rfl) rfl (fun β S w hS hs hw hG=>have h:=hG; ⟨_,(by kernel_rfl),P7 100 hS h fun _ _ _ _ _ h1 _ h3=>a09 h1 h3⟩) ?_
 refine I5 (p:=¬ (∃ x ∈ l,¬ x = 0)) ⟨a8,hS,b7⟩ (by kernel_rfl) (by kernel_rfl) (by kernel_rfl) (h1) ?_
 refine s_K (.one (.tp (∃ x ∈ l,LongR x))) ⟨a8,hS,b7⟩ (by kernel_rfl) (by kernel_rfl) (j9 rfl) rfl (fun β S w hS hs hw hG=>have h:=hG; ⟨_,(by kernel_rfl),P7 101 hS h fun _ _ _ _ h0 h1 h2 h3=>au9 ((ht.to hw).to h2) h1 h3 (hl _ h0)⟩) ?_
 refine I5 (p:=∃ x ∈ l,LongR x) ⟨a8,hS,b7⟩ (by kernel_rfl) (by kernel_rfl) (by kernel_rfl) (h2) ?_
 exact q8 (.tuple #[]) ⟨a8,hS,b7⟩ (by kernel_rfl) rfl (by kernel_rfl) (fun β=>(by kernel_rfl)) (fun S w hs hw hG=>⟨rfl,hw⟩)
set_option maxRecDepth 100000 in
theorem bf1 {S : Nat → Prop} {w : World} {v : Value} {l : List Rat} (hS : Up S w) (h : SeqV true 3 ratF S w v l) (h1 : NoneL l) : Pan Tryz.prog 60 [v] w (failE 60):=by
 refine M7 (E:=env) (S0:=S) (G:=(ratsG v (l))) (l:=[.one (.sl v (l).length)]) Tryz.func60 rfl rfl rfl ⟨h.sl,trivial⟩ rfl h ?_
 refine s_K (.one (.tp (∃ x ∈ l,¬ x = 0))) ⟨a8,hS,b7⟩ (by kernel_rfl) (by kernel_rfl) (j9 rfl) rfl (fun β S w hS hs hw hG=>have h:=hG; ⟨_,(by kernel_rfl),P7 100 hS h fun _ _ _ _ _ h1 _ h3=>a09 h1 h3⟩) ?_
 refine R9 (p:=¬ (∃ x ∈ l,¬ x = 0)) ⟨a8,hS,b7⟩ (by kernel_rfl) (by kernel_rfl) (by kernel_rfl) (h1) ?_
 exact s_X ⟨a8,hS,b7⟩ (by kernel_rfl) (by kernel_rfl) (fun β S w hS hs hw hG=>⟨_,(by kernel_rfl),ad8 (ay8 (e:=60)) hw⟩)
set_option maxRecDepth 100000 in
theorem bh1 {S : Nat → Prop} {w : World} {v : Value} {l : List Rat} (ht : Tab w) (hS : Up S w) (h : SeqV true 3 ratF S w v l) (hl : ∀ x ∈ l,rl x 1000000) (h1 : ¬ NoneL l) (h2 : LongL l) : Pan Tryz.prog 60 [v] w (failE 11):=by
 refine M7 (E:=env) (S0:=S) (G:=(ratsG v (l))) (l:=[.one (.sl v (l).length)]) Tryz.func60 rfl rfl rfl ⟨h.sl,trivial⟩ rfl h ?_
 refine s_K (.one (.tp (∃ x ∈ l,¬ x = 0))) ⟨a8,hS,b7⟩ (by kernel_rfl) (by kernel_rfl) (j9 rfl) rfl (fun β S w hS hs hw hG=>have h:=hG; ⟨_,(by kernel_rfl),P7 100 hS h fun _ _ _ _ _ h1 _ h3=>a09 h1 h3⟩) ?_
 refine I5 (p:=¬ (∃ x ∈ l,¬ x = 0)) ⟨a8,hS,b7⟩ (by kernel_rfl) (by kernel_rfl) (by kernel_rfl) (h1) ?_
 refine s_K (.one (.tp (∃ x ∈ l,LongR x))) ⟨a8,hS,b7⟩ (by kernel_rfl) (by kernel_rfl) (j9 rfl) rfl (fun β S w hS hs hw hG=>have h:=hG; ⟨_,(by kernel_rfl),P7 101 hS h fun _ _ _ _ h0 h1 h2 h3=>au9 ((ht.to hw).to h2) h1 h3 (hl _ h0)⟩) ?_
 refine R9 (p:=∃ x ∈ l,LongR x) ⟨a8,hS,b7⟩ (by kernel_rfl) (by kernel_rfl) (by kernel_rfl) (h2) ?_
 exact s_X ⟨a8,hS,b7⟩ (by kernel_rfl) (by kernel_rfl) (fun β S w hS hs hw hG=>⟨_,(by kernel_rfl),ad8 (ay8 (e:=11)) hw⟩)
end Go.Proofs.YtpheooheinfbgaaGreatDoor
end
section
set_option linter.unusedVariables false
set_option linter.unusedSimpArgs false
namespace Go.Proofs.YtpheooheinfbgaaGreatDoor
open Go Go.RowKit
abbrev Cx.fnK (P : Program) (fn : Func) (E : Env) (w0 : World) (S0 K : Nat → Prop) (Ψ : Value → World → Prop) : Cx:=⟨P,fn.ntmps,E,w0,S0,K,endQ P fn Ψ⟩
def SVsOkM (m : Nat) : List SV → Prop
 | []=>True
 | s :: r=>s.Ok m ∧ SVsOkM m r
theorem SVsOkM.all {m : Nat} : ∀ {l : List SV},SVsOkM m l → ∀ s ∈ l,s.Ok m:=by
 intro l
 induction l with
 | nil=>intro _ s hs; cases hs
 | cons x r ih=>
  intro h s hs
  rcases List.mem_cons.1 hs with rfl | hs
  ·exact h.1
  ·exact ih h.2 s hs
theorem bh8 {base : Bs} {w : World} {l : List SV} {hp : List HE} {β : Nat → Nat} (hok : SVsOkM hp.length l) (hM : Mem base hp β w) : Sat base ⟨frOf 0 l,hp⟩ β (fun i=>(l.map (SV.den β)).getD i undef) w:=
 ⟨fun d s hs=>by have h:=au2 (β:=β) (m:=hp.length) (i:=0) (d:=d) hok.all s hs; simpa using h,hM⟩
theorem bt3 {P : Program} {E : Env} {S0 K : Nat → Prop} {f : FuncId} {fn : Func} {code : Code} {l : List SV} {hp : List HE} {β : Nat → Nat} {args : List Value} {w : World} {Ψ : Value → World → Prop} {G : Gh} (hf : P.funcs[f]? = some fn) (hb : fn.body = some code) (hok : codeOk fn.ntmps code = true)
  (hn : Nat.ble args.length fn.ntmps = true) (hl : SVsOkM hp.length l) (ha : l.map (SV.den β) = args) (hM : Mem ⟨w.heap.size,K⟩ hp β w) (hG : G.p (Sof S0 β hp) w)
  (h : Run (Cx.fnK P fn E w S0 K Ψ) ⟨.code code,[],⟨frOf 0 l,hp⟩,[]⟩ G) : Gives P f args w Ψ:=by
 refine j7 hf hb hok hn ?_
 subst ha
 exact h.run _ _ w (bh8 hl hM) .refl hG
theorem cf7 {c : Cx} {fn : Func} {Ψ : Value → World → Prop} {rs : List ResultVar} {o : Out} {G : Gh} (v : Value) (hc : c.Ok) (hQ : c.Q = endQ c.P fn Ψ) (hrs : fn.results.toList = rs) (he : isEnd o = true) (hv : ∀ β,resV' c.E rs o.st β = some v)
  (h : ∀ β S w,Mem c.bs o.st.hp β w → (∀ k,S k → Sof c.S0 β o.st.hp k) → Keeps c.K c.w0 w → G.p S w → Ψ v w) : Run c o G:=by
 refine ⟨fun β ρ w hS hw hG=>?_⟩
 have h1:=hv β
 unfold resV' at h1
 cases hl : resSV c.E o.st rs with
 | none=>rw [hl] at h1; cases h1
 | some l=>
  rw [hl] at h1
  simp only [Option.map_some,Option.some.injEq] at h1
  have h2:=a74 hc.env hS hl
  have h3:=h β _ w hS.mem (fun k hk=>hk) hw hG
  have hend : ∀ e,e = Exit.ret ∨ e = Exit.normal → endQ c.P fn Ψ e ρ w:=by
   rintro e (rfl | rfl) <;> exact ⟨_,hrs ▸ h2,h1 ▸ h3⟩
  unfold isEnd at he
  split at he <;> first | (cases he; done) | skip
  ·rename_i e1 e2
   rw [e1,e2]
   show c.Q .ret ρ w
   rw [hQ]
   exact hend _ (.inl rfl)
  ·rename_i e1 e2
   rw [e1,e2]
   show c.Q .normal ρ w
   rw [hQ]
   exact hend _ (.inr rfl)
theorem cj1 {P : Program} {fn : Func} {E : Env} {w0 : World} {S0 K : Nat → Prop} {Ψ : Value → World → Prop} {rs : List ResultVar} {o : Out} {G : Gh} (v : Value) (hc : (Cx.fnK P fn E w0 S0 K Ψ).Ok) (hv0 : (ex (Cx.fnK P fn E w0 S0 K Ψ) o).vc = []) (hrs : fn.results.toList = rs) (he : isEnd (ex (Cx.fnK P fn E w0 S0 K Ψ) o) = true) (hv : ∀ β,resV' E rs (ex (Cx.fnK P fn E w0 S0 K Ψ) o).st β = some v)
  (h : ∀ β S w,Mem ⟨w0.heap.size,K⟩ (ex (Cx.fnK P fn E w0 S0 K Ψ) o).st.hp β w → (∀ k,S k → Sof S0 β (ex (Cx.fnK P fn E w0 S0 K Ψ) o).st.hp k) → Keeps K w0 w → G.p S w → Ψ v w) : Run (Cx.fnK P fn E w0 S0 K Ψ) o G:=
 q7 hc hv0 (cf7 v hc rfl hrs he hv h)
section
variable {c : Cx} {o : Out} {G : Gh}
theorem am8 {f : FuncId} [ci : CallI c.P f] {X : Value} (s : SV) (hc : c.Ok) (hv : (ex c o).vc = []) (hf : isCall f (ex c o) = true) (hok : s.Ok 0) (hX : s.den (fun _=>0) = X)
  (h : ∀ β S w,Up S w → Mem c.bs (ex c o).st.hp β w → (∀ k,S k → c.S0 k) → Keeps c.K c.w0 w → G.p S w → ∃ args,(callArgs (ex c o)).map (SV.den β) = args ∧ Gives c.P f args w fun v w'=>v = X ∧ Ext w w')
  (hn : Run c (callNext (ex c o) s) G) : Run c o G:=by
 refine q7 hc hv (ao1 f hc (fun _ : Unit=>s) (fun _=>True) (fun _=>.nil) hf (fun β S w h1 h1' h2 h3 h4=>?_) fun _ _=>?_)
 ·obtain ⟨args,ha,hg⟩:=h β S w h1 h1' h2 h3 h4
  refine ⟨args,ha,hg.mono fun v w' hv=>⟨hv.2,(),?_,hok.le (Nat.zero_le _),trivial,trivial⟩⟩
  rw [hv.1,← hX]
  exact SV.den_congr (m:=0) (fun i hi=>absurd hi (Nat.not_lt_zero i)) hok
 ·exact T9 (fun S w _ h=>h.2) hn
theorem cs6 {f : FuncId} [ci : CallI c.P f] (pat : Value → SV) (Δ : Value → Gh) (hc : c.Ok) (hv : (ex c o).vc = []) (hf : isCall f (ex c o) = true) (hok : ∀ a S w,(Δ a).p S w → (pat a).Ok 0 ∧ (pat a).den (fun _=>0) = a)
  (h : ∀ β S w,Up S w → Mem c.bs (ex c o).st.hp β w → (∀ k,S k → c.S0 k) → Keeps c.K c.w0 w → G.p S w → ∃ args,(callArgs (ex c o)).map (SV.den β) = args ∧ Gives c.P f args w fun v w'=>Ext w w' ∧ (Δ v).p S w')
  (hn : ∀ a,Run c (callNext (ex c o) (pat a)) ((Δ a).and G)) : Run c o G:=by
 refine q7 hc hv (ao1 f hc pat (fun _=>True) Δ hf (fun β S w h1 h1' h2 h3 h4=>?_) fun a _=>hn a)
 obtain ⟨args,ha,hg⟩:=h β S w h1 h1' h2 h3 h4
 refine ⟨args,ha,hg.mono fun v w' hv=>?_⟩
 obtain ⟨e1,e2⟩:=hok v S w' hv.2
 exact ⟨hv.1,v,by rw [SV.den_congr (m:=0) (β':=fun _=>0) (fun i hi=>absurd hi (Nat.not_lt_zero i)) e1,e2],e1.le (Nat.zero_le _),trivial,hv.2⟩
theorem cr1 {f : FuncId} [ci : CallI c.P f] (s : SV) (hc : c.Ok) (hv : (ex c o).vc = []) (hf : isCall f (ex c o) = true) (hok : s.Ok (ex c o).st.hp.length)
  (h : ∀ β S w,Up S w → Mem c.bs (ex c o).st.hp β w → (∀ k,S k → c.S0 k) → Keeps c.K c.w0 w → G.p S w → ∃ args,(callArgs (ex c o)).map (SV.den β) = args ∧ Gives c.P f args w fun v w'=>v = s.den β ∧ Ext w w')
  (hn : Run c (callNext (ex c o) s) G) : Run c o G:=by
 refine q7 hc hv (ao1 f hc (fun _ : Unit=>s) (fun _=>True) (fun _=>.nil) hf (fun β S w h1 h1' h2 h3 h4=>?_) fun _ _=>?_)
 ·obtain ⟨args,ha,hg⟩:=h β S w h1 h1' h2 h3 h4
  exact ⟨args,ha,hg.mono fun v w' hv=>⟨hv.2,(),hv.1,hok,trivial,trivial⟩⟩
 ·exact T9 (fun S w _ h=>h.2) hn
theorem ch9 {f : FuncId} [ci : CallI c.P f] (hc : c.Ok) (hv : (ex c o).vc = []) (hf : isCall f (ex c o) = true)
  (h : ∀ β S w,Up S w → Mem c.bs (ex c o).st.hp β w → (∀ k,S k → c.S0 k) → Keeps c.K c.w0 w → G.p S w → ∃ args,(callArgs (ex c o)).map (SV.den β) = args ∧ GivesE c.P f args w (fun _ _=>False) fun ch w'=>∀ ρ,c.Q (.panic ch) ρ w') : Run c o G:=
 q7 hc hv (a79 (α:=Unit) f hc (fun _=>.und) (fun _=>False) (fun _=>.nil) hf (fun β S w h1 h1' h2 h3 h4=>let ⟨args,ha,hg⟩:=h β S w h1 h1' h2 h3 h4; ⟨args,ha,hg.mono (fun _ _ hf=>hf.elim) fun _ _ hp=>hp⟩) fun _ hf=>hf.elim)
theorem b91 {f : FuncId} {args : List Value} {w : World} {X : List PanicEntry} {R : Fr → World → Prop} {k : List Kt} (h : Pan c.P f args w X) (hq : ∀ w',Ext w w' → ∀ ρ,c.Q (.panic X) ρ w') : GivesE c.P f args w (fun _ _=>False) fun ch w'=>∀ ρ,(c.sub R k).Q (.panic ch) ρ w':=
 h.mono (fun _ _ h=>h) fun ch w' hp ρ=>by
  obtain ⟨rfl,hk⟩:=hp
  exact ag9 (k:=k) (hq w' hk ρ)
def nilQ (o : Out) : Option Value:=match opAt o with
 | some (_,.nilCheck x)=>match opd o.st.fr x with
  | some (.one (.val v))=>some v
  | _=>none
 | _=>none
theorem cg1 (a : Addr) (hq : nilQ o = some (.pointer (some a))) (hc : c.Ok) (hn : Run c (opNext o (.one (.val (.pointer (some a)))) o.st.hp) G) : Run c o G:=by
 unfold nilQ at hq
 split at hq <;> first | (cases hq; done) | skip
 rename_i d x hop
 split at hq <;> first | (cases hq; done) | skip
 rename_i v hx
 simp only [Option.some.injEq] at hq
 subst hq
 refine am4 (α:=Unit) (fun _=>.one (.val (.pointer (some a)))) (fun _=>.nil) hop (fun β S w F ty hkn hM hup hS hw hG=>⟨(),w,.refl,(rfl : Value.oneCell' _ = true),trivial,?_,rfl⟩) hc fun _=>T9 (fun S w _ h=>h.2) hn
 have g1 : ev F x = .pointer (some a):=(hkn x (by simp [Op.operands]) _ hx).1
 intro d pos aft g
 simp [execOp,g1,SV.den,Ch.den]
def winPQ (E : Env) (o : Out) : Option (Value × Nat):=match opAt o with
 | some (_,.slice T x none none none)=>match opd o.st.fr x,kindOf E T with
  | some (.one (.val v)),.array n e=>(E.get e).map fun _=>(v,n)
  | _,_=>none
 | _=>none
theorem ci5 (b n : Nat) (hq : winPQ c.E o = some (.pointer (some ⟨b,0,none⟩),n)) (hc : c.Ok) (hn : Run c (opNext o (.one (.sl (.slice (some ⟨b,0,none⟩) n n) n)) o.st.hp) G) : Run c o G:=by
 unfold winPQ at hq
 split at hq <;> first | (cases hq; done) | skip
 rename_i d T x hop
 split at hq <;> first | (cases hq; done) | skip
 rename_i v n' e hx hk
 cases hte : c.E.get e with
 | none=>rw [hte] at hq; cases hq
 | some te=>
  rw [hte] at hq
  simp only [Option.map_some,Option.some.injEq,Prod.mk.injEq] at hq
  obtain ⟨rfl,rfl⟩:=hq
  have hkd:=C1 (t:=T) hc.env
  rw [hk] at hkd
  have hkd' : c.P.underlying T = some (.array n' e):=hkd
  obtain ⟨z,hty,_⟩:=(hc.env.get hte).ty
  refine am4 (α:=Unit) (fun _=>.one (.sl (.slice (some ⟨b,0,none⟩) n' n') n')) (fun _=>.nil) hop (fun β S w F ty hkn hM hup hS hw hG=>⟨(),w,.refl,⟨_,_,rfl,Nat.le_refl _⟩,trivial,?_,rfl⟩) hc fun _=>T9 (fun S w _ h=>h.2) hn
  have g1 : ev F x = .pointer (some ⟨b,0,none⟩):=(hkn x (by simp [Op.operands]) _ hx).1
  intro d pos aft g
  simp [execOp,g1,SV.den,Ch.den,Instr.sliceAt,Instr.slice,run_underlying hkd',Instr.sliceBounds,Instr.sliceBound,asIntOf,hty.runSize w,sliced,Instr.sureAddr,Addr.add]
theorem cl6 (u : Value) (n : Nat) (Δ : Value → Gh) (hq : winPQ c.E o = some (u,n)) (hc : c.Ok)
  (h : ∀ β S w,Mem c.bs o.st.hp β w → Keeps c.K c.w0 w → G.p S w → ∃ b k,u = .pointer (some ⟨b,k,none⟩) ∧ (Δ (.slice (some ⟨b,k,none⟩) n n)).p S w)
  (hn : ∀ v,Run c (opNext o (.one (.sl v n)) o.st.hp) ((Δ v).and G)) : Run c o G:=by
 unfold winPQ at hq
 split at hq <;> first | (cases hq; done) | skip
 rename_i d T x hop
 split at hq <;> first | (cases hq; done) | skip
 rename_i v n' e hx hk
 cases hte : c.E.get e with
 | none=>rw [hte] at hq; cases hq
 | some te=>
  rw [hte] at hq
  simp only [Option.map_some,Option.some.injEq,Prod.mk.injEq] at hq
  obtain ⟨rfl,rfl⟩:=hq
  have hkd:=C1 (t:=T) hc.env
  rw [hk] at hkd
  have hkd' : c.P.underlying T = some (.array n' e):=hkd
  obtain ⟨z,hty,_⟩:=(hc.env.get hte).ty
  refine am4 (α:=Value) (fun v=>.one (.sl v n')) Δ hop (fun β S w F ty hkn hM hup hS hw hG=>?_) hc hn
  obtain ⟨b,k,hu,hΔ⟩:=h β S w hM hw hG
  refine ⟨.slice (some ⟨b,k,none⟩) n' n',w,.refl,⟨_,_,rfl,Nat.le_refl _⟩,hΔ,?_,rfl⟩
  have g1 : ev F x = .pointer (some ⟨b,k,none⟩):=by rw [(hkn x (by simp [Op.operands]) _ hx).1]; exact hu
  intro d pos aft g
  simp [execOp,g1,SV.den,Ch.den,Instr.sliceAt,Instr.slice,run_underlying hkd',Instr.sliceBounds,Instr.sliceBound,asIntOf,hty.runSize w,sliced,Instr.sureAddr,Addr.add]
theorem E0 (u : Value) (T : TypeId) (sz : Nat) (g : Bool) (pat : Value → SV) (Δ : Value → Gh) (hq : ldQ c.E o = some (u,T,sz,g)) (hc : c.Ok) (hok : ∀ a S w,(Δ a).p S w → (pat a).Ok 0 ∧ (pat a).den (fun _=>0) = a)
  (h : ∀ β S w,Mem c.bs o.st.hp β w → Keeps c.K c.w0 w → G.p S w → ∃ S' x,Lies g sz x ∧ At S' w u x.cells.toList ∧ (Δ x).p S w)
  (hn : ∀ a,Run c (opNext o (pat a) o.st.hp) ((Δ a).and G)) : Run c o G:=by
 unfold ldQ at hq
 split at hq <;> first | (cases hq; done) | skip
 rename_i d T' x hop
 split at hq <;> first | (cases hq; done) | skip
 rename_i p hx
 cases hte : c.E.get T' with
 | none=>rw [hte] at hq; cases hq
 | some te=>
  rw [hte] at hq
  simp only [Option.map_some,Option.some.injEq,Prod.mk.injEq] at hq
  obtain ⟨rfl,rfl,rfl,rfl⟩:=hq
  refine am4 pat Δ hop (fun β S w F ty hkn hM hup hS hw hG=>?_) hc hn
  obtain ⟨S',a,h1,h2,h3⟩:=h β S w hM hw hG
  obtain ⟨h4,h5⟩:=hok a S w h3
  have g1 : ev F x = p:=(hkn x (by simp [Op.operands]) _ hx).1
  obtain ⟨z,hty,_⟩:=(hc.env.get hte).ty
  refine ⟨a,w,.refl,h4.le (Nat.zero_le _),h3,?_,rfl⟩
  rw [SV.den_congr (m:=0) (β':=fun _=>0) (fun i hi=>absurd hi (Nat.not_lt_zero i)) h4,h5]
  exact h2.load hty h1 g1
end
theorem bu1 {S : Nat → Prop} {T : TypeId} {s n : Nat} {w : World} {v : Value} {cs : List Value} (h : Own 0 T s w v n cs) (hS : ∀ g,v.ownBlock = some g → S g) : Row S T s w v n cs:=by
 refine ⟨h.1,?_⟩
 rcases h.2 with h3 | ⟨g,cap,cur,hv,hg,hh,hn2,hm,hcc,ht⟩
 ·exact .inl h3
 ·exact .inr ⟨g,0,cap,cur,(0,0),hv,hn2,hm,hS g (by rw [hv]; rfl),hh,by omega,by simpa using ht⟩
theorem an7 {base : Bs} {hp : List HE} {β : Nat → Nat} {w : World} {b : Nat} {T : TypeId} {s n : Nat} {v : Value} {cs : List Value} (hb : nth hp b = some (.row T s v n cs)) (hM : Mem base hp β w) : Own 0 T s w v n cs:=by
 rw [I9] at hb
 exact hM.row b T s v n cs hb
theorem V2 {β : Nat → Nat} {n : Nat} {x : Value} : cellsL β [.ag n x] = x.cells.toList:=by simp [cellsL,Ch.cells]
theorem b95 {w : World} {T : TypeId} {s n : Nat} {v : Value} {cs : List Value} {β : Nat → Nat} (h : Own 0 T s w v n cs) : Mem ⟨w.heap.size,fun k=>some k ≠ v.ownBlock⟩ [.row T s v n cs] β w:=by
 have one : ∀ {i : Nat} {x : HE},[HE.row T s v n cs][i]? = some x → i = 0 ∧ x = .row T s v n cs:=by
  intro i x hi
  cases i with
  | zero=>simp at hi; exact ⟨rfl,hi.symm⟩
  | succ i=>simp at hi
 have mine : ∀ {i k : Nat},mineAt β [.row T s v n cs] i k → i = 0 ∧ v.ownBlock = some k:=by
  rintro i k ⟨x,hi,hk⟩
  obtain ⟨rfl,rfl⟩:=one hi
  exact ⟨rfl,hk⟩
 refine ⟨fun i T' l hi=>?_,fun i T' s' v' n' cs' hi=>?_,fun i A hi=>?_,fun i k hk=>?_,fun i j k hi hj=>?_⟩
 ·cases (one hi).2
 ·cases (one hi).2; exact h
 ·cases (one hi).2
 ·obtain ⟨_,hk⟩:=mine hk
  exact ⟨.inr fun e=>e hk.symm,(h.lt k hk).2⟩
 ·rw [(mine hi).1,(mine hj).1]
theorem ce5 {S : Nat → Prop} {T : TypeId} {s n : Nat} {v : Value} {cs : List Value} {β : Nat → Nat} (hS : ∀ k,S k → some k ≠ v.ownBlock) : ∀ k,S k → Sof (fun k=>S k ∨ some k = v.ownBlock) β [.row T s v n cs] k:=by
 intro k hk
 refine ⟨.inl hk,?_⟩
 rintro i ⟨x,hi,hx⟩
 cases i with
 | zero=>
  simp at hi
  subst hi
  exact hS k hk (Eq.symm hx)
 | succ i=>simp at hi
theorem C7 {S : Nat → Prop} {v : Value} : ∀ k,¬ (some k ≠ v.ownBlock) → S k ∨ some k = v.ownBlock:=fun _ h=>.inr (Classical.byContradiction h)
theorem B8 {S : Nat → Prop} {v : Value} {w : World} (h : Up S w) : Up (fun k=>S k ∨ some k = v.ownBlock) w:=fun k hk=>.inl (h k hk)
theorem b92 {T : TypeId} {s n b : Nat} {w : World} {cs : List Value} (h : Own 0 T s w (.slice (some ⟨b,0,none⟩) n n) n cs) : Blk w b T cs:=by
 rcases h.2 with ⟨h1,_⟩ | ⟨g,cap,cur,h1,_,h2,_,_,h3,h4⟩
 ·cases h1
 ·simp only [Value.slice.injEq,Option.some.injEq,Addr.mk.injEq] at h1
  obtain ⟨⟨rfl,_,_⟩,_,rfl⟩:=h1
  have e : cs = cur.toList:=by rw [← h4]; exact List.take_of_length_le (by simpa using Nat.le_of_eq h3)
  unfold Blk
  rw [h2,e]
theorem b23 {S : Nat → Prop} {T : TypeId} {s n : Nat} {v : Value} {cs : List Value} {β : Nat → Nat} {hp : List HE} {k : Nat} (i : Nat) (hb : nth hp i = some (.row T s v n cs)) (h : Sof (fun k=>S k ∨ some k = v.ownBlock) β hp k) : S k:=by
 rcases h.1 with h1 | h1
 ·exact h1
 ·rw [I9] at hb
  exact absurd ⟨_,hb,h1.symm⟩ (h.2 i)
structure ElsV {α : Type} (g : Bool) (s : Nat) (F : Value → α → Gh) (S : Nat → Prop) (w : World) (vs : List Value) (l : List α) : Prop where
 len : vs.length = l.length
 lies : ∀ x ∈ vs,Lies g s x
 el : ∀ (i : Nat) a x,l[i]? = some a → vs[i]? = some x → (F x a).p S w
abbrev elsG {α : Type} (g : Bool) (s : Nat) (F : Value → α → Gh) (vs : List Value) (l : List α) : Gh:=
 ⟨fun S w=>ElsV g s F S w vs l,fun h k=>⟨h.len,h.lies,fun i a x h1 h2=>(F x a).keep (h.el i a x h1 h2) k⟩,fun h k=>⟨h.len,h.lies,fun i a x h1 h2=>(F x a).mono (h.el i a x h1 h2) k⟩⟩
def catV (vs : List Value) : List Value:=vs.flatMap fun x=>x.cells.toList
section
variable {α : Type} {g : Bool} {s : Nat} {F : Value → α → Gh} {S : Nat → Prop} {w : World} {vs : List Value} {l : List α}
theorem L8 (h : ∀ x ∈ vs,Lies g s x) : (catV vs).length = vs.length * s:=by
 induction vs with
 | nil=>simp [catV]
 | cons x r ih=>
  have h1:=(h x (List.mem_cons_self ..)).1
  have h2:=ih fun y hy=>h y (List.mem_cons_of_mem _ hy)
  unfold catV at h2 ⊢
  rw [List.flatMap_cons,List.length_append,h1,h2,List.length_cons,Nat.add_mul,Nat.one_mul,Nat.add_comm]
theorem b06 (h : ∀ x ∈ vs,Lies g s x) : ∀ {i : Nat} {y : Value},i < vs.length → (catV vs).take (i * s) ++ y.cells.toList ++ (catV vs).drop (i * s + s) = catV (vs.set i y):=by
 induction vs with
 | nil=>intro i y hi; simp at hi
 | cons x r ih=>
  intro i y hi
  have h1:=(h x (List.mem_cons_self ..)).1
  have ih2 : ∀ {i : Nat} {y : Value},i < r.length → (catV r).take (i * s) ++ y.cells.toList ++ (catV r).drop (i * s + s) = catV (r.set i y):=ih fun y hy=>h y (List.mem_cons_of_mem _ hy)
  unfold catV at ih2 ⊢
  rw [List.flatMap_cons]
  cases i with
  | zero=>
   rw [Nat.zero_mul,Nat.zero_add,List.take_zero,List.nil_append,List.drop_left' h1,List.set_cons_zero,List.flatMap_cons]
  | succ i=>
   rw [Nat.add_mul,Nat.one_mul,List.set_cons_succ,List.flatMap_cons,← ih2 (i:=i) (y:=y) (by simpa using hi)]
   generalize r.flatMap (fun x=>x.cells.toList) = C
   have e1 : (x.cells.toList ++ C).take (i * s + s) = x.cells.toList ++ C.take (i * s):=by
    rw [show i * s + s = x.cells.toList.length + i * s by omega,List.take_length_add_append]
   have e2 : (x.cells.toList ++ C).drop (i * s + s + s) = C.drop (i * s + s):=by
    rw [show i * s + s + s = x.cells.toList.length + (i * s + s) by omega,List.drop_length_add_append]
   rw [e1,e2]
   simp only [List.append_assoc]
theorem ElsV.set (h : ElsV g s F S w vs l) {i : Nat} {y : Value} {a : α} (hy : Lies g s y) (hF : (F y a).p S w) : ElsV g s F S w (vs.set i y) (l.set i a):=by
 refine ⟨by simp [h.len],fun x hx=>?_,fun j b x h1 h2=>?_⟩
 ·rcases List.mem_or_eq_of_mem_set hx with hx | rfl
  ·exact h.lies x hx
  ·exact hy
 ·by_cases e : i = j
  ·subst e
   have hi:=(List.getElem?_eq_some_iff.1 h1).1
   rw [List.length_set] at hi
   rw [List.getElem?_set_self hi] at h1
   rw [List.getElem?_set_self (by rw [h.len]; exact hi)] at h2
   cases h1
   cases h2
   exact hF
  ·rw [List.getElem?_set_ne e] at h1 h2
   exact h.el j b x h1 h2
theorem ElsV.own {T : TypeId} {v : Value} {n i : Nat} {a : α} (h : ElsV g s F S w vs l) (hown : Own 0 T s w v n (catV vs)) (hn : n = l.length) (ha : l[i]? = some a) :
  ∃ S' x,Lies g s x ∧ At S' w (.pointer (some (adr v (i * s)))) x.cells.toList ∧ (F x a).p S w:=by
 subst hn
 have hi:=(List.getElem?_eq_some_iff.1 ha).1
 have hx : vs[i]? = some (vs[i]'(by rw [h.len]; exact hi)):=List.getElem?_eq_getElem _
 obtain ⟨S',hr⟩:=ay3 hown
 have h1:=At.of_row hr hi
 have h2:=X4 h.lies hx
 unfold catV at h1
 rw [h2] at h1
 exact ⟨S',_,h.lies _ (List.getElem_mem _),h1,h.el i a _ ha hx⟩
theorem ElsV.seq {T : TypeId} {v : Value} {n : Nat} (h : ElsV g s F S w vs l) (hown : Own 0 T s w v n (catV vs)) (hn : n = l.length) : SeqV g s F (fun k=>S k ∨ some k = v.ownBlock) w v l:=by
 subst hn
 exact ⟨T,vs,h.len,h.lies,bu1 hown fun k hk=>.inr hk.symm,fun i a x ha hx=>(F x a).mono (h.el i a x ha hx) fun k _ hk=>.inl hk⟩
end
end Go.Proofs.YtpheooheinfbgaaGreatDoor
end
section
set_option linter.unusedVariables false
set_option linter.unusedSimpArgs false
namespace Go.Proofs.YtpheooheinfbgaaGreatDoor
open Go Go.RowKit
abbrev Not0 (x : Rat) : Prop:=¬ x = 0
noncomputable def leadL (l : List Rat) : Rat:=l.getD (fpos Not0 l 0).toNat 0
noncomputable def scaleL (l : List Rat) : List Rat:=l.map (· / leadL l)
noncomputable def partL (l : List Rat) (b : Rat) (j : Nat) : List Rat:=(l.map (· / b)).take j ++ l.drop j
theorem bc8 (l : List Rat) (b : Rat) : partL l b 0 = l:=by simp [partL]
theorem bp2 (l : List Rat) (b : Rat) : partL l b l.length = l.map (· / b):=by unfold partL; rw [List.take_of_length_le (by simp),List.drop_length,List.append_nil]
theorem aw1 {l : List Rat} {b : Rat} {j : Nat} : (partL l b j).length = l.length:=by unfold partL; simp; omega
theorem bn7 {l : List Rat} {b : Rat} {j : Nat} (h : j < l.length) : (partL l b j)[j]? = some (l.getD j 0):=by
 unfold partL
 rw [List.getElem?_append_right (by simp; omega),List.length_take,List.length_map,Nat.min_eq_left (by omega),Nat.sub_self,List.getElem?_drop,Nat.add_zero,List.getD_eq_getElem?_getD,List.getElem?_eq_getElem h]
 rfl
theorem bc3 {l : List Rat} {b : Rat} {j : Nat} (h : j < l.length) : partL l b (j + 1) = (partL l b j).set j (l.getD j 0 / b):=by
 unfold partL
 have e1 : (l.map (· / b)).take (j + 1) = (l.map (· / b)).take j ++ [l.getD j 0 / b]:=by
  rw [List.take_add_one,List.getElem?_map,List.getElem?_eq_getElem h,List.getD_eq_getElem?_getD,List.getElem?_eq_getElem h]
  rfl
 have e2 : l.drop j = l.getD j 0 :: l.drop (j + 1):=by
  rw [List.drop_eq_getElem_cons h,List.getD_eq_getElem?_getD,List.getElem?_eq_getElem h]
  rfl
 rw [e1,e2,List.set_append_right _ _ (by simp; omega),List.length_take,List.length_map,Nat.min_eq_left (by omega),Nat.sub_self,List.set_cons_zero]
 simp
theorem b31 {p : Rat → Prop} : ∀ {l : List Rat} {k : Nat},0 ≤ fpos p l k → ∃ j,fpos p l k = ((k + j : Nat) : Int) ∧ j < l.length ∧ p (l.getD j 0):=by
 intro l
 induction l with
 | nil=>intro k h; unfold fpos at h; omega
 | cons x r ih=>
  intro k h
  unfold fpos at h ⊢
  by_cases hx : p x
  ·rw [if_pos hx]; exact ⟨0,by simp,by simp,hx⟩
  ·rw [if_neg hx] at h ⊢
   obtain ⟨j,h1,h2,h3⟩:=ih h
   exact ⟨j + 1,by rw [h1]; congr 1; omega,by simpa using h2,by simpa using h3⟩
set_option maxRecDepth 100000 in
set_option maxHeartbeats 1000000 in
theorem br6 {S : Nat → Prop} {w : World} {v : Value} {T : TypeId} {vs : List Value} {l : List Rat} (hS : Up S w) (hown : Own 0 T 3 w v l.length (catV vs)) (hv : ElsV true 3 ratF S w vs l) (hd : ∀ k,S k → some k ≠ v.ownBlock)
  (hl : ∀ x ∈ l,rl x 400000000000) (hf : ∀ x ∈ l,Fits (x / leadL l)) (hne : 0 ≤ fpos Not0 l 0) :
  Gives Tryz.prog 141 [v] w fun r w'=>r = .tuple #[] ∧ Keeps (fun k=>some k ≠ v.ownBlock) w w' ∧ ∃ vs',Own 0 T 3 w' v l.length (catV vs') ∧ ElsV true 3 ratF S w' vs' (scaleL l):=by
 have hmx:=hv.len
 have hmx2 : l.length ≤ maxLen:=by obtain ⟨S',hr⟩:=ay3 hown; exact hr.len_le
 unfold maxLen at hmx2
 obtain ⟨p,hp,hpl,hp0⟩:=b31 hne
 rw [Nat.zero_add] at hp
 have hlead : leadL l = l.getD p 0:=by unfold leadL; rw [hp]; rfl
 have hp1 : l[p]? = some (leadL l):=by rw [hlead,List.getD_eq_getElem?_getD,List.getElem?_eq_getElem hpl]; rfl
 have hmem : ∀ {j},j < l.length → l.getD j 0 ∈ l:=fun {j} hj=>by rw [List.getD_eq_getElem?_getD,List.getElem?_eq_getElem hj]; exact List.getElem_mem _
 have hnum : (leadL l).num ≠ 0:=fun h=>hp0 (by rw [← hlead]; exact Rat.num_eq_zero.1 h)
 refine bt3 (E:=env) (S0:=fun k=>S k ∨ some k = (v).ownBlock) (K:=fun k=>some k ≠ (v).ownBlock) (G:=(elsG true 3 ratF vs l)) (l:=[.one (.sl v l.length)]) (hp:=[.row T 3 v l.length (catV vs)]) (β:=fun _=>0) Tryz.func141 rfl rfl rfl ⟨bn1 hown,trivial⟩ rfl (b95 hown) (Gh.mono (elsG true 3 ratF vs l) (S:=S) hv (fun k _ hk=>ce5 hd k hk)) ?_
 refine am8 (.one (.int .i64 (fpos Not0 l 0))) ⟨a8,B8 hS,C7⟩ (by kernel_rfl) (by kernel_rfl) (j9 rfl) rfl (fun β S w hS hM hs hw hG=>have hv:=hG; ⟨_,(by kernel_rfl),a80 172 (B8 hS) (hv.seq (an7 (T:=T) (b:=0) (s:=3) (n:=l.length) (v:=v) (cs:=catV vs) (by kernel_rfl) hM) rfl) (fun _ _ _ _ _ h1 _ h3=>cc5 h1 h3)⟩) ?_
 refine I5 (p:=fpos Not0 l 0 < 0) ⟨a8,B8 hS,C7⟩ (by kernel_rfl) (by kernel_rfl) (by kernel_rfl) (by omega) ?_
 refine q7 ⟨a8,B8 hS,C7⟩ (by kernel_rfl) (b01 v l.length (fpos Not0 l 0) 42 3 (by kernel_rfl) ⟨a8,B8 hS,C7⟩ (by omega) (by omega) (fun β S w hM hw hG=>let ⟨S',h⟩:=bd9 0 T 3 l.length v (catV vs) (by kernel_rfl) hM; ⟨S',_,_,h⟩) ?_)
 refine q7 ⟨a8,B8 hS,C7⟩ (by kernel_rfl) (E0 (.pointer (some (adr v ((fpos Not0 l 0).toNat * 3)))) 42 3 true (fun x0=>.one (.ag 3 x0)) (fun x0=>ratG x0 ((leadL l))) (by kernel_rfl) ⟨a8,B8 hS,C7⟩ (fun _ _ _ h=>⟨h.ok,rfl⟩) (fun β S w hM hw hG=>have hv:=hG; by rw [hp]; exact hv.own (an7 (T:=T) (b:=0) (s:=3) (n:=l.length) (v:=v) (cs:=catV vs) (by kernel_rfl) hM) rfl hp1) ?_)
 intro by0
 refine H2 (ι:=Nat × List Value) [(4,4),(15,30)] (fun i=>[(15,.one (.int .i64 (i.1 : Int)))]) (fun i=>[(0,.row T 3 v l.length (catV i.2))]) (fun i=>((elsG true 3 ratF i.2 (partL l (leadL l) i.1)).and ((ratG by0 ((leadL l))).and (elsG true 3 ratF vs l)))) (fun i=>i.1 ≤ l.length) (fun i=>l.length - i.1) ((0,vs)) ⟨a8,B8 hS,C7⟩ (by kernel_rfl) (by kernel_rfl) (fun β=>(by kernel_rfl)) (fun β=>(by kernel_rfl)) (by kernel_rfl) (Nat.zero_le _) (fun S w hw hG=>have hv:=hG.2; ⟨a15 ⟨trivial,trivial⟩,an9 ⟨trivial,trivial⟩⟩) (fun S w hw hG=>have hv:=hG.2; ⟨(by rw [bc8]; exact hv),hG⟩) (fun hso i hi=>?_)
 refine X3 (p:=(i.1 : Int) < (l.length : Int)) ⟨a8,B8 hS,C7⟩ (by kernel_rfl) (by kernel_rfl) (by kernel_rfl) (fun hlt=>?_) (fun hlt=>?_)
 ·have hlt' : i.1 < l.length:=by omega
  have hg0:=bn7 (b:=leadL l) hlt'
  refine l8 11 ⟨a8,B8 hS,C7⟩ (by kernel_rfl) (by kernel_rfl) (by kernel_rfl) ?_
  refine i1 4 (fun η=>(by kernel_rfl)) ?_
  refine ay6 (fun η=>v) l.length (i.1 : Int) 42 3 (fun u0=>pureG (u0 = .pointer (some (adr v (Int.toNat (i.1 : Int) * 3))))) (fun η=>(by kernel_rfl)) (fun η=>(by kernel_rfl)) ⟨a8,B8 hS,C7⟩ (fun β η S w hM hw hG hd=>⟨by omega,by omega,(let ⟨S',h⟩:=bd9 0 T 3 l.length v (catV i.2) (by kernel_rfl) hM; ⟨S',_,_,h⟩),rfl⟩) ?_
  refine s6 (fun η=>η 4) 42 3 true (fun x0=>.one (.ag 3 x0)) (fun x0=>ratG x0 ((l.getD i.1 0))) (fun η=>(by kernel_rfl)) (fun η=>(by kernel_rfl)) ⟨a8,B8 hS,C7⟩ (fun _ _ _ h=>⟨h.ok,rfl⟩) (fun β η S w hM hw hG hd=>have ho:=hG.1; by have e:=(dep hd 4 (by kernel_rfl) (by kernel_rfl) : (pureG ((η 4) = .pointer (some (adr v (Int.toNat (i.1 : Int) * 3))))).p S w); simp only at e; rw [e]; exact ho.own (an7 (T:=T) (b:=0) (s:=3) (n:=l.length) (v:=v) (cs:=catV i.2) (by kernel_rfl) hM) aw1.symm hg0) ?_
  refine i1 1 (fun η=>(by kernel_rfl)) ?_
  refine h_1 (fun x0=>pr (.ag 3 (tupAt x0)) (.lit .i64 0)) (fun x0=>tryG x0 ((l.getD i.1 0 / leadL l)) 0) (fun η=>(by kernel_rfl)) (fun _ _ _ h=>W3 h) (fun β η S w hS hs hw hG hd=>have hb:=hG.2.1; ⟨_,(by kernel_rfl),au8 (hf _ (hmem hlt')) (az6 hS (dep hd 5 (by kernel_rfl) (by kernel_rfl) : (ratG (η 5) ((l.getD i.1 0))).p S w) hb (hl _ (hmem hlt')) (hl _ (List.mem_of_getElem? hp1)) hnum)⟩) ?_
  refine i1 2 (fun η=>(by kernel_rfl)) ?_
  refine h_1 (fun x0=>.one (.ag 3 x0)) (fun x0=>ratG x0 ((l.getD i.1 0 / leadL l))) (fun η=>(by kernel_rfl)) (fun _ _ _ h=>⟨h.ok,rfl⟩) (fun β η S w hS hs hw hG hd=>⟨_,(by kernel_rfl),aa5 hS ((dep hd 7 (by kernel_rfl) (by kernel_rfl) : (tryG (η 7) ((l.getD i.1 0 / leadL l)) 0).p S w)).2⟩) ?_
  refine bl5 (fun η=>((ratG (η 10) ((l.getD i.1 0 / leadL l))).and ((tryG (η 7) ((l.getD i.1 0 / leadL l)) 0).and ((ratG (η 5) ((l.getD i.1 0))).and ((pureG ((η 4) = .pointer (some (adr v (Int.toNat (i.1 : Int) * 3))))).and ((elsG true 3 ratF i.2 (partL l (leadL l) i.1)).and ((ratG by0 ((leadL l))).and (elsG true 3 ratF vs l)))))))) (by kernel_rfl) (fun η=>(by kernel_rfl)) ?_
  intro η_1
  refine q7 ⟨a8,B8 hS,C7⟩ (by kernel_rfl) (b01 v l.length (i.1 : Int) 42 3 (by kernel_rfl) ⟨a8,B8 hS,C7⟩ (by omega) (by omega) (fun β S w hM hw hG=>let ⟨S',h⟩:=bd9 0 T 3 l.length v (catV i.2) (by kernel_rfl) hM; ⟨S',_,_,h⟩) ?_)
  refine q7 ⟨a8,B8 hS,C7⟩ (by kernel_rfl) (cq7 (T:=T) (s:=3) (n:=l.length) (cs:=catV i.2) 0 ((i.1 : Int).toNat * 3) v 3 [.ag 3 (η_1 10)] (catV (i.2.set i.1 (η_1 10))) (by kernel_rfl) (by kernel_rfl) ⟨a8,B8 hS,C7⟩ (by decide) (by omega) (fun β S w hw hG=>by rw [Int.toNat_natCast,V2]; exact b06 hG.2.2.2.2.1.lies (by rw [hG.2.2.2.2.1.len,aw1]; exact hlt'))  ?_)
  refine I8 (ps:=[InR .i64 ((i.1 : Int) + 1)]) ⟨a8,B8 hS,C7⟩ (by kernel_rfl) (by simp only [AllT,InR,and_true]; omega) ?_
  exact F7 ((i.1 + 1,i.2.set i.1 (η_1 10))) ⟨a8,B8 hS,C7⟩ hso (by kernel_rfl) (by kernel_rfl) (fun β=>(by kernel_rfl)) (fun β=>(by kernel_rfl)) (by kernel_rfl) (by omega) (by simp only; omega) (fun S w hw hG=>have hr:=hG.1; have ho:=hG.2.2.2.2.1; ⟨a15 ⟨trivial,trivial⟩,an9 ⟨trivial,trivial⟩⟩) (fun S w hw hG=>have hr:=hG.1; have ho:=hG.2.2.2.2.1; ⟨(by rw [bc3 hlt']; exact ho.set hr.lies hr),hG.2.2.2.2.2⟩)
 ·refine I6 ⟨a8,B8 hS,C7⟩ (by kernel_rfl) (by kernel_rfl) ?_
  exact cj1 (.tuple #[]) ⟨a8,B8 hS,C7⟩ (by kernel_rfl) rfl (by kernel_rfl) (fun β=>(by kernel_rfl)) (fun β S w hM hs hw hG=>have ho:=hG.1; ⟨rfl,hw,i.2,an7 (T:=T) (b:=0) (s:=3) (n:=l.length) (v:=v) (cs:=catV i.2) (by kernel_rfl) hM,by have e : i.1 = l.length:=(by omega); rw [e,bp2] at ho; exact ⟨ho.len,ho.lies,fun j a x h1 h2=>(ho.el j a x h1 h2).mono fun k _ hk=>b23 (T:=T) (s:=3) (n:=l.length) (cs:=catV i.2) 0 (by kernel_rfl) (hs k hk)⟩⟩)
end Go.Proofs.YtpheooheinfbgaaGreatDoor
end
section
set_option linter.unusedVariables false
set_option linter.unusedSimpArgs false
namespace Go.Proofs.YtpheooheinfbgaaGreatDoor
open Go Go.RowKit
namespace T3
def list (t : T3) : List Rat:=[t.x,t.y,t.z]
theorem lead_list (t : T3) : leadL t.list = t.lead:=by
 unfold leadL lead list fpos fpos fpos fpos Not0
 by_cases h1 : t.x = 0
 ·by_cases h2 : t.y = 0
  ·by_cases h3 : t.z = 0
   ·simp [h1,h2,h3]
   ·simp [h1,h2,h3]
  ·simp [h1,h2]
 ·simp [h1]
theorem normal_list (t : T3) : scaleL t.list = t.normal.list:=by
 unfold scaleL
 rw [lead_list]
 rfl
theorem fpos_list {t : T3} (h : ¬ t.None) : 0 ≤ fpos Not0 t.list 0:=by
 refine aw2.1 ?_
 unfold None at h
 by_cases h1 : t.x = 0
 ·by_cases h2 : t.y = 0
  ·exact ⟨t.z,by simp [list],fun h3=>h ⟨h1,h2,h3⟩⟩
  ·exact ⟨t.y,by simp [list],h2⟩
 ·exact ⟨t.x,by simp [list],h1⟩
end T3
theorem ac1 {a b c : Value} (ha : Lies true 3 a) (hb : Lies true 3 b) (hc : Lies true 3 c) : (tri3 a b c).cells.toList = catV [a,b,c]:=by
 simp [tri3,SV.den,cellsL,Ch.cells,Value.cells,catV]
theorem TripV.els {S : Nat → Prop} {w : World} {v : Value} {t : T3} (h : TripV S w v t) : ∃ vs,v.cells.toList = catV vs ∧ ElsV true 3 ratF S w vs t.list:=by
 obtain ⟨a,b,c,rfl,h1,h2,h3⟩:=h
 refine ⟨[a,b,c],ac1 h1.lies h2.lies h3.lies,rfl,fun x hx=>?_,fun i q x hq hx=>?_⟩
 ·simp only [List.mem_cons,List.not_mem_nil,or_false] at hx
  rcases hx with rfl | rfl | rfl
  ·exact h1.lies
  ·exact h2.lies
  ·exact h3.lies
 ·match i with
  | 0=>simp [T3.list] at hq hx; subst hq hx; exact h1
  | 1=>simp [T3.list] at hq hx; subst hq hx; exact h2
  | 2=>simp [T3.list] at hq hx; subst hq hx; exact h3
  | i + 3=>simp [T3.list] at hq
theorem TripV.of_els {S : Nat → Prop} {w : World} {vs : List Value} {t : T3} (h : ElsV true 3 ratF S w vs t.list) : ∃ v,TripV S w v t ∧ v.cells.toList = catV vs:=by
 obtain ⟨h1,h2,h3⟩:=h
 match vs,h1 with
 | [a,b,c],_=>exact ⟨tri3 a b c,⟨a,b,c,rfl,h3 0 _ _ rfl rfl,h3 1 _ _ rfl rfl,h3 2 _ _ rfl rfl⟩,ac1 (h2 a (by simp)) (h2 b (by simp)) (h2 c (by simp))⟩
set_option maxRecDepth 100000 in
theorem ck2 {S : Nat → Prop} {w : World} {b : Nat} (hS : Up S w) : Gives Tryz.prog 113 [.pointer (some ⟨b,0,none⟩)] w fun v w'=>v = .slice (some ⟨b,0,none⟩) 3 3 ∧ Ext w w':=by
 refine o8 (E:=env) (S0:=S) (G:=Gh.nil) (l:=[.one (.val (.pointer (some ⟨b,0,none⟩)))]) Tryz.func113 rfl rfl rfl ⟨rfl,trivial⟩ rfl trivial ?_
 refine q7 ⟨a8,hS,b7⟩ (by kernel_rfl) (cg1 ⟨b,0,none⟩ (by kernel_rfl) ⟨a8,hS,b7⟩  ?_)
 refine q7 ⟨a8,hS,b7⟩ (by kernel_rfl) (ci5 b 3 (by kernel_rfl) ⟨a8,hS,b7⟩  ?_)
 exact q8 (.slice (some ⟨b,0,none⟩) 3 3) ⟨a8,hS,b7⟩ (by kernel_rfl) rfl (by kernel_rfl) (fun β=>(by kernel_rfl)) (fun S w hs hw hG=>⟨rfl,hw⟩)
theorem bf5 {S : Nat → Prop} {w : World} {v : Value} {t : T3} {β : Nat → Nat} {m : Nat} (hS : Up S w) (h : TripV S w v t) (hB : Blk w (β 0) 44 (cellsL β [.ag 9 v])) (hb : ¬ S (β 0)) (hn : ¬ t.None) (hl : tl t 400000000000) (hf : Fits t.normal.x ∧ Fits t.normal.y ∧ Fits t.normal.z) :
  Gives Tryz.prog 141 [.slice (some ⟨β 0,0,none⟩) 3 3] w fun r w'=>Wrt (β 0) w w' ∧ ∃ x,r = SV.und.den β ∧ SV.und.Ok m ∧ True ∧ Blk w' (β 0) 44 (cellsL β [.ag 9 x]) ∧ (∀ ch ∈ [Ch.ag 9 x],ch.Ok m) ∧ (triG x t.normal).p S w':=by
 obtain ⟨vs,e1,e2⟩:=h.els
 rw [V2,e1] at hB
 have ho : Own 0 44 3 w (.slice (some ⟨β 0,0,none⟩) 3 3) 3 (catV vs):=ae8 hB (Nat.zero_le _) (by decide) (by rw [L8 e2.lies,e2.len]; rfl)
 have he : leadL t.list = t.lead:=T3.lead_list t
 refine (br6 (T:=44) hS ho e2 (fun k hk e=>hb (by cases e; exact hk)) (fun x hx=>?_) (fun x hx=>?_) (T3.fpos_list hn)).mono ?_
 ·simp only [T3.list,List.mem_cons,List.not_mem_nil,or_false] at hx
  rcases hx with rfl | rfl | rfl
  ·exact hl.1
  ·exact hl.2.1
  ·exact hl.2.2
 ·rw [he]
  simp only [T3.list,List.mem_cons,List.not_mem_nil,or_false] at hx
  rcases hx with rfl | rfl | rfl
  ·exact hf.1
  ·exact hf.2.1
  ·exact hf.2.2
 ·rintro r w' ⟨rfl,k,vs',h1,h2⟩
  rw [T3.normal_list] at h2
  obtain ⟨x',h3,h4⟩:=TripV.of_els h2
  exact ⟨k.mono fun i hi e=>hi (by cases e; rfl),x',rfl,trivial,trivial,by rw [V2,h4]; exact b92 h1,fun c hc=>by rw [List.mem_singleton.1 hc]; exact Ch.Ok.up (c:=.ag 9 x') h3.ok,h3⟩
set_option maxRecDepth 100000 in
theorem b44 {S : Nat → Prop} {w : World} {v : Value} {t : T3} (hS : Up S w) (h : TripV S w v t) (hnn : ¬ t.None) (hl : tl t 400000000000) (hf : Fits t.normal.x ∧ Fits t.normal.y ∧ Fits t.normal.z) :
  Gives Tryz.prog 112 [v,.func (.func 113) #[] #[]] w fun v' w'=>Ext w w' ∧ TripV S w' v' t.normal:=by
 refine o8 (E:=env) (S0:=S) (G:=(triG v (t))) (l:=[.one (.ag 9 v),.one (.fn 113 [])]) Tryz.func112 rfl rfl rfl ⟨h.ok,(fun _ h=>by cases h),trivial⟩ rfl h ?_
 refine cr1 (.one (.win 0 0 3 3)) ⟨a8,hS,b7⟩ (by kernel_rfl) (by kernel_rfl) (Nat.le_of_ble_eq_true (by kernel_rfl)) (fun β S w hS hM hs hw hG=>⟨_,(by kernel_rfl),ck2 hS⟩) ?_
 refine q7 ⟨a8,hS,b7⟩ (by kernel_rfl) (b77 141 0 44 ([.ag 9 v]) ⟨a8,hS,b7⟩ (by kernel_rfl) (fun _=>.und) (fun x0=>[.ag 9 x0]) (fun _=>True) (fun x0=>triG x0 (t.normal)) (by kernel_rfl) (fun β S w hS hs hw hG hB hn=>have h:=hG; ⟨_,(by kernel_rfl),bf5 hS h hB hn hnn hl hf⟩) ?_)
 intro x _
 exact q8 (x) ⟨a8,hS,b7⟩ (by kernel_rfl) rfl (by kernel_rfl) (fun β=>(by kernel_rfl)) (fun S w hs hw hG=>have h2:=hG.1; ⟨hw,h2.mono fun k _ hk=>hs k hk⟩)
end Go.Proofs.YtpheooheinfbgaaGreatDoor
end
section
set_option linter.unusedVariables false
set_option linter.unusedSimpArgs false
namespace Go.Proofs.YtpheooheinfbgaaGreatDoor
open Go Go.RowKit
set_option maxRecDepth 100000 in
theorem bl7 {S : Nat → Prop} {w : World} {v : Value} {t : T3} (hS : Up S w) (h : TripV S w v t) (hnn : ¬ t.None) (hl : tl t 400000000000) (hf : Fits t.normal.x ∧ Fits t.normal.y ∧ Fits t.normal.z) :
  Gives Tryz.prog 75 [v] w fun v' w'=>Ext w w' ∧ TripV S w' v' t.normal:=by
 refine o8 (E:=env) (S0:=S) (G:=(triG v (t))) (l:=[.one (.ag 9 v)]) Tryz.func75 rfl rfl rfl ⟨h.ok,trivial⟩ rfl h ?_
 refine s_1 (fun x0=>.one (.ag 9 x0)) (fun x0=>triG x0 (t.normal)) ⟨a8,hS,b7⟩ (by kernel_rfl) (by kernel_rfl) (fun _ _ _ h=>⟨h.ok,rfl⟩) (fun β S w hS hs hw hG=>have h:=hG; ⟨_,(by kernel_rfl),b44 hS h hnn hl hf⟩) ?_
 intro x
 exact q8 (x) ⟨a8,hS,b7⟩ (by kernel_rfl) rfl (by kernel_rfl) (fun β=>(by kernel_rfl)) (fun S w hs hw hG=>have h2:=hG.1; ⟨hw,h2.mono fun k _ hk=>hs k hk⟩)
theorem cb2 {t : T3} {n : Nat} (h : tl t n) (hn : n ≤ 3344) : Fits t.x ∧ Fits t.y ∧ Fits t.z:=⟨T5 h.1 hn,T5 h.2.1 hn,T5 h.2.2 hn⟩
set_option maxRecDepth 100000 in
theorem G0 {S : Nat → Prop} {w : World} {vp vq : Value} {p q : T3} {m n k : Nat} (hS : Up S w) (hp : TripV S w vp p) (hq : TripV S w vq q) (hm : tl p m) (hn : tl q n) (hmn : 2 * (m + n + 1) + 1 ≤ 3344) (hk : tl (p.cross q).normal k) (hk2 : k ≤ 3344) (hs0 : ¬ T3.Same p q) :
  Gives Tryz.prog 42 [vp,vq] w fun v' w'=>Ext w w' ∧ TripV S w' v' (p.cross q).normal:=by
 refine o8 (E:=env) (S0:=S) (G:=((triG vp (p)).and (triG vq (q)))) (l:=[.one (.ag 9 vp),.one (.ag 9 vq)]) Tryz.func42 rfl rfl rfl ⟨hp.ok,hq.ok,trivial⟩ rfl ⟨hp,hq⟩ ?_
 refine s_1 (fun x0=>.one (.ag 9 x0)) (fun x0=>triG x0 ((p.cross q))) ⟨a8,hS,b7⟩ (by kernel_rfl) (by kernel_rfl) (fun _ _ _ h=>⟨h.ok,rfl⟩) (fun β S w hS hs hw hG=>have hp:=hG.1; have hq:=hG.2; ⟨_,(by kernel_rfl),Y6 hS hp hq hm hn hmn⟩) ?_
 intro c
 refine s_K (.one (.tp (p.cross q).None)) ⟨a8,hS,b7⟩ (by kernel_rfl) (by kernel_rfl) (j9 rfl) rfl (fun β S w hS hs hw hG=>have hc:=hG.1; ⟨_,(by kernel_rfl),ai5 hS hc⟩) ?_
 refine I5 (p:=(p.cross q).None) ⟨a8,hS,b7⟩ (by kernel_rfl) (by kernel_rfl) (by kernel_rfl) (hs0) ?_
 refine s_1 (fun x0=>.one (.ag 9 x0)) (fun x0=>triG x0 ((p.cross q).normal)) ⟨a8,hS,b7⟩ (by kernel_rfl) (by kernel_rfl) (fun _ _ _ h=>⟨h.ok,rfl⟩) (fun β S w hS hs hw hG=>have hc:=hG.1; ⟨_,(by kernel_rfl),bl7 hS hc hs0 (H4 (E5 hm hn) (by omega)) (cb2 hk hk2)⟩) ?_
 intro r
 exact q8 (r) ⟨a8,hS,b7⟩ (by kernel_rfl) rfl (by kernel_rfl) (fun β=>(by kernel_rfl)) (fun S w hs hw hG=>have hr:=hG.1; ⟨hw,hr.mono fun k _ hk=>hs k hk⟩)
set_option maxRecDepth 100000 in
theorem bn5 {S : Nat → Prop} {w : World} {vp vq : Value} {p q : T3} {m n : Nat} (hS : Up S w) (hp : TripV S w vp p) (hq : TripV S w vq q) (hm : tl p m) (hn : tl q n) (hmn : 2 * (m + n + 1) + 1 ≤ 3344) (hs0 : T3.Same p q) :
  Pan Tryz.prog 42 [vp,vq] w (failE 61):=by
 refine M7 (E:=env) (S0:=S) (G:=((triG vp (p)).and (triG vq (q)))) (l:=[.one (.ag 9 vp),.one (.ag 9 vq)]) Tryz.func42 rfl rfl rfl ⟨hp.ok,hq.ok,trivial⟩ rfl ⟨hp,hq⟩ ?_
 refine s_1 (fun x0=>.one (.ag 9 x0)) (fun x0=>triG x0 ((p.cross q))) ⟨a8,hS,b7⟩ (by kernel_rfl) (by kernel_rfl) (fun _ _ _ h=>⟨h.ok,rfl⟩) (fun β S w hS hs hw hG=>have hp:=hG.1; have hq:=hG.2; ⟨_,(by kernel_rfl),Y6 hS hp hq hm hn hmn⟩) ?_
 intro c
 refine s_K (.one (.tp (p.cross q).None)) ⟨a8,hS,b7⟩ (by kernel_rfl) (by kernel_rfl) (j9 rfl) rfl (fun β S w hS hs hw hG=>have hc:=hG.1; ⟨_,(by kernel_rfl),ai5 hS hc⟩) ?_
 refine R9 (p:=(p.cross q).None) ⟨a8,hS,b7⟩ (by kernel_rfl) (by kernel_rfl) (by kernel_rfl) (hs0) ?_
 exact s_X ⟨a8,hS,b7⟩ (by kernel_rfl) (by kernel_rfl) (fun β S w hS hs hw hG=>⟨_,(by kernel_rfl),ad8 (ay8 (e:=61)) hw⟩)
open Classical in
noncomputable def badE (t : T3) : Int:=if NoneL t.list then 60 else if LongL t.list then 11 else 0
open Classical in
noncomputable def checkT : List T3 → Int
 | []=>0
 | t :: r=>if badE t = 0 then checkT r else badE t
abbrev triF (x : Value) (t : T3) : Gh:=triG x t
abbrev trisG (v : Value) (l : List T3) : Gh:=seqG true 9 triF v l
theorem a13 {base : Bs} {hp : List HE} {β : Nat → Nat} {S : Nat → Prop} {w : World} {x : Value} {t : T3} (i : Nat) (T : TypeId) (hM : Mem base hp β w) (hb : nth hp i = some (.blk T [.ag 9 x])) (h : TripV S w x t) :
  SeqV true 3 ratF (fun k=>S k ∨ some k = Value.ownBlock (.slice (some ⟨β i,0,none⟩) 3 3)) w (.slice (some ⟨β i,0,none⟩) 3 3) t.list:=by
 rw [I9] at hb
 have hB:=(hM.blk i T _ hb).1
 obtain ⟨vs,e1,e2⟩:=h.els
 rw [V2,e1] at hB
 exact e2.seq (ae8 hB (Nat.zero_le _) (by decide) (by rw [L8 e2.lies,e2.len]; rfl)) rfl
theorem T8 {t : T3} {n : Nat} (h : tl t n) : ∀ x ∈ t.list,rl x n:=by
 intro x hx
 simp only [T3.list,List.mem_cons,List.not_mem_nil,or_false] at hx
 rcases hx with rfl | rfl | rfl
 ·exact h.1
 ·exact h.2.1
 ·exact h.2.2
theorem bd2 {t : T3} (h : badE t = 0) : ¬ NoneL t.list ∧ ¬ LongL t.list:=by
 unfold badE at h
 split at h
 ·cases h
 ·split at h
  ·cases h
  ·exact ⟨‹_›,‹_›⟩
theorem bf3 {S : Nat → Prop} {w : World} {v : Value} {t : T3} (ht : Tab w) (hS : Up S w) (h : SeqV true 3 ratF S w v t.list) (hl : tl t 1000000) (hb : badE t ≠ 0) : Pan Tryz.prog 60 [v] w (failE (badE t)):=by
 unfold badE at hb ⊢
 split
 ·exact bf1 hS h ‹_›
 ·rw [if_neg ‹_›] at hb
  split
  ·exact bh1 ht hS h (T8 hl) ‹_› ‹_›
  ·rw [if_neg ‹_›] at hb
   exact absurd rfl hb
theorem T3.getD_at {l : List T3} {j : Nat} (h : j < l.length) : l[j]? = some (l.getD j ⟨0,0,0⟩):=by rw [List.getD_eq_getElem?_getD,List.getElem?_eq_getElem h]; rfl
set_option maxRecDepth 100000 in
theorem R0 {S : Nat → Prop} {w : World} {v : Value} {l : List T3} (ht : Tab w) (hS : Up S w) (h : SeqV true 9 triF S w v l) (hl : ∀ t ∈ l,tl t 1000000) (hk : ∀ t ∈ l,badE t = 0) : Gives Tryz.prog 30 [v] w fun v' w'=>v' = .tuple #[] ∧ Ext w w':=by
 have hmx:=h.len_le
 unfold maxLen at hmx
 refine o8 (E:=env) (S0:=S) (G:=(trisG v l)) (l:=[.one (.sl v l.length)]) Tryz.func30 rfl rfl rfl ⟨h.sl,trivial⟩ rfl h ?_
 refine H2 (ι:=Nat) [(3,3),(6,12)] (fun j=>[(6,.one (.int .i64 (j : Int)))]) (fun _=>[]) (fun j=>(trisG v l)) (fun j=>j ≤ l.length) (fun j=>l.length - j) (0) ⟨a8,hS,b7⟩ (by kernel_rfl) (by kernel_rfl) (fun β=>(by kernel_rfl)) (fun β=>(by kernel_rfl)) (by kernel_rfl) (Nat.zero_le _) (fun S w hw hG=>⟨s9 rfl,fun p hp=>by cases hp⟩) (fun S w hw hG=>hG) (fun hso j hj=>?_)
 refine X3 (p:=(j : Int) < (l.length : Int)) ⟨a8,hS,b7⟩ (by kernel_rfl) (by kernel_rfl) (by kernel_rfl) (fun hlt=>?_) (fun hlt=>?_)
 ·have hlt' : j < l.length:=by omega
  have hx0:=T3.getD_at hlt'
  have hm:=List.mem_of_getElem? hx0
  refine q7 ⟨a8,hS,b7⟩ (by kernel_rfl) (ay0 v l.length (j : Int) 44 9 (fun u0=>atG true 9 (fun x0=>triG x0 ((l.getD j ⟨0,0,0⟩))) u0) (by kernel_rfl) ⟨a8,hS,b7⟩ (fun β S w hM hw hG=>have h:=hG; h.el rfl rfl hx0) ?_)
  intro u_1
  refine q7 ⟨a8,hS,b7⟩ (by kernel_rfl) (az5 u_1 44 9 true (fun x0=>.one (.ag 9 x0)) (fun x0=>triG x0 ((l.getD j ⟨0,0,0⟩))) (by kernel_rfl) ⟨a8,hS,b7⟩ (fun S w hw hG=>hG.1) (fun _ _ _ h=>⟨h.ok,rfl⟩) ?_)
  intro x
  refine am8 (.und) ⟨a8,hS,b7⟩ (by kernel_rfl) (by kernel_rfl) (j9 rfl) rfl (fun β S w hS hM hs hw hG=>have hx:=hG.1; ⟨_,(by kernel_rfl),as2 (ht.to hw) (B8 hS) (a13 0 44 hM (by kernel_rfl) hx) (T8 (hl _ hm)) (bd2 (hk _ hm)).1 (bd2 (hk _ hm)).2⟩) ?_
  refine I8 (ps:=[InR .i64 ((j : Int) + 1)]) ⟨a8,hS,b7⟩ (by kernel_rfl) (by simp only [AllT,InR,and_true]; omega) ?_
  exact F7 (j + 1) ⟨a8,hS,b7⟩ hso (by kernel_rfl) (by kernel_rfl) (fun β=>(by kernel_rfl)) (fun β=>(by kernel_rfl)) (by kernel_rfl) (by omega) (by omega) (fun S w hw hG=>⟨s9 rfl,fun p hp=>by cases hp⟩) (fun S w hw hG=>hG.2.2)
 ·refine I6 ⟨a8,hS,b7⟩ (by kernel_rfl) (by kernel_rfl) ?_
  exact q8 (.tuple #[]) ⟨a8,hS,b7⟩ (by kernel_rfl) rfl (by kernel_rfl) (fun β=>(by kernel_rfl)) (fun S w hs hw hG=>⟨rfl,hw⟩)
set_option maxRecDepth 100000 in
theorem ak4 {S : Nat → Prop} {w : World} {v : Value} {l : List T3} {n : Nat} (ht : Tab w) (hS : Up S w) (h : SeqV true 9 triF S w v l) (hl : ∀ t ∈ l,tl t 1000000) (hn : n < l.length) (hb : badE (l.getD n ⟨0,0,0⟩) ≠ 0) (hk : ∀ i,i < n → badE (l.getD i ⟨0,0,0⟩) = 0) : Pan Tryz.prog 30 [v] w (failE (badE (l.getD n ⟨0,0,0⟩))):=by
 have hmx:=h.len_le
 unfold maxLen at hmx
 refine M7 (E:=env) (S0:=S) (G:=(trisG v l)) (l:=[.one (.sl v l.length)]) Tryz.func30 rfl rfl rfl ⟨h.sl,trivial⟩ rfl h ?_
 refine H2 (ι:=Nat) [(3,3),(6,12)] (fun j=>[(6,.one (.int .i64 (j : Int)))]) (fun _=>[]) (fun j=>(trisG v l)) (fun j=>j ≤ n) (fun j=>n - j) (0) ⟨a8,hS,b7⟩ (by kernel_rfl) (by kernel_rfl) (fun β=>(by kernel_rfl)) (fun β=>(by kernel_rfl)) (by kernel_rfl) (Nat.zero_le _) (fun S w hw hG=>⟨s9 rfl,fun p hp=>by cases hp⟩) (fun S w hw hG=>hG) (fun hso j hj=>?_)
 have hlt' : j < l.length:=by omega
 refine R9 (p:=(j : Int) < (l.length : Int)) ⟨a8,hS,b7⟩ (by kernel_rfl) (by kernel_rfl) (by kernel_rfl) (by omega) ?_
 have hx0:=T3.getD_at hlt'
 have hm:=List.mem_of_getElem? hx0
 refine q7 ⟨a8,hS,b7⟩ (by kernel_rfl) (ay0 v l.length (j : Int) 44 9 (fun u0=>atG true 9 (fun x0=>triG x0 ((l.getD j ⟨0,0,0⟩))) u0) (by kernel_rfl) ⟨a8,hS,b7⟩ (fun β S w hM hw hG=>have h:=hG; h.el rfl rfl hx0) ?_)
 intro u_1
 refine q7 ⟨a8,hS,b7⟩ (by kernel_rfl) (az5 u_1 44 9 true (fun x0=>.one (.ag 9 x0)) (fun x0=>triG x0 ((l.getD j ⟨0,0,0⟩))) (by kernel_rfl) ⟨a8,hS,b7⟩ (fun S w hw hG=>hG.1) (fun _ _ _ h=>⟨h.ok,rfl⟩) ?_)
 intro x
 by_cases e : j = n
 ·subst e
  exact ch9 ⟨a8,hS,b7⟩ (by kernel_rfl) (by kernel_rfl) (fun β S w hS hM hs hw hG=>have hx:=hG.1; ⟨_,(by kernel_rfl),b91 (bf3 (ht.to hw) (B8 hS) (a13 0 44 hM (by kernel_rfl) hx) (hl _ hm) hb) (fun w' hk' ρ=>⟨rfl,hw.trans hk'⟩)⟩)
 ·have hj0:=bd2 (hk j (by omega))
  refine am8 (.und) ⟨a8,hS,b7⟩ (by kernel_rfl) (by kernel_rfl) (j9 rfl) rfl (fun β S w hS hM hs hw hG=>have hx:=hG.1; ⟨_,(by kernel_rfl),as2 (ht.to hw) (B8 hS) (a13 0 44 hM (by kernel_rfl) hx) (T8 (hl _ hm)) hj0.1 hj0.2⟩) ?_
  refine I8 (ps:=[InR .i64 ((j : Int) + 1)]) ⟨a8,hS,b7⟩ (by kernel_rfl) (by simp only [AllT,InR,and_true]; omega) ?_
  exact F7 (j + 1) ⟨a8,hS,b7⟩ hso (by kernel_rfl) (by kernel_rfl) (fun β=>(by kernel_rfl)) (fun β=>(by kernel_rfl)) (by kernel_rfl) (by omega) (by omega) (fun S w hw hG=>⟨s9 rfl,fun p hp=>by cases hp⟩) (fun S w hw hG=>hG.2.2)
end Go.Proofs.YtpheooheinfbgaaGreatDoor
end
section
set_option linter.unusedVariables false
set_option linter.unusedSimpArgs false
namespace Go.Proofs.YtpheooheinfbgaaGreatDoor
open Go Go.RowKit
abbrev triP (u : Value) (t : T3) : Gh:=atG true 9 (fun x=>triG x t) u
theorem ai9 {β : Nat → Nat} {n : Nat} : ∀ {vs : List Value},cellsL β (vs.map (Ch.ag n)) = catV vs:=by
 intro vs
 induction vs with
 | nil=>rfl
 | cons x r ih=>simp only [cellsL,catV,List.map_cons,List.flatMap_cons,Ch.cells] at ih ⊢; rw [ih]
theorem Q3 {α : Type} {base : Bs} {hp : List HE} {β : Nat → Nat} {g : Bool} {s : Nat} {F : Value → α → Gh} {S : Nat → Prop} {w : World} {l : List α} (i : Nat) (T : TypeId) (vs : List Value) (hM : Mem base hp β w) (hb : nth hp i = some (.blk T (vs.map (Ch.ag s)))) (h : ElsV g s F S w vs l) (hl : l.length ≤ maxLen) :
  SeqV g s F (fun k=>S k ∨ some k = Value.ownBlock (.slice (some ⟨β i,0,none⟩) l.length l.length)) w (.slice (some ⟨β i,0,none⟩) l.length l.length) l:=by
 rw [I9] at hb
 have hB:=(hM.blk i T _ hb).1
 rw [ai9] at hB
 exact h.seq (ae8 hB (Nat.zero_le _) hl (by rw [L8 h.lies,h.len])) rfl
theorem TripV.lies {S : Nat → Prop} {w : World} {v : Value} {t : T3} (h : TripV S w v t) : Lies true 9 v := by
  obtain ⟨a, b, c, rfl, h1, h2, h3⟩ := h
  have e := ac1 h1.lies h2.lies h3.lies
  refine ⟨by rw [e, L8 (g := true) (s := 3) (vs := [a, b, c])]; · rfl
             · intro x hx
               simp only [List.mem_cons, List.not_mem_nil, or_false] at hx
               rcases hx with rfl | rfl | rfl
               · exact h1.lies
               · exact h2.lies
               · exact h3.lies, ?_⟩
  simp [tri3, SV.den, Value.cells]
theorem bv4 {S : Nat → Prop} {w : World} {a b : Value} {p q : T3} (h1 : TripV S w a p) (h2 : TripV S w b q) : ElsV true 9 triF S w [a,b] [p,q]:=by
 refine ⟨rfl,fun x hx=>?_,fun i t x hq hx=>?_⟩
 ·simp only [List.mem_cons,List.not_mem_nil,or_false] at hx
  rcases hx with rfl | rfl
  ·exact h1.lies
  ·exact h2.lies
 ·match i with
  | 0=>simp at hq hx; subst hq hx; exact h1
  | 1=>simp at hq hx; subst hq hx; exact h2
  | i + 2=>simp at hq
theorem bb6 {p q : T3} {P : T3 → Prop} (h1 : P p) (h2 : P q) : ∀ t ∈ [p,q],P t:=by
 intro t ht
 simp only [List.mem_cons,List.not_mem_nil,or_false] at ht
 rcases ht with rfl | rfl
 ·exact h1
 ·exact h2
set_option maxRecDepth 100000 in
theorem bz9 {S : Nat → Prop} {w : World} {u1 u2 : Value} {p q : T3} {m n k : Nat} (ht : Tab w) (hS : Up S w) (o1 : u1.oneCell' = true) (o2 : u2.oneCell' = true) (h1 : (triP u1 p).p S w) (h2 : (triP u2 q).p S w) (hm : tl p m) (hn : tl q n) (hmn : 2 * (m + n + 1) + 1 ≤ 3344) (hk : tl (p.cross q).normal k) (hk2 : k ≤ 3344)
  (hp0 : badE p = 0) (hq0 : badE q = 0) (hs0 : ¬ T3.Same p q) :
  Gives Tryz.prog 41 [u1,u2] w fun v' w'=>Ext w w' ∧ TripV S w' v' (p.cross q).normal:=by
 refine o8 (E:=env) (S0:=S) (G:=((triP u1 p).and (triP u2 q))) (l:=[.one (.val u1),.one (.val u2)]) Tryz.func41 rfl rfl rfl ⟨o1,o2,trivial⟩ rfl ⟨h1,h2⟩ ?_
 refine q7 ⟨a8,hS,b7⟩ (by kernel_rfl) (E0 u1 44 9 true (fun x0=>.one (.ag 9 x0)) (fun x0=>triG x0 (p)) (by kernel_rfl) ⟨a8,hS,b7⟩ (fun _ _ _ h=>⟨h.ok,rfl⟩) (fun β S w hM hw hG=>have h1:=hG.1; let ⟨y,e1,e2,e3⟩:=h1; ⟨S,y,e1,e2,e3⟩) ?_)
 intro x
 refine q7 ⟨a8,hS,b7⟩ (by kernel_rfl) (E0 u2 44 9 true (fun x0=>.one (.ag 9 x0)) (fun x0=>triG x0 (q)) (by kernel_rfl) ⟨a8,hS,b7⟩ (fun _ _ _ h=>⟨h.ok,rfl⟩) (fun β S w hM hw hG=>have h2:=hG.2.2; let ⟨y,e1,e2,e3⟩:=h2; ⟨S,y,e1,e2,e3⟩) ?_)
 intro y
 refine am8 (.und) ⟨a8,hS,b7⟩ (by kernel_rfl) (by kernel_rfl) (j9 rfl) rfl (fun β S w hS hM hs hw hG=>have hy:=hG.1; have hx:=hG.2.1; ⟨_,(by kernel_rfl),R0 (ht.to hw) (B8 hS) (Q3 1 44 [x,y] hM (by kernel_rfl) (bv4 hx hy) (show 2 ≤ maxLen by decide)) (bb6 (H4 hm (by omega)) (H4 hn (by omega))) (bb6 hp0 hq0)⟩) ?_
 refine q7 ⟨a8,hS,b7⟩ (by kernel_rfl) (E0 u1 44 9 true (fun x0=>.one (.ag 9 x0)) (fun x0=>triG x0 (p)) (by kernel_rfl) ⟨a8,hS,b7⟩ (fun _ _ _ h=>⟨h.ok,rfl⟩) (fun β S w hM hw hG=>have h1:=hG.2.2.1; let ⟨y,e1,e2,e3⟩:=h1; ⟨S,y,e1,e2,e3⟩) ?_)
 intro x2
 refine q7 ⟨a8,hS,b7⟩ (by kernel_rfl) (E0 u2 44 9 true (fun x0=>.one (.ag 9 x0)) (fun x0=>triG x0 (q)) (by kernel_rfl) ⟨a8,hS,b7⟩ (fun _ _ _ h=>⟨h.ok,rfl⟩) (fun β S w hM hw hG=>have h2:=hG.2.2.2.2; let ⟨y,e1,e2,e3⟩:=h2; ⟨S,y,e1,e2,e3⟩) ?_)
 intro y2
 refine s_1 (fun x0=>.one (.ag 9 x0)) (fun x0=>triG x0 ((p.cross q).normal)) ⟨a8,hS,b7⟩ (by kernel_rfl) (by kernel_rfl) (fun _ _ _ h=>⟨h.ok,rfl⟩) (fun β S w hS hs hw hG=>have hy2:=hG.1; have hx2:=hG.2.1; ⟨_,(by kernel_rfl),G0 hS hx2 hy2 hm hn hmn hk hk2 hs0⟩) ?_
 intro r
 exact q8 (r) ⟨a8,hS,b7⟩ (by kernel_rfl) rfl (by kernel_rfl) (fun β=>(by kernel_rfl)) (fun S w hs hw hG=>have hr:=hG.1; ⟨hw,hr.mono fun k _ hk=>hs k hk⟩)
set_option maxRecDepth 100000 in
theorem bw3 {S : Nat → Prop} {w : World} {u1 u2 : Value} {p q : T3} {m n : Nat} (ht : Tab w) (hS : Up S w) (o1 : u1.oneCell' = true) (o2 : u2.oneCell' = true) (h1 : (triP u1 p).p S w) (h2 : (triP u2 q).p S w) (hm : tl p m) (hn : tl q n) (hmn : 2 * (m + n + 1) + 1 ≤ 3344)
  (hp0 : badE p = 0) (hq0 : badE q = 0) (hs0 : T3.Same p q) :
  Pan Tryz.prog 41 [u1,u2] w (failE 61):=by
 refine M7 (E:=env) (S0:=S) (G:=((triP u1 p).and (triP u2 q))) (l:=[.one (.val u1),.one (.val u2)]) Tryz.func41 rfl rfl rfl ⟨o1,o2,trivial⟩ rfl ⟨h1,h2⟩ ?_
 refine q7 ⟨a8,hS,b7⟩ (by kernel_rfl) (E0 u1 44 9 true (fun x0=>.one (.ag 9 x0)) (fun x0=>triG x0 (p)) (by kernel_rfl) ⟨a8,hS,b7⟩ (fun _ _ _ h=>⟨h.ok,rfl⟩) (fun β S w hM hw hG=>have h1:=hG.1; let ⟨y,e1,e2,e3⟩:=h1; ⟨S,y,e1,e2,e3⟩) ?_)
 intro x
 refine q7 ⟨a8,hS,b7⟩ (by kernel_rfl) (E0 u2 44 9 true (fun x0=>.one (.ag 9 x0)) (fun x0=>triG x0 (q)) (by kernel_rfl) ⟨a8,hS,b7⟩ (fun _ _ _ h=>⟨h.ok,rfl⟩) (fun β S w hM hw hG=>have h2:=hG.2.2; let ⟨y,e1,e2,e3⟩:=h2; ⟨S,y,e1,e2,e3⟩) ?_)
 intro y
 refine am8 (.und) ⟨a8,hS,b7⟩ (by kernel_rfl) (by kernel_rfl) (j9 rfl) rfl (fun β S w hS hM hs hw hG=>have hy:=hG.1; have hx:=hG.2.1; ⟨_,(by kernel_rfl),R0 (ht.to hw) (B8 hS) (Q3 1 44 [x,y] hM (by kernel_rfl) (bv4 hx hy) (show 2 ≤ maxLen by decide)) (bb6 (H4 hm (by omega)) (H4 hn (by omega))) (bb6 hp0 hq0)⟩) ?_
 refine q7 ⟨a8,hS,b7⟩ (by kernel_rfl) (E0 u1 44 9 true (fun x0=>.one (.ag 9 x0)) (fun x0=>triG x0 (p)) (by kernel_rfl) ⟨a8,hS,b7⟩ (fun _ _ _ h=>⟨h.ok,rfl⟩) (fun β S w hM hw hG=>have h1:=hG.2.2.1; let ⟨y,e1,e2,e3⟩:=h1; ⟨S,y,e1,e2,e3⟩) ?_)
 intro x2
 refine q7 ⟨a8,hS,b7⟩ (by kernel_rfl) (E0 u2 44 9 true (fun x0=>.one (.ag 9 x0)) (fun x0=>triG x0 (q)) (by kernel_rfl) ⟨a8,hS,b7⟩ (fun _ _ _ h=>⟨h.ok,rfl⟩) (fun β S w hM hw hG=>have h2:=hG.2.2.2.2; let ⟨y,e1,e2,e3⟩:=h2; ⟨S,y,e1,e2,e3⟩) ?_)
 intro y2
 exact s_X ⟨a8,hS,b7⟩ (by kernel_rfl) (by kernel_rfl) (fun β S w hS hs hw hG=>have hy2:=hG.1; have hx2:=hG.2.1; ⟨_,(by kernel_rfl),ad8 (bn5 hS hx2 hy2 hm hn hmn hs0) hw⟩)
noncomputable def bad2 (p q : T3) : Int:=if badE p = 0 then badE q else badE p
theorem ao3 {S : Nat → Prop} {w : World} {v : Value} {p q : T3} (ht : Tab w) (hS : Up S w) (h : SeqV true 9 triF S w v [p,q]) (hm : tl p 1000000) (hn : tl q 1000000) (hb : bad2 p q ≠ 0) : Pan Tryz.prog 30 [v] w (failE (bad2 p q)):=by
 unfold bad2 at hb ⊢
 split
 ·rename_i e
  rw [if_pos e] at hb
  exact ak4 (n:=1) ht hS h (bb6 hm hn) (show 1 < 2 by decide) hb (fun i hi=>by
   obtain rfl : i = 0:=by omega
   exact e)
 ·rename_i e
  exact ak4 (n:=0) ht hS h (bb6 hm hn) (show 0 < 2 by decide) e (fun i hi=>by omega)
set_option maxRecDepth 100000 in
theorem bz5 {S : Nat → Prop} {w : World} {u1 u2 : Value} {p q : T3} (ht : Tab w) (hS : Up S w) (o1 : u1.oneCell' = true) (o2 : u2.oneCell' = true) (h1 : (triP u1 p).p S w) (h2 : (triP u2 q).p S w) (hm : tl p 1000000) (hn : tl q 1000000) (hb : bad2 p q ≠ 0) :
  Pan Tryz.prog 41 [u1,u2] w (failE (bad2 p q)):=by
 refine M7 (E:=env) (S0:=S) (G:=((triP u1 p).and (triP u2 q))) (l:=[.one (.val u1),.one (.val u2)]) Tryz.func41 rfl rfl rfl ⟨o1,o2,trivial⟩ rfl ⟨h1,h2⟩ ?_
 refine q7 ⟨a8,hS,b7⟩ (by kernel_rfl) (E0 u1 44 9 true (fun x0=>.one (.ag 9 x0)) (fun x0=>triG x0 (p)) (by kernel_rfl) ⟨a8,hS,b7⟩ (fun _ _ _ h=>⟨h.ok,rfl⟩) (fun β S w hM hw hG=>have h1:=hG.1; let ⟨y,e1,e2,e3⟩:=h1; ⟨S,y,e1,e2,e3⟩) ?_)
 intro x
 refine q7 ⟨a8,hS,b7⟩ (by kernel_rfl) (E0 u2 44 9 true (fun x0=>.one (.ag 9 x0)) (fun x0=>triG x0 (q)) (by kernel_rfl) ⟨a8,hS,b7⟩ (fun _ _ _ h=>⟨h.ok,rfl⟩) (fun β S w hM hw hG=>have h2:=hG.2.2; let ⟨y,e1,e2,e3⟩:=h2; ⟨S,y,e1,e2,e3⟩) ?_)
 intro y
 exact ch9 ⟨a8,hS,b7⟩ (by kernel_rfl) (by kernel_rfl) (fun β S w hS hM hs hw hG=>have hy:=hG.1; have hx:=hG.2.1; ⟨_,(by kernel_rfl),ad8 (ao3 (ht.to hw) (B8 hS) (Q3 1 44 [x,y] hM (by kernel_rfl) (bv4 hx hy) (show 2 ≤ maxLen by decide)) hm hn hb) hw⟩)
set_option maxRecDepth 100000 in
theorem cg9 {S : Nat → Prop} {w : World} {u1 u2 : Value} {p q : T3} {m n : Nat} (ht : Tab w) (hS : Up S w) (o1 : u1.oneCell' = true) (o2 : u2.oneCell' = true) (h1 : (triP u1 p).p S w) (h2 : (triP u2 q).p S w) (hm : tl p m) (hn : tl q n) (hmn : 3 * (m + n + 1) + 1 ≤ 3344) (hp0 : badE p = 0) (hq0 : badE q = 0) :
  Gives Tryz.prog 37 [u1,u2] w fun v' w'=>v' = .bool (tst (p.dot q = 0)) ∧ Ext w w':=by
 refine o8 (E:=env) (S0:=S) (G:=((triP u1 p).and (triP u2 q))) (l:=[.one (.val u1),.one (.val u2)]) Tryz.func37 rfl rfl rfl ⟨o1,o2,trivial⟩ rfl ⟨h1,h2⟩ ?_
 refine q7 ⟨a8,hS,b7⟩ (by kernel_rfl) (E0 u1 44 9 true (fun x0=>.one (.ag 9 x0)) (fun x0=>triG x0 (p)) (by kernel_rfl) ⟨a8,hS,b7⟩ (fun _ _ _ h=>⟨h.ok,rfl⟩) (fun β S w hM hw hG=>have h1:=hG.1; let ⟨y,e1,e2,e3⟩:=h1; ⟨S,y,e1,e2,e3⟩) ?_)
 intro x
 refine q7 ⟨a8,hS,b7⟩ (by kernel_rfl) (E0 u2 44 9 true (fun x0=>.one (.ag 9 x0)) (fun x0=>triG x0 (q)) (by kernel_rfl) ⟨a8,hS,b7⟩ (fun _ _ _ h=>⟨h.ok,rfl⟩) (fun β S w hM hw hG=>have h2:=hG.2.2; let ⟨y,e1,e2,e3⟩:=h2; ⟨S,y,e1,e2,e3⟩) ?_)
 intro y
 refine am8 (.und) ⟨a8,hS,b7⟩ (by kernel_rfl) (by kernel_rfl) (j9 rfl) rfl (fun β S w hS hM hs hw hG=>have hy:=hG.1; have hx:=hG.2.1; ⟨_,(by kernel_rfl),R0 (ht.to hw) (B8 hS) (Q3 0 44 [x,y] hM (by kernel_rfl) (bv4 hx hy) (show 2 ≤ maxLen by decide)) (bb6 (H4 hm (by omega)) (H4 hn (by omega))) (bb6 hp0 hq0)⟩) ?_
 refine q7 ⟨a8,hS,b7⟩ (by kernel_rfl) (E0 u1 44 9 true (fun x0=>.one (.ag 9 x0)) (fun x0=>triG x0 (p)) (by kernel_rfl) ⟨a8,hS,b7⟩ (fun _ _ _ h=>⟨h.ok,rfl⟩) (fun β S w hM hw hG=>have h1:=hG.2.2.1; let ⟨y,e1,e2,e3⟩:=h1; ⟨S,y,e1,e2,e3⟩) ?_)
 intro x2
 refine q7 ⟨a8,hS,b7⟩ (by kernel_rfl) (E0 u2 44 9 true (fun x0=>.one (.ag 9 x0)) (fun x0=>triG x0 (q)) (by kernel_rfl) ⟨a8,hS,b7⟩ (fun _ _ _ h=>⟨h.ok,rfl⟩) (fun β S w hM hw hG=>have h2:=hG.2.2.2.2; let ⟨y,e1,e2,e3⟩:=h2; ⟨S,y,e1,e2,e3⟩) ?_)
 intro y2
 refine s_1 (fun x0=>.one (.ag 3 x0)) (fun x0=>ratG x0 ((p.dot q))) ⟨a8,hS,b7⟩ (by kernel_rfl) (by kernel_rfl) (fun _ _ _ h=>⟨h.ok,rfl⟩) (fun β S w hS hs hw hG=>have hy2:=hG.1; have hx2:=hG.2.1; ⟨_,(by kernel_rfl),b64 hS hx2 hy2 hm hn hmn⟩) ?_
 intro r
 refine s_K (.one (.tp (p.dot q = 0))) ⟨a8,hS,b7⟩ (by kernel_rfl) (by kernel_rfl) (j9 rfl) rfl (fun β S w hS hs hw hG=>have hr:=hG.1; ⟨_,(by kernel_rfl),G6 hS hr⟩) ?_
 exact q8 (.bool (tst (p.dot q = 0))) ⟨a8,hS,b7⟩ (by kernel_rfl) rfl (by kernel_rfl) (fun β=>(by kernel_rfl)) (fun S w hs hw hG=>⟨rfl,hw⟩)
set_option maxRecDepth 100000 in
theorem cl3 {S : Nat → Prop} {w : World} {u1 u2 : Value} {p q : T3} (ht : Tab w) (hS : Up S w) (o1 : u1.oneCell' = true) (o2 : u2.oneCell' = true) (h1 : (triP u1 p).p S w) (h2 : (triP u2 q).p S w) (hm : tl p 1000000) (hn : tl q 1000000) (hb : bad2 p q ≠ 0) :
  Pan Tryz.prog 37 [u1,u2] w (failE (bad2 p q)):=by
 refine M7 (E:=env) (S0:=S) (G:=((triP u1 p).and (triP u2 q))) (l:=[.one (.val u1),.one (.val u2)]) Tryz.func37 rfl rfl rfl ⟨o1,o2,trivial⟩ rfl ⟨h1,h2⟩ ?_
 refine q7 ⟨a8,hS,b7⟩ (by kernel_rfl) (E0 u1 44 9 true (fun x0=>.one (.ag 9 x0)) (fun x0=>triG x0 (p)) (by kernel_rfl) ⟨a8,hS,b7⟩ (fun _ _ _ h=>⟨h.ok,rfl⟩) (fun β S w hM hw hG=>have h1:=hG.1; let ⟨y,e1,e2,e3⟩:=h1; ⟨S,y,e1,e2,e3⟩) ?_)
 intro x
 refine q7 ⟨a8,hS,b7⟩ (by kernel_rfl) (E0 u2 44 9 true (fun x0=>.one (.ag 9 x0)) (fun x0=>triG x0 (q)) (by kernel_rfl) ⟨a8,hS,b7⟩ (fun _ _ _ h=>⟨h.ok,rfl⟩) (fun β S w hM hw hG=>have h2:=hG.2.2; let ⟨y,e1,e2,e3⟩:=h2; ⟨S,y,e1,e2,e3⟩) ?_)
 intro y
 exact ch9 ⟨a8,hS,b7⟩ (by kernel_rfl) (by kernel_rfl) (fun β S w hS hM hs hw hG=>have hy:=hG.1; have hx:=hG.2.1; ⟨_,(by kernel_rfl),ad8 (ao3 (ht.to hw) (B8 hS) (Q3 0 44 [x,y] hM (by kernel_rfl) (bv4 hx hy) (show 2 ≤ maxLen by decide)) hm hn hb) hw⟩)
end Go.Proofs.YtpheooheinfbgaaGreatDoor
end
section
set_option linter.unusedVariables false
set_option linter.unusedSimpArgs false
namespace Go.Proofs.YtpheooheinfbgaaGreatDoor
open Go Go.RowKit
def zero9 : List Value:=[.bool false,.slice none 0 0,.slice none 0 0,.bool false,.slice none 0 0,.slice none 0 0,.bool false,.slice none 0 0,.slice none 0 0]
theorem av4 : ∀ v ∈ zero9,v.oneCell' = true:=by
 intro v hv
 simp only [zero9,List.mem_cons,List.not_mem_nil,or_false] at hv
 rcases hv with rfl | rfl | rfl | rfl | rfl | rfl | rfl | rfl | rfl <;> rfl
theorem a78 {w : World} {g1 g2 : Nat} : GivesD Tryz.prog 72 [.pointer (some ⟨g1,0,none⟩),.pointer (some ⟨g2,0,none⟩)] .returning w fun u' w'=>u' = .returning ∧ w' = w:=by
 refine E2 Tryz.func72 rfl rfl rfl rfl rfl (.inl ⟨rfl,rfl,rfl⟩) ?_
 repeat (first | refine M9 rfl ?_ | refine a7 ?_ | refine b8 ?_ | refine d7 (by conv=>(lhs; whnf)) ?_ | refine b9 ?_ | refine d6 ?_ | refine wp_skip ?_ | refine wp_cond_false rfl ?_)
 exact ⟨[],rfl,rfl,rfl⟩
theorem a36 {w : World} {g1 g2 : Nat} {cs1 : List Value} {e : Value} {E : Int} (h1 : Blk w g1 44 cs1) (hl : cs1.length = 9) (h2 : Blk w g2 46 [e]) :
  GivesD Tryz.prog 72 [.pointer (some ⟨g1,0,none⟩),.pointer (some ⟨g2,0,none⟩)] (.panicking (failE E)) w fun u' w'=>settle u' = .returning ∧
   Keeps (fun k=>k ≠ g1 ∧ k ≠ g2) w w' ∧ Blk w' g1 44 zero9 ∧ Blk w' g2 46 [.int .i64 E]:=by
 have hne : g1 ≠ g2:=h1.ne h2 (by decide)
 refine E2 Tryz.func72 rfl rfl rfl rfl rfl (.inr ⟨_,rfl,rfl,rfl⟩) ?_
 repeat (first | refine U0 rfl ?_ | refine ag0 rfl ?_ | refine a7 ?_ | refine b8 ?_ | refine d7 (by conv=>(lhs; whnf)) ?_ | refine b9 ?_ | refine d6 ?_ | refine A4 rfl rfl ?_ | refine wp_cond_true rfl ?_)
 refine p6 (cs:=[.int .i64 0]) rfl ?_
 intro w1 g3 k1 hg3 hgs3
 have hl1:=h1.lt
 have hl2:=h2.lt
 refine y6 (us:=[.int .i64 E]) rfl (by conv=>(lhs; whnf)) rfl rfl hg3 rfl (fun v hv=>by rw [List.mem_singleton.1 hv]; rfl) ?_
 intro w2 k2 hg32
 repeat (first | refine af8 rfl ?_ | refine a7 ?_ | refine d8 ?_ | refine b8 ?_ | refine d7 (by conv=>(lhs; whnf)) ?_ | refine c7 (by conv=>(lhs; whnf)) ?_ | refine b9 ?_ | refine d6 ?_ | refine wp_skip ?_ | refine wp_cond_false rfl ?_)
 refine p6 (cs:=zero9) rfl ?_
 intro w3 g5 k3 hg5 hgs5
 have k : Ext w w3:=(Keeps.past k1 k2 hgs3).trans k3
 have hg33:=hg32.to k3
 have hl3:=hg32.lt
 repeat (first | refine b9 ?_ | refine d6 ?_)
 refine ab0 (R:=OneW g1 44 cs1 zero9) 4 OneW.trans OneW.drew (by kernel_rfl) (by kernel_rfl) ?_
 apply C9
 ·intro x w1 k1 hd
  refine n6 rfl (hg5.wr k1.1 (by omega)) rfl ?_
  refine b9 ?_
  exact J7 OneW.refl
 apply C9
 ·intro x w1 k1 hd
  refine j4 rfl ?_
  refine b9 ?_
  exact J7 OneW.refl
 apply C9
 ·intro x w1 k1 hd
  refine f5 rfl (hg33.wr k1.1 (by omega)) rfl ?_
  refine b9 ?_
  exact J7 OneW.refl
 refine C9 (e:=EntR.of (fun v w=>Blk w g1 44 zero9) (fun v w w' h k=>k.2.2 h)) ?_ ?_
 ·intro x w1 k1 hd
  rcases k1.2.1 (.inl (h1.to k)) with hgx | hgx
  ·refine y6 (us:=zero9) rfl (by conv=>(lhs; whnf)) rfl rfl hgx hl av4 ?_
   intro w12 k12 hg12
   exact b9 (O8 (OneW.wrote k12 hg12) hg12)
  ·refine y6 (us:=zero9) rfl (by conv=>(lhs; whnf)) rfl rfl hgx rfl av4 ?_
   intro w12 k12 hg12
   exact b9 (O8 (OneW.wrote k12 hg12) hg12)
 refine ao0 (an0 ?_)
 intro x w12 k12 hall
 have h14 : Blk w12 g1 44 zero9:=hall.1
 refine G4 (u:=.int .i64 E) rfl rfl ((h2.to k).wr k12.1 (fun e=>hne e.symm)) (show 0 < 1 by decide) rfl ?_
 intro w5 k5 h25
 repeat (first | refine b9 ?_)
 refine ⟨[],rfl,rfl,?_,h14.wr k5 hne,h25⟩
 exact ((Keeps.of k).trans (k12.1.mono fun i hi=>hi.1)).trans (k5.mono fun i hi=>hi.2)
theorem ap2 {S : Nat → Prop} {w : World} {F : FuncId} [ci : CallI Tryz.prog F] {cap : List Value} {t : T3} {E : Int} {Y Z : Prop} (hS : Up S w)
  (h : ∀ S' w',Up S' w' → Ext w w' → (∀ k,S' k → S k) → (∀ k,k < w.heap.size → S k → S' k) → GivesE Tryz.prog F cap w' (fun v w''=>Ext w' w'' ∧ TripV S' w'' v t ∧ Y) fun ch w''=>ch = failE E ∧ Ext w' w'' ∧ Z) :
  Gives Tryz.prog 40 [.func (.func F) #[] cap.toArray] w fun v' w'=>Ext w w' ∧ ((∃ x,v' = .tuple #[x,.int .i64 0] ∧ TripV S w' x t ∧ Y) ∨ (v' = .tuple #[.agg zero9.toArray,.int .i64 E] ∧ Z)):=by
 refine M5 Tryz.func40 rfl rfl rfl ?_
 refine an6 ?_
 repeat (first | refine b8 ?_)
 refine p6 (cs:=zero9) rfl ?_
 intro w1 g1 k1 hg1 hgs1
 skip
 refine p6 (cs:=[.int .i64 0]) rfl ?_
 intro w2 g2 k2 hg2 hgs2
 have hgl:=hg1.lt
 have hgl2:=hg2.lt
 replace hg1:=hg1.to k2
 have k:=k1.trans k2
 have hk1:=k1.size
 have hk2:=k2.size
 have hS2 : Up (fun k=>S k ∧ k ≠ g1 ∧ k ≠ g2) w2:=fun i hi=>⟨hS i (by omega),by omega,by omega⟩
 have hc:=h (fun k=>S k ∧ k ≠ g1 ∧ k ≠ g2) w2 hS2 k (fun _ h=>h.1) (fun i hi hs=>⟨hs,by omega,by omega⟩)
 repeat (first | refine b9 ?_ | refine d6 ?_)
 refine O5 ?_
 refine an2 ?_ (fun e a ρ w hm hq=>ah7 hm hq)
 repeat (first | refine a7 ?_ | refine b8 ?_ | refine d7 (by conv=>(lhs; whnf)) ?_)
 refine af0 (first:=[]) (cap:=cap) rfl hc rfl ?_ ?_
 ·rintro v3 w3 ⟨k3,hf,hy⟩
  obtain ⟨us,hv,hul,hu1⟩:=hf.ok
  skip
  refine y6 (us:=us) rfl (by conv=>(lhs; whnf)) (by rw [hv]; rfl) hul (hg1.to k3) rfl hu1 ?_
  intro w4 k4 hg4
  have hg24:=(hg2.to k3).wr k4 (by omega)
  refine G4 (u:=.int .i64 0) rfl rfl hg24 (show 0 < 1 by decide) rfl ?_
  intro w5 k5 hg5
  have hg45:=hg4.wr k5 (by omega)
  repeat (first | refine b9 ?_ | refine d6 ?_ | refine wp_ret ?_)
  refine a78.mono ?_
  rintro u' w' ⟨rfl,rfl⟩
  refine ⟨rfl,[.agg us.toArray,.int .i64 0],⟨_,_,n8 (by conv=>(lhs; whnf)) hg45 hul,⟨_,_,J4 (by conv=>(lhs; whnf)) hg5,rfl,rfl⟩,rfl⟩,?_⟩
  refine ⟨((Keeps.past (k.trans k3) k4 (by omega)).past k5 (by omega)),.inl ⟨_,rfl,?_,hy⟩⟩
  rw [← hv]
  exact ((hf.keep (k4.mono fun i hi=>hi.2.1)).keep (k5.mono fun i hi=>hi.2.2)).mono fun i _ hi=>hi.1
 ·rintro ch w3 ⟨rfl,k3,hf⟩
  refine G8 ?_
  refine (a36 (hg1.to k3) rfl (hg2.to k3)).mono ?_
  rintro u' w' ⟨hu,k4,h1,h2⟩
  refine ⟨hu,[.agg zero9.toArray,.int .i64 E],⟨_,_,n8 (by conv=>(lhs; whnf)) h1 rfl,⟨_,_,J4 (by conv=>(lhs; whnf)) h2,rfl,rfl⟩,rfl⟩,?_⟩
  exact ⟨Keeps.later (k.trans k3) k4 (fun i hi _=>⟨by omega,by omega⟩),.inr ⟨rfl,hf⟩⟩
end Go.Proofs.YtpheooheinfbgaaGreatDoor
end
section
set_option linter.unusedVariables false
set_option linter.unusedSimpArgs false
namespace Go.Proofs.YtpheooheinfbgaaGreatDoor
open Go Go.RowKit
theorem Gives.toE {P : Program} {f : FuncId} {args : List Value} {w : World} {Ψ : Value → World → Prop} {Φ : List PanicEntry → World → Prop} (h : Gives P f args w Ψ) : GivesE P f args w Ψ Φ:=
 Calls.mono h fun e w' ⟨v,he,hv⟩=>by subst he; exact hv
abbrev ttryG (v : Value) (t : T3) (e : Int) : Gh:=⟨fun S w=>v = .tuple #[tupAt v,.int .i64 e] ∧ TripV S w (tupAt v) t,fun h k=>⟨h.1,h.2.keep k⟩,fun h k=>⟨h.1,h.2.mono k⟩⟩
theorem a39 {v : Value} {t : T3} {e : Int} {S : Nat → Prop} {w : World} (h : (ttryG v t e).p S w) : (pr (.ag 9 (tupAt v)) (.int .i64 e)).Ok 0 ∧ (pr (.ag 9 (tupAt v)) (.int .i64 e)).den (fun _=>0) = v:=⟨a69 h.2.ok trivial,h.1.symm⟩
theorem bw1 {S : Nat → Prop} {w : World} : TripV S w (.agg zero9.toArray) ⟨0,0,0⟩:=⟨_,_,_,rfl,R1,R1,R1⟩
theorem ae6 {S : Nat → Prop} {w : World} {u v : Value} {t : T3} {T : TypeId} (h : (blkG u T (cellsL (fun _=>0) [.ag 9 v])).p S w) (hv : TripV S w v t) : (triP u t).p S w:=by
 obtain ⟨b,rfl,hs,hB⟩:=h
 rw [V2] at hB
 exact ⟨v,hv.lies,⟨b,0,v.cells.toList.toArray,T,(0,0),rfl,hs,hB,by simp,by rw [List.drop_zero]; exact List.take_of_length_le (Nat.le_refl _)⟩,hv⟩
theorem ab6 {S : Nat → Prop} {w : World} {u : Value} {T : TypeId} {cs : List Value} (h : (blkG u T cs).p S w) : u.oneCell' = true:=by
 obtain ⟨b,rfl,_⟩:=h
 rfl
noncomputable def joinE (p q : T3) : Int:=if bad2 p q = 0 then (if T3.Same p q then 61 else 0) else bad2 p q
noncomputable def joinT (p q : T3) : T3:=if joinE p q = 0 then (p.cross q).normal else ⟨0,0,0⟩
theorem bl2 {p q : T3} (h : bad2 p q = 0) : badE p = 0 ∧ badE q = 0:=by
 unfold bad2 at h
 split at h
 ·exact ⟨‹_›,h⟩
 ·exact absurd h ‹_›
theorem bz1 {S : Nat → Prop} {w : World} {u1 u2 : Value} {p q : T3} {m n k : Nat} (ht : Tab w) (hS : Up S w) (o1 : u1.oneCell' = true) (o2 : u2.oneCell' = true) (h1 : (triP u1 p).p S w) (h2 : (triP u2 q).p S w) (hm : tl p m) (hn : tl q n) (hmn : 2 * (m + n + 1) + 1 ≤ 3344) (hk : tl (p.cross q).normal k) (hk2 : k ≤ 3344) :
  Gives Tryz.prog 40 [.func (.func 41) #[] #[u1,u2]] w fun v' w'=>Ext w w' ∧ (ttryG v' (joinT p q) (joinE p q)).p S w':=by
 have key : ∀ S' w',Up S' w' → Ext w w' → (∀ k,S' k → S k) → (∀ k,k < w.heap.size → S k → S' k) → GivesE Tryz.prog 41 [u1,u2] w' (fun v w''=>Ext w' w'' ∧ TripV S' w'' v (joinT p q) ∧ joinE p q = 0) fun ch w''=>ch = failE (joinE p q) ∧ Ext w' w'' ∧ ¬ joinE p q = 0:=by
  intro S' w' hS' k' _ hs'
  have g1:=(triP u1 p).keep ((triP u1 p).mono h1 hs') (.of k')
  have g2:=(triP u2 q).keep ((triP u2 q).mono h2 hs') (.of k')
  by_cases hb : bad2 p q = 0
  ·obtain ⟨b1,b2⟩:=bl2 hb
   by_cases hs : T3.Same p q
   ·have e : joinE p q = 61:=by unfold joinE; rw [if_pos hb,if_pos hs]
    exact (bw3 (ht.to k') hS' o1 o2 g1 g2 hm hn hmn b1 b2 hs).mono (fun _ _ h=>h.elim) fun ch w'' h=>⟨by rw [e]; exact h.1,h.2,by rw [e]; decide⟩
   ·have e : joinE p q = 0:=by unfold joinE; rw [if_pos hb,if_neg hs]
    have e2 : joinT p q = (p.cross q).normal:=by unfold joinT; rw [if_pos e]
    exact Gives.toE ((bz9 (ht.to k') hS' o1 o2 g1 g2 hm hn hmn hk hk2 b1 b2 hs).mono fun v w'' h=>⟨h.1,by rw [e2]; exact h.2,e⟩)
  ·have e : joinE p q = bad2 p q:=by unfold joinE; rw [if_neg hb]
   exact (bz5 (ht.to k') hS' o1 o2 g1 g2 (H4 hm (by omega)) (H4 hn (by omega)) hb).mono (fun _ _ h=>h.elim) fun ch w'' h=>⟨by rw [e]; exact h.1,h.2,by rw [e]; exact hb⟩
 refine (ap2 (F:=41) (cap:=[u1,u2]) hS key).mono ?_
 rintro v' w' ⟨k',⟨x,rfl,h,e⟩ | ⟨rfl,e⟩⟩
 ·exact ⟨k',by rw [e]; rfl,h⟩
 ·exact ⟨k',rfl,by unfold joinT; rw [if_neg e]; exact bw1⟩
set_option maxRecDepth 100000 in
theorem O6 {S : Nat → Prop} {w : World} {vp vq : Value} {p q : T3} {m n k : Nat} (ht : Tab w) (hS : Up S w) (hp : TripV S w vp p) (hq : TripV S w vq q) (hm : tl p m) (hn : tl q n) (hmn : 2 * (m + n + 1) + 1 ≤ 3344) (hk : tl (p.cross q).normal k) (hk2 : k ≤ 3344) :
  Gives Tryz.prog 13 [vp,vq] w fun v' w'=>Ext w w' ∧ (ttryG v' (joinT p q) (joinE p q)).p S w':=by
 refine o8 (E:=env) (S0:=S) (G:=((triG vp (p)).and (triG vq (q)))) (l:=[.one (.ag 9 vp),.one (.ag 9 vq)]) Tryz.func13 rfl rfl rfl ⟨hp.ok,hq.ok,trivial⟩ rfl ⟨hp,hq⟩ ?_
 refine q7 ⟨a8,hS,b7⟩ (by kernel_rfl) (ab2 0 44 ([.ag 9 vp]) (by kernel_rfl) (by kernel_rfl) ⟨a8,hS,b7⟩ (fun u1=>?_))
 refine q7 ⟨a8,hS,b7⟩ (by kernel_rfl) (ab2 1 44 ([.ag 9 vq]) (by kernel_rfl) (by kernel_rfl) ⟨a8,hS,b7⟩ (fun u2=>?_))
 refine s_1 (fun x0=>pr (.ag 9 (tupAt x0)) (.int .i64 ((joinE p q)))) (fun x0=>ttryG x0 ((joinT p q)) ((joinE p q))) ⟨a8,hS,b7⟩ (by kernel_rfl) (by kernel_rfl) (fun _ _ _ h=>a39 h) (fun β S w hS hs hw hG=>have hb2:=hG.1; have hb1:=hG.2.1; have hp:=hG.2.2.1; have hq:=hG.2.2.2; ⟨_,(by kernel_rfl),bz1 (ht.to hw) hS (ab6 hb1) (ab6 hb2) (ae6 hb1 hp) (ae6 hb2 hq) hm hn hmn hk hk2⟩) ?_
 intro r
 exact q8 (.tuple #[tupAt r,.int .i64 (joinE p q)]) ⟨a8,hS,b7⟩ (by kernel_rfl) rfl (by kernel_rfl) (fun β=>(by kernel_rfl)) (fun S w hs hw hG=>have hr:=hG.1; ⟨hw,rfl,hr.2.mono fun k _ hk=>hs k hk⟩)
end Go.Proofs.YtpheooheinfbgaaGreatDoor
end
section
set_option linter.unusedVariables false
set_option linter.unusedSimpArgs false
namespace Go.Proofs.YtpheooheinfbgaaGreatDoor
open Go Go.RowKit
theorem bb0 {w : World} {g1 g2 : Nat} : GivesD Tryz.prog 59 [.pointer (some ⟨g1,0,none⟩),.pointer (some ⟨g2,0,none⟩)] .returning w fun u' w'=>u' = .returning ∧ w' = w:=by
 refine E2 Tryz.func59 rfl rfl rfl rfl rfl (.inl ⟨rfl,rfl,rfl⟩) ?_
 repeat (first | refine M9 rfl ?_ | refine a7 ?_ | refine b8 ?_ | refine d7 (by conv=>(lhs; whnf)) ?_ | refine b9 ?_ | refine d6 ?_ | refine wp_skip ?_ | refine wp_cond_false rfl ?_)
 exact ⟨[],rfl,rfl,rfl⟩
theorem a98 {w : World} {g1 g2 : Nat} {e1 e : Value} {E : Int} (h1 : Blk w g1 4 [e1]) (h2 : Blk w g2 46 [e]) :
  GivesD Tryz.prog 59 [.pointer (some ⟨g1,0,none⟩),.pointer (some ⟨g2,0,none⟩)] (.panicking (failE E)) w fun u' w'=>settle u' = .returning ∧
   Keeps (fun k=>k ≠ g1 ∧ k ≠ g2) w w' ∧ Blk w' g1 4 [.bool false] ∧ Blk w' g2 46 [.int .i64 E]:=by
 have hne : g1 ≠ g2:=h1.ne h2 (by decide)
 refine E2 Tryz.func59 rfl rfl rfl rfl rfl (.inr ⟨_,rfl,rfl,rfl⟩) ?_
 repeat (first | refine U0 rfl ?_ | refine ag0 rfl ?_ | refine a7 ?_ | refine b8 ?_ | refine d7 (by conv=>(lhs; whnf)) ?_ | refine b9 ?_ | refine d6 ?_ | refine A4 rfl rfl ?_ | refine wp_cond_true rfl ?_)
 refine p6 (cs:=[.int .i64 0]) rfl ?_
 intro w1 g3 k1 hg3 hgs3
 have hl1:=h1.lt
 have hl2:=h2.lt
 refine y6 (us:=[.int .i64 E]) rfl (by conv=>(lhs; whnf)) rfl rfl hg3 rfl (fun v hv=>by rw [List.mem_singleton.1 hv]; rfl) ?_
 intro w2 k2 hg32
 have k : Ext w w2:=Keeps.past k1 k2 hgs3
 have hg33:=hg32
 repeat (first | refine af8 rfl ?_ | refine a7 ?_ | refine d8 ?_ | refine b8 ?_ | refine d7 (by conv=>(lhs; whnf)) ?_ | refine c7 (by conv=>(lhs; whnf)) ?_ | refine b9 ?_ | refine d6 ?_ | refine wp_skip ?_ | refine wp_cond_false rfl ?_)
 have hl3:=hg32.lt
 refine ab0 (R:=OneW g1 4 [e1] [.bool false]) 4 OneW.trans OneW.drew (by kernel_rfl) (by kernel_rfl) ?_
 apply C9
 ·intro x w1 k1 hd
  refine d7 rfl ?_
  refine b9 ?_
  exact J7 OneW.refl
 apply C9
 ·intro x w1 k1 hd
  refine j4 rfl ?_
  refine b9 ?_
  exact J7 OneW.refl
 apply C9
 ·intro x w1 k1 hd
  refine f5 rfl (hg33.wr k1.1 (by omega)) rfl ?_
  refine b9 ?_
  exact J7 OneW.refl
 refine C9 (e:=EntR.of (fun v w=>Blk w g1 4 [.bool false]) (fun v w w' h k=>k.2.2 h)) ?_ ?_
 ·intro x w1 k1 hd
  rcases k1.2.1 (.inl (h1.to k)) with hgx | hgx
  ·refine G4 (u:=.bool false) rfl rfl hgx (show 0 < 1 by decide) rfl ?_
   intro w12 k12 hg12
   exact b9 (O8 (OneW.wrote k12 hg12) hg12)
  ·refine G4 (u:=.bool false) rfl rfl hgx (show 0 < 1 by decide) rfl ?_
   intro w12 k12 hg12
   exact b9 (O8 (OneW.wrote k12 hg12) hg12)
 refine ao0 (an0 ?_)
 intro x w12 k12 hall
 have h14 : Blk w12 g1 4 [.bool false]:=hall.1
 refine G4 (u:=.int .i64 E) rfl rfl ((h2.to k).wr k12.1 (fun e=>hne e.symm)) (show 0 < 1 by decide) rfl ?_
 intro w5 k5 h25
 repeat (first | refine b9 ?_)
 refine ⟨[],rfl,rfl,?_,h14.wr k5 hne,h25⟩
 exact ((Keeps.of k).trans (k12.1.mono fun i hi=>hi.1)).trans (k5.mono fun i hi=>hi.2)
theorem as0 {S : Nat → Prop} {w : World} {F : FuncId} [ci : CallI Tryz.prog F] {cap : List Value} {b : Bool} {E : Int} {Y Z : Prop} (hS : Up S w)
  (h : ∀ S' w',Up S' w' → Ext w w' → (∀ k,S' k → S k) → (∀ k,k < w.heap.size → S k → S' k) → GivesE Tryz.prog F cap w' (fun v w''=>Ext w' w'' ∧ v = .bool b ∧ Y) fun ch w''=>ch = failE E ∧ Ext w' w'' ∧ Z) :
  Gives Tryz.prog 28 [.func (.func F) #[] cap.toArray] w fun v' w'=>Ext w w' ∧ ((v' = .tuple #[.bool b,.int .i64 0] ∧ Y) ∨ (v' = .tuple #[.bool false,.int .i64 E] ∧ Z)):=by
 refine M5 Tryz.func28 rfl rfl rfl ?_
 refine an6 ?_
 repeat (first | refine b8 ?_)
 refine p6 (cs:=[.bool false]) rfl ?_
 intro w1 g1 k1 hg1 hgs1
 skip
 refine p6 (cs:=[.int .i64 0]) rfl ?_
 intro w2 g2 k2 hg2 hgs2
 have hgl:=hg1.lt
 have hgl2:=hg2.lt
 replace hg1:=hg1.to k2
 have k:=k1.trans k2
 have hk1:=k1.size
 have hk2:=k2.size
 have hS2 : Up (fun k=>S k ∧ k ≠ g1 ∧ k ≠ g2) w2:=fun i hi=>⟨hS i (by omega),by omega,by omega⟩
 have hc:=h (fun k=>S k ∧ k ≠ g1 ∧ k ≠ g2) w2 hS2 k (fun _ h=>h.1) (fun i hi hs=>⟨hs,by omega,by omega⟩)
 repeat (first | refine b9 ?_ | refine d6 ?_)
 refine O5 ?_
 refine an2 ?_ (fun e a ρ w hm hq=>ah7 hm hq)
 repeat (first | refine a7 ?_ | refine b8 ?_ | refine d7 (by conv=>(lhs; whnf)) ?_)
 refine af0 (first:=[]) (cap:=cap) rfl hc rfl ?_ ?_
 ·rintro v3 w3 ⟨k3,rfl,hy⟩
  skip
  refine G4 (u:=.bool b) rfl rfl (hg1.to k3) (show 0 < 1 by decide) rfl ?_
  intro w4 k4 hg4
  have hg24:=(hg2.to k3).wr k4 (by omega)
  refine G4 (u:=.int .i64 0) rfl rfl hg24 (show 0 < 1 by decide) rfl ?_
  intro w5 k5 hg5
  have hg45:=hg4.wr k5 (by omega)
  repeat (first | refine b9 ?_ | refine d6 ?_ | refine wp_ret ?_)
  refine bb0.mono ?_
  rintro u' w' ⟨rfl,rfl⟩
  refine ⟨rfl,[.bool b,.int .i64 0],⟨_,_,J4 (by conv=>(lhs; whnf)) hg45,⟨_,_,J4 (by conv=>(lhs; whnf)) hg5,rfl,rfl⟩,rfl⟩,?_⟩
  exact ⟨((Keeps.past (k.trans k3) k4 (by omega)).past k5 (by omega)),.inl ⟨rfl,hy⟩⟩
 ·rintro ch w3 ⟨rfl,k3,hf⟩
  refine G8 ?_
  refine (a98 (hg1.to k3) (hg2.to k3)).mono ?_
  rintro u' w' ⟨hu,k4,h1,h2⟩
  refine ⟨hu,[.bool false,.int .i64 E],⟨_,_,J4 (by conv=>(lhs; whnf)) h1,⟨_,_,J4 (by conv=>(lhs; whnf)) h2,rfl,rfl⟩,rfl⟩,?_⟩
  exact ⟨Keeps.later (k.trans k3) k4 (fun i hi _=>⟨by omega,by omega⟩),.inr ⟨rfl,hf⟩⟩
def OnP (p q : T3) : Prop:=bad2 p q = 0 ∧ p.dot q = 0
theorem cm6 {S : Nat → Prop} {w : World} {u1 u2 : Value} {p q : T3} {m n : Nat} (ht : Tab w) (hS : Up S w) (o1 : u1.oneCell' = true) (o2 : u2.oneCell' = true) (h1 : (triP u1 p).p S w) (h2 : (triP u2 q).p S w) (hm : tl p m) (hn : tl q n) (hmn : 3 * (m + n + 1) + 1 ≤ 3344) :
  Gives Tryz.prog 28 [.func (.func 37) #[] #[u1,u2]] w fun v' w'=>Ext w w' ∧ v' = .tuple #[.bool (tst (OnP p q)),.int .i64 (bad2 p q)]:=by
 have key : ∀ S' w',Up S' w' → Ext w w' → (∀ k,S' k → S k) → (∀ k,k < w.heap.size → S k → S' k) → GivesE Tryz.prog 37 [u1,u2] w' (fun v w''=>Ext w' w'' ∧ v = .bool (tst (OnP p q)) ∧ bad2 p q = 0) fun ch w''=>ch = failE (bad2 p q) ∧ Ext w' w'' ∧ ¬ bad2 p q = 0:=by
  intro S' w' hS' k' _ hs'
  have g1:=(triP u1 p).keep ((triP u1 p).mono h1 hs') (.of k')
  have g2:=(triP u2 q).keep ((triP u2 q).mono h2 hs') (.of k')
  by_cases hb : bad2 p q = 0
  ·obtain ⟨b1,b2⟩:=bl2 hb
   exact Gives.toE ((cg9 (ht.to k') hS' o1 o2 g1 g2 hm hn hmn b1 b2).mono fun v w'' h=>⟨h.2,by rw [h.1]; congr 1; exact congrArg tst (propext ⟨fun e=>⟨hb,e⟩,fun e=>e.2⟩),hb⟩)
  ·exact (cl3 (ht.to k') hS' o1 o2 g1 g2 (H4 hm (by omega)) (H4 hn (by omega)) hb).mono (fun _ _ h=>h.elim) fun ch w'' h=>⟨h.1,h.2,hb⟩
 refine (as0 (F:=37) (cap:=[u1,u2]) hS key).mono ?_
 rintro v' w' ⟨k',⟨rfl,e⟩ | ⟨rfl,e⟩⟩
 ·exact ⟨k',by rw [e]⟩
 ·exact ⟨k',by rw [j6 fun h : OnP p q=>e h.1]⟩
set_option maxRecDepth 100000 in
theorem cp5 {S : Nat → Prop} {w : World} {vp vq : Value} {p q : T3} {m n : Nat} (ht : Tab w) (hS : Up S w) (hp : TripV S w vp p) (hq : TripV S w vq q) (hm : tl p m) (hn : tl q n) (hmn : 3 * (m + n + 1) + 1 ≤ 3344) :
  Gives Tryz.prog 12 [vp,vq] w fun v' w'=>v' = .tuple #[.bool (tst (OnP p q)),.int .i64 (bad2 p q)] ∧ Ext w w':=by
 refine o8 (E:=env) (S0:=S) (G:=((triG vp (p)).and (triG vq (q)))) (l:=[.one (.ag 9 vp),.one (.ag 9 vq)]) Tryz.func12 rfl rfl rfl ⟨hp.ok,hq.ok,trivial⟩ rfl ⟨hp,hq⟩ ?_
 refine q7 ⟨a8,hS,b7⟩ (by kernel_rfl) (ab2 0 44 ([.ag 9 vp]) (by kernel_rfl) (by kernel_rfl) ⟨a8,hS,b7⟩ (fun u1=>?_))
 refine q7 ⟨a8,hS,b7⟩ (by kernel_rfl) (ab2 1 44 ([.ag 9 vq]) (by kernel_rfl) (by kernel_rfl) ⟨a8,hS,b7⟩ (fun u2=>?_))
 refine s_K (pr (.tp (OnP p q)) (.int .i64 (bad2 p q))) ⟨a8,hS,b7⟩ (by kernel_rfl) (by kernel_rfl) (j9 rfl) rfl (fun β S w hS hs hw hG=>have hb2:=hG.1; have hb1:=hG.2.1; have hp:=hG.2.2.1; have hq:=hG.2.2.2; ⟨_,(by kernel_rfl),(cm6 (ht.to hw) hS (ab6 hb1) (ab6 hb2) (ae6 hb1 hp) (ae6 hb2 hq) hm hn hmn).mono fun _ _ h=>⟨h.2,h.1⟩⟩) ?_
 exact q8 (.tuple #[.bool (tst (OnP p q)),.int .i64 (bad2 p q)]) ⟨a8,hS,b7⟩ (by kernel_rfl) rfl (by kernel_rfl) (fun β=>(by kernel_rfl)) (fun S w hs hw hG=>⟨rfl,hw⟩)
end Go.Proofs.YtpheooheinfbgaaGreatDoor
end
section
set_option linter.unusedVariables false
set_option linter.unusedSimpArgs false
namespace Go.Proofs.YtpheooheinfbgaaGreatDoor
open Go Go.RowKit
def T3.at (l : List T3) (i : Nat) : T3:=l.getD i ⟨0,0,0⟩
def GenP (l : List T3) : Prop:=∀ i j k,k < j → j < i → i < l.length → ¬ T3.Flat (T3.at l i) (T3.at l j) (T3.at l k)
theorem T3.at_get {l : List T3} {i : Nat} (h : i < l.length) : l[i]? = some (T3.at l i):=T3.getD_at h
theorem ax8 {S : Nat → Prop} {w : World} {v : Value} {l : List T3} (h : SeqV true 9 triF S w v l) : ∃ S' T' cs,Row S' T' 9 w v l.length cs:=let ⟨T,vs,_,_,hr,_⟩:=h.row; ⟨S,T,_,hr⟩
theorem be8 {S : Nat → Prop} {w : World} {v u : Value} {l : List T3} {i : Nat} (h : SeqV true 9 triF S w v l) (hi : i < l.length) (hu : u = .pointer (some (adr v (Int.toNat (i : Int) * 9)))) : ∃ S' x,Lies true 9 x ∧ At S' w u x.cells.toList ∧ (triG x (T3.at l i)).p S w:=by
 subst hu
 obtain ⟨x,h1,h2,h3⟩:=h.at (T3.at_get hi)
 exact ⟨S,x,h1,h2,h3⟩
set_option maxRecDepth 100000 in
set_option maxHeartbeats 1000000 in
theorem bg9 {S : Nat → Prop} {w : World} {v : Value} {l : List T3} {m : Nat} (hS : Up S w) (h : SeqV true 9 triF S w v l) (hl : ∀ t ∈ l,tl t m) (hm : 3 * (2 * (m + m) + 1 + m + 1) + 1 ≤ 3344) :
  Gives Tryz.prog 31 [v] w fun v' w'=>v' = .bool (tst (GenP l)) ∧ Ext w w':=by
 have hmx:=h.len_le
 unfold maxLen at hmx
 refine o8 (E:=env) (S0:=S) (G:=(trisG v l)) (l:=[.one (.sl v l.length)]) Tryz.func31 rfl rfl rfl ⟨h.sl,trivial⟩ rfl h ?_
 refine H2 (ι:=Nat) [(2,5),(8,34)] (fun i=>[(8,.one (.int .i64 (i : Int)))]) (fun _=>[]) (fun i=>(trisG v l)) (fun i=>i ≤ l.length ∧ ∀ i' j' k',k' < j' → j' < i' → i' < i → ¬ T3.Flat (T3.at l i') (T3.at l j') (T3.at l k')) (fun i=>l.length - i) (0) ⟨a8,hS,b7⟩ (by kernel_rfl) (by kernel_rfl) (fun β=>(by kernel_rfl)) (fun β=>(by kernel_rfl)) (by kernel_rfl) (⟨Nat.zero_le _,fun _ _ _ _ _ h=>absurd h (Nat.not_lt_zero _)⟩) (fun S w hw hG=>⟨s9 rfl,fun p hp=>by cases hp⟩) (fun S w hw hG=>hG) (fun hso i hi=>?_)
 refine X3 (p:=(i : Int) < (l.length : Int)) ⟨a8,hS,b7⟩ (by kernel_rfl) (by kernel_rfl) (by kernel_rfl) (fun hlt=>?_) (fun hlt=>?_)
 ·have hi' : i < l.length:=by omega
  have hso1:=hso
  refine H2 (ι:=Nat) [(2,2),(4,5),(12,33)] (fun j=>[(12,.one (.int .i64 (j : Int)))]) (fun _=>[]) (fun j=>(trisG v l)) (fun j=>j ≤ i ∧ ∀ j' k',k' < j' → j' < j → ¬ T3.Flat (T3.at l i) (T3.at l j') (T3.at l k')) (fun j=>i - j) (0) ⟨a8,hS,b7⟩ (by kernel_rfl) (by kernel_rfl) (fun β=>(by kernel_rfl)) (fun β=>(by kernel_rfl)) (by kernel_rfl) (⟨Nat.zero_le _,fun _ _ _ h=>absurd h (Nat.not_lt_zero _)⟩) (fun S w hw hG=>⟨s9 rfl,fun p hp=>by cases hp⟩) (fun S w hw hG=>hG) (fun hso j hj=>?_)
  refine X3 (p:=(j : Int) < (i : Int)) ⟨a8,hS,b7⟩ (by kernel_rfl) (by kernel_rfl) (by kernel_rfl) (fun hlt2=>?_) (fun hlt2=>?_)
  ·have hj' : j < l.length:=by omega
   have hso2:=hso
   refine H2 (ι:=Nat) [(2,2),(5,5),(16,32)] (fun k=>[(16,.one (.int .i64 (k : Int)))]) (fun _=>[]) (fun k=>(trisG v l)) (fun k=>k ≤ j ∧ ∀ k',k' < k → ¬ T3.Flat (T3.at l i) (T3.at l j) (T3.at l k')) (fun k=>j - k) (0) ⟨a8,hS,b7⟩ (by kernel_rfl) (by kernel_rfl) (fun β=>(by kernel_rfl)) (fun β=>(by kernel_rfl)) (by kernel_rfl) (⟨Nat.zero_le _,fun _ h=>absurd h (Nat.not_lt_zero _)⟩) (fun S w hw hG=>⟨s9 rfl,fun p hp=>by cases hp⟩) (fun S w hw hG=>hG) (fun hso k hk=>?_)
   refine X3 (p:=(k : Int) < (j : Int)) ⟨a8,hS,b7⟩ (by kernel_rfl) (by kernel_rfl) (by kernel_rfl) (fun hlt3=>?_) (fun hlt3=>?_)
   ·have hk' : k < l.length:=by omega
    refine l8 12 ⟨a8,hS,b7⟩ (by kernel_rfl) (by kernel_rfl) (by kernel_rfl) ?_
    refine i1 2 (fun η=>(by kernel_rfl)) ?_
    refine ay6 (fun η=>v) l.length (i : Int) 44 9 (fun u0=>pureG (u0 = .pointer (some (adr v (Int.toNat (i : Int) * 9))))) (fun η=>(by kernel_rfl)) (fun η=>(by kernel_rfl)) ⟨a8,hS,b7⟩ (fun β η S w hM hw hG hd=>have h:=hG; ⟨by omega,by omega,ax8 h,rfl⟩) ?_
    refine s6 (fun η=>η 2) 44 9 true (fun x0=>.one (.ag 9 x0)) (fun x0=>triG x0 ((T3.at l i))) (fun η=>(by kernel_rfl)) (fun η=>(by kernel_rfl)) ⟨a8,hS,b7⟩ (fun _ _ _ h=>⟨h.ok,rfl⟩) (fun β η S w hM hw hG hd=>have h:=hG; be8 h hi' (dep hd 2 (by kernel_rfl) (by kernel_rfl) : (pureG ((η 2) = .pointer (some (adr v (Int.toNat (i : Int) * 9))))).p S w)) ?_
    refine i1 2 (fun η=>(by kernel_rfl)) ?_
    refine ay6 (fun η=>v) l.length (j : Int) 44 9 (fun u0=>pureG (u0 = .pointer (some (adr v (Int.toNat (j : Int) * 9))))) (fun η=>(by kernel_rfl)) (fun η=>(by kernel_rfl)) ⟨a8,hS,b7⟩ (fun β η S w hM hw hG hd=>have h:=hG; ⟨by omega,by omega,ax8 h,rfl⟩) ?_
    refine s6 (fun η=>η 6) 44 9 true (fun x0=>.one (.ag 9 x0)) (fun x0=>triG x0 ((T3.at l j))) (fun η=>(by kernel_rfl)) (fun η=>(by kernel_rfl)) ⟨a8,hS,b7⟩ (fun _ _ _ h=>⟨h.ok,rfl⟩) (fun β η S w hM hw hG hd=>have h:=hG; be8 h hj' (dep hd 6 (by kernel_rfl) (by kernel_rfl) : (pureG ((η 6) = .pointer (some (adr v (Int.toNat (j : Int) * 9))))).p S w)) ?_
    refine i1 2 (fun η=>(by kernel_rfl)) ?_
    refine ay6 (fun η=>v) l.length (k : Int) 44 9 (fun u0=>pureG (u0 = .pointer (some (adr v (Int.toNat (k : Int) * 9))))) (fun η=>(by kernel_rfl)) (fun η=>(by kernel_rfl)) ⟨a8,hS,b7⟩ (fun β η S w hM hw hG hd=>have h:=hG; ⟨by omega,by omega,ax8 h,rfl⟩) ?_
    refine s6 (fun η=>η 10) 44 9 true (fun x0=>.one (.ag 9 x0)) (fun x0=>triG x0 ((T3.at l k))) (fun η=>(by kernel_rfl)) (fun η=>(by kernel_rfl)) ⟨a8,hS,b7⟩ (fun _ _ _ h=>⟨h.ok,rfl⟩) (fun β η S w hM hw hG hd=>have h:=hG; be8 h hk' (dep hd 10 (by kernel_rfl) (by kernel_rfl) : (pureG ((η 10) = .pointer (some (adr v (Int.toNat (k : Int) * 9))))).p S w)) ?_
    refine bl5 (fun η=>((triG (η 11) ((T3.at l k))).and ((pureG ((η 10) = .pointer (some (adr v (Int.toNat (k : Int) * 9))))).and ((triG (η 7) ((T3.at l j))).and ((pureG ((η 6) = .pointer (some (adr v (Int.toNat (j : Int) * 9))))).and ((triG (η 3) ((T3.at l i))).and ((pureG ((η 2) = .pointer (some (adr v (Int.toNat (i : Int) * 9))))).and (trisG v l)))))))) (by kernel_rfl) (fun η=>(by kernel_rfl)) ?_
    intro η_1
    refine s_K (.one (.tp (T3.Flat (T3.at l i) (T3.at l j) (T3.at l k)))) ⟨a8,hS,b7⟩ (by kernel_rfl) (by kernel_rfl) (j9 rfl) rfl (fun β S w hS hs hw hG=>have hz:=hG.1; have hy:=hG.2.2.1; have hx:=hG.2.2.2.2.1; ⟨_,(by kernel_rfl),an8 hS hx hy hz (hl _ (List.mem_of_getElem? (T3.at_get hi'))) (hl _ (List.mem_of_getElem? (T3.at_get hj'))) (hl _ (List.mem_of_getElem? (T3.at_get hk'))) hm⟩) ?_
    refine X3 (p:=T3.Flat (T3.at l i) (T3.at l j) (T3.at l k)) ⟨a8,hS,b7⟩ (by kernel_rfl) (by kernel_rfl) (by kernel_rfl) (fun hf=>?_) (fun hf=>?_)
    ·refine I6 ⟨a8,hS,b7⟩ (by kernel_rfl) (by kernel_rfl) ?_
     refine I6 ⟨a8,hS,b7⟩ (by kernel_rfl) (by kernel_rfl) ?_
     refine I6 ⟨a8,hS,b7⟩ (by kernel_rfl) (by kernel_rfl) ?_
     exact q8 (.bool false) ⟨a8,hS,b7⟩ (by kernel_rfl) rfl (by kernel_rfl) (fun β=>(by kernel_rfl)) (fun S w hs hw hG=>⟨by rw [j6 fun g : GenP l=>g i j k (by omega) (by omega) hi' hf],hw⟩)
    ·refine I8 (ps:=[InR .i64 ((k : Int) + 1)]) ⟨a8,hS,b7⟩ (by kernel_rfl) (by simp only [AllT,InR,and_true]; omega) ?_
     exact F7 (k + 1) ⟨a8,hS,b7⟩ hso (by kernel_rfl) (by kernel_rfl) (fun β=>(by kernel_rfl)) (fun β=>(by kernel_rfl)) (by kernel_rfl) (⟨by omega,fun k' hk2=>(Nat.lt_or_ge k' k).elim (fun h=>hk.2 k' h) fun h=>(by have e : k' = k:=(by omega); rw [e]; exact hf)⟩) (by omega) (fun S w hw hG=>⟨s9 rfl,fun p hp=>by cases hp⟩) (fun S w hw hG=>hG.2.2.2.2.2.2)
   ·refine I6 ⟨a8,hS,b7⟩ (by kernel_rfl) (by kernel_rfl) ?_
    refine I8 (ps:=[InR .i64 ((j : Int) + 1)]) ⟨a8,hS,b7⟩ (by kernel_rfl) (by simp only [AllT,InR,and_true]; omega) ?_
    have hso:=hso2
    exact F7 (j + 1) ⟨a8,hS,b7⟩ hso (by kernel_rfl) (by kernel_rfl) (fun β=>(by kernel_rfl)) (fun β=>(by kernel_rfl)) (by kernel_rfl) (⟨by omega,fun j' k' hk2 hj2=>(Nat.lt_or_ge j' j).elim (fun h=>hj.2 j' k' hk2 h) fun h=>(by have e : j' = j:=(by omega); rw [e]; exact hk.2 k' (by omega))⟩) (by omega) (fun S w hw hG=>⟨s9 rfl,fun p hp=>by cases hp⟩) (fun S w hw hG=>hG)
  ·refine I6 ⟨a8,hS,b7⟩ (by kernel_rfl) (by kernel_rfl) ?_
   refine I8 (ps:=[InR .i64 ((i : Int) + 1)]) ⟨a8,hS,b7⟩ (by kernel_rfl) (by simp only [AllT,InR,and_true]; omega) ?_
   have hso:=hso1
   exact F7 (i + 1) ⟨a8,hS,b7⟩ hso (by kernel_rfl) (by kernel_rfl) (fun β=>(by kernel_rfl)) (fun β=>(by kernel_rfl)) (by kernel_rfl) (⟨by omega,fun i' j' k' hk2 hj2 hi2=>(Nat.lt_or_ge i' i).elim (fun h=>hi.2 i' j' k' hk2 hj2 h) fun h=>(by have e : i' = i:=(by omega); rw [e]; exact hj.2 j' k' hk2 (by omega))⟩) (by omega) (fun S w hw hG=>⟨s9 rfl,fun p hp=>by cases hp⟩) (fun S w hw hG=>hG)
 ·refine I6 ⟨a8,hS,b7⟩ (by kernel_rfl) (by kernel_rfl) ?_
  exact q8 (.bool true) ⟨a8,hS,b7⟩ (by kernel_rfl) rfl (by kernel_rfl) (fun β=>(by kernel_rfl)) (fun S w hs hw hG=>⟨by rw [l9 (show GenP l from fun i' j' k' h1 h2 h3=>hi.2 i' j' k' h1 h2 (by omega))],hw⟩)
end Go.Proofs.YtpheooheinfbgaaGreatDoor
end
section
set_option linter.unusedVariables false
set_option linter.unusedSimpArgs false
namespace Go.Proofs.YtpheooheinfbgaaGreatDoor
open Go Go.RowKit
theorem bn4 {l : List T3} (h : checkT l = 0) : ∀ t ∈ l,badE t = 0:=by
 induction l with
 | nil=>intro t ht; cases ht
 | cons a r ih=>
  unfold checkT at h
  split at h
  ·intro t ht
   rcases List.mem_cons.1 ht with rfl | ht
   ·assumption
   ·exact ih h t ht
  ·exact absurd h ‹_›
theorem bh2 {l : List T3} (h : ¬ checkT l = 0) : ∃ n,n < l.length ∧ badE (l.getD n ⟨0,0,0⟩) = checkT l ∧ ∀ i,i < n → badE (l.getD i ⟨0,0,0⟩) = 0:=by
 induction l with
 | nil=>exact absurd rfl h
 | cons a r ih=>
  unfold checkT at h ⊢
  split
  ·rename_i e
   rw [if_pos e] at h
   obtain ⟨n,h1,h2,h3⟩:=ih h
   refine ⟨n + 1,by simpa using h1,by simpa using h2,fun i hi=>?_⟩
   cases i with
   | zero=>simpa using e
   | succ i=>simpa using h3 i (by omega)
  ·exact ⟨0,by simp,by simp,fun i hi=>absurd hi (Nat.not_lt_zero _)⟩
abbrev trisP (u : Value) (l : List T3) : Gh:=atG false 1 (fun x=>trisG x l) u
set_option maxRecDepth 100000 in
theorem a48 {S : Nat → Prop} {w : World} {u : Value} {l : List T3} {m : Nat} (ht : Tab w) (hS : Up S w) (o : u.oneCell' = true) (h : (trisP u l).p S w) (hl : ∀ t ∈ l,tl t m) (hm : 3 * (2 * (m + m) + 1 + m + 1) + 1 ≤ 3344) (hk : checkT l = 0) :
  Gives Tryz.prog 29 [u] w fun v' w'=>v' = .bool (tst (GenP l)) ∧ Ext w w':=by
 refine o8 (E:=env) (S0:=S) (G:=(trisP u l)) (l:=[.one (.val u)]) Tryz.func29 rfl rfl rfl ⟨o,trivial⟩ rfl h ?_
 refine q7 ⟨a8,hS,b7⟩ (by kernel_rfl) (E0 u 24 1 false (fun x0=>.one (.sl x0 (l).length)) (fun x0=>trisG x0 (l)) (by kernel_rfl) ⟨a8,hS,b7⟩ (fun _ _ _ h=>⟨h.sl,rfl⟩) (fun β S w hM hw hG=>have h:=hG; let ⟨y,e1,e2,e3⟩:=h; ⟨S,y,e1,e2,e3⟩) ?_)
 intro x
 refine s_K (.und) ⟨a8,hS,b7⟩ (by kernel_rfl) (by kernel_rfl) (j9 rfl) rfl (fun β S w hS hs hw hG=>have hx:=hG.1; have h:=hG.2; ⟨_,(by kernel_rfl),R0 (ht.to hw) hS hx (fun t h=>H4 (hl t h) (by omega)) (bn4 hk)⟩) ?_
 refine q7 ⟨a8,hS,b7⟩ (by kernel_rfl) (E0 u 24 1 false (fun x0=>.one (.sl x0 (l).length)) (fun x0=>trisG x0 (l)) (by kernel_rfl) ⟨a8,hS,b7⟩ (fun _ _ _ h=>⟨h.sl,rfl⟩) (fun β S w hM hw hG=>have h:=hG.2; let ⟨y,e1,e2,e3⟩:=h; ⟨S,y,e1,e2,e3⟩) ?_)
 intro y
 refine s_K (.one (.tp (GenP l))) ⟨a8,hS,b7⟩ (by kernel_rfl) (by kernel_rfl) (j9 rfl) rfl (fun β S w hS hs hw hG=>have hy:=hG.1; ⟨_,(by kernel_rfl),bg9 hS hy hl hm⟩) ?_
 exact q8 (.bool (tst (GenP l))) ⟨a8,hS,b7⟩ (by kernel_rfl) rfl (by kernel_rfl) (fun β=>(by kernel_rfl)) (fun S w hs hw hG=>⟨rfl,hw⟩)
theorem be0 {S : Nat → Prop} {w : World} {v : Value} {l : List T3} (ht : Tab w) (hS : Up S w) (h : SeqV true 9 triF S w v l) (hl : ∀ t ∈ l,tl t 1000000) (hk : ¬ checkT l = 0) : Pan Tryz.prog 30 [v] w (failE (checkT l)):=by
 obtain ⟨n,h1,h2,h3⟩:=bh2 hk
 rw [← h2]
 exact ak4 ht hS h hl h1 (by rw [h2]; exact hk) h3
set_option maxRecDepth 100000 in
theorem a58 {S : Nat → Prop} {w : World} {u : Value} {l : List T3} (ht : Tab w) (hS : Up S w) (o : u.oneCell' = true) (h : (trisP u l).p S w) (hl : ∀ t ∈ l,tl t 1000000) (hk : ¬ checkT l = 0) :
  Pan Tryz.prog 29 [u] w (failE (checkT l)):=by
 refine M7 (E:=env) (S0:=S) (G:=(trisP u l)) (l:=[.one (.val u)]) Tryz.func29 rfl rfl rfl ⟨o,trivial⟩ rfl h ?_
 refine q7 ⟨a8,hS,b7⟩ (by kernel_rfl) (E0 u 24 1 false (fun x0=>.one (.sl x0 (l).length)) (fun x0=>trisG x0 (l)) (by kernel_rfl) ⟨a8,hS,b7⟩ (fun _ _ _ h=>⟨h.sl,rfl⟩) (fun β S w hM hw hG=>have h:=hG; let ⟨y,e1,e2,e3⟩:=h; ⟨S,y,e1,e2,e3⟩) ?_)
 intro x
 exact s_X ⟨a8,hS,b7⟩ (by kernel_rfl) (by kernel_rfl) (fun β S w hS hs hw hG=>have hx:=hG.1; ⟨_,(by kernel_rfl),ad8 (be0 (ht.to hw) hS hx hl hk) hw⟩)
def GenQ (l : List T3) : Prop:=checkT l = 0 ∧ GenP l
theorem a65 {S : Nat → Prop} {w : World} {u : Value} {l : List T3} {m : Nat} (ht : Tab w) (hS : Up S w) (o : u.oneCell' = true) (h : (trisP u l).p S w) (hl : ∀ t ∈ l,tl t m) (hm : 3 * (2 * (m + m) + 1 + m + 1) + 1 ≤ 3344) :
  Gives Tryz.prog 28 [.func (.func 29) #[] #[u]] w fun v' w'=>v' = .tuple #[.bool (tst (GenQ l)),.int .i64 (checkT l)] ∧ Ext w w':=by
 have key : ∀ S' w',Up S' w' → Ext w w' → (∀ k,S' k → S k) → (∀ k,k < w.heap.size → S k → S' k) → GivesE Tryz.prog 29 [u] w' (fun v w''=>Ext w' w'' ∧ v = .bool (tst (GenQ l)) ∧ checkT l = 0) fun ch w''=>ch = failE (checkT l) ∧ Ext w' w'' ∧ ¬ checkT l = 0:=by
  intro S' w' hS' k' _ hs'
  have g1:=(trisP u l).keep ((trisP u l).mono h hs') (.of k')
  by_cases hb : checkT l = 0
  ·exact Gives.toE ((a48 (ht.to k') hS' o g1 hl hm hb).mono fun v w'' h=>⟨h.2,by rw [h.1]; congr 1; exact congrArg tst (propext ⟨fun e=>⟨hb,e⟩,fun e=>e.2⟩),hb⟩)
  ·exact (a58 (ht.to k') hS' o g1 (fun t h=>H4 (hl t h) (by omega)) hb).mono (fun _ _ h=>h.elim) fun ch w'' h=>⟨h.1,h.2,hb⟩
 refine (as0 (F:=29) (cap:=[u]) hS key).mono ?_
 rintro v' w' ⟨k',⟨rfl,e⟩ | ⟨rfl,e⟩⟩
 ·exact ⟨by rw [e],k'⟩
 ·exact ⟨by rw [j6 fun h : GenQ l=>e h.1],k'⟩
theorem bo4 {S : Nat → Prop} {w : World} {u v : Value} {l : List T3} {T : TypeId} {n : Nat} (h : (blkG u T (cellsL (fun _=>0) [.sl v n])).p S w) (hv : SeqV true 9 triF S w v l) : (trisP u l).p S w:=by
 obtain ⟨b,rfl,hs,hB⟩:=h
 obtain ⟨T',vs,_,_,hr,_⟩:=hv.row
 obtain ⟨a,cp,rfl,_⟩:=hr.slice
 exact ⟨_,b36 rfl,⟨b,0,_,T,(0,0),rfl,hs,hB,by simp [cellsL,Ch.cells,Value.cells],by simp [cellsL,Ch.cells,Value.cells,Ch.den]⟩,hv⟩
set_option maxRecDepth 100000 in
theorem bg3 {S : Nat → Prop} {w : World} {v : Value} {l : List T3} {m : Nat} (ht : Tab w) (hS : Up S w) (h : SeqV true 9 triF S w v l) (hl : ∀ t ∈ l,tl t m) (hm : 3 * (2 * (m + m) + 1 + m + 1) + 1 ≤ 3344) :
  Gives Tryz.prog 8 [v] w fun v' w'=>v' = (if 12 < l.length then .tuple #[.bool false,.int .i64 1] else .tuple #[.bool (tst (GenQ l)),.int .i64 (checkT l)]) ∧ Ext w w':=by
 refine o8 (E:=env) (S0:=S) (G:=(trisG v l)) (l:=[.one (.sl v l.length)]) Tryz.func8 rfl rfl rfl ⟨h.sl,trivial⟩ rfl h ?_
 refine X3 (p:=(12 : Int) < (l.length : Int)) ⟨a8,hS,b7⟩ (by kernel_rfl) (by kernel_rfl) (by kernel_rfl) (fun h12=>?_) (fun h12=>?_)
 ·exact q8 (.tuple #[.bool false,.int .i64 1]) ⟨a8,hS,b7⟩ (by kernel_rfl) rfl (by kernel_rfl) (fun β=>(by kernel_rfl)) (fun S w hs hw hG=>⟨by rw [if_pos (by omega)],hw⟩)
 ·refine q7 ⟨a8,hS,b7⟩ (by kernel_rfl) (ab2 0 24 ([.sl v l.length]) (by kernel_rfl) (by kernel_rfl) ⟨a8,hS,b7⟩ (fun u=>?_))
  refine s_K (pr (.tp (GenQ l)) (.int .i64 (checkT l))) ⟨a8,hS,b7⟩ (by kernel_rfl) (by kernel_rfl) (j9 rfl) rfl (fun β S w hS hs hw hG=>have hb:=hG.1; have h:=hG.2; ⟨_,(by kernel_rfl),a65 (ht.to hw) hS (ab6 hb) (bo4 hb h) hl hm⟩) ?_
  exact q8 (.tuple #[.bool (tst (GenQ l)),.int .i64 (checkT l)]) ⟨a8,hS,b7⟩ (by kernel_rfl) rfl (by kernel_rfl) (fun β=>(by kernel_rfl)) (fun S w hs hw hG=>⟨by rw [if_neg (by omega)],hw⟩)
end Go.Proofs.YtpheooheinfbgaaGreatDoor
end
section
set_option linter.unusedVariables false
set_option linter.unusedSimpArgs false
namespace Go.Proofs.YtpheooheinfbgaaGreatDoor
open Go Go.RowKit
set_option maxRecDepth 100000 in
theorem bx4 {S : Nat → Prop} {w : World} {vp vq vr : Value} {p q r : T3} {m : Nat} (hS : Up S w) (hp : TripV S w vp p) (hq : TripV S w vq q) (hr : TripV S w vr r) (hm : tl p m) (hn : tl q m) (hk : tl r m) (hmm : 3 * (2 * (m + m) + 1 + m + 1) + 1 ≤ 3344)
  (h1 : ¬ T3.Same p q) (h2 : ¬ T3.Same p r) (h3 : ¬ T3.Same q r) (h4 : T3.Flat p q r) :
  Gives Tryz.prog 64 [vp,vq,vr] w fun v' w'=>v' = .tuple #[] ∧ Ext w w':=by
 refine o8 (E:=env) (S0:=S) (G:=((triG vp (p)).and ((triG vq (q)).and (triG vr (r))))) (l:=[.one (.ag 9 vp),.one (.ag 9 vq),.one (.ag 9 vr)]) Tryz.func64 rfl rfl rfl ⟨hp.ok,hq.ok,hr.ok,trivial⟩ rfl ⟨hp,hq,hr⟩ ?_
 refine s_K (.one (.tp (T3.Same p q))) ⟨a8,hS,b7⟩ (by kernel_rfl) (by kernel_rfl) (j9 rfl) rfl (fun β S w hS hs hw hG=>have hp:=hG.1; have hq:=hG.2.1; ⟨_,(by kernel_rfl),E7 hS hp hq hm hn (by omega)⟩) ?_
 refine aj5 (p:=T3.Same p q) 9 ⟨a8,hS,b7⟩ (by kernel_rfl) (by kernel_rfl) (h1) ?_
 refine s_K (.one (.tp (T3.Same p r))) ⟨a8,hS,b7⟩ (by kernel_rfl) (by kernel_rfl) (j9 rfl) rfl (fun β S w hS hs hw hG=>have hp:=hG.1; have hr:=hG.2.2; ⟨_,(by kernel_rfl),E7 hS hp hr hm hk (by omega)⟩) ?_
 refine aj5 (p:=T3.Same p r) 14 ⟨a8,hS,b7⟩ (by kernel_rfl) (by kernel_rfl) (h2) ?_
 refine s_K (.one (.tp (T3.Same q r))) ⟨a8,hS,b7⟩ (by kernel_rfl) (by kernel_rfl) (j9 rfl) rfl (fun β S w hS hs hw hG=>have hq:=hG.2.1; have hr:=hG.2.2; ⟨_,(by kernel_rfl),E7 hS hq hr hn hk (by omega)⟩) ?_
 refine aj5 (p:=T3.Same q r) 19 ⟨a8,hS,b7⟩ (by kernel_rfl) (by kernel_rfl) (h3) ?_
 refine s_K (.one (.tp (T3.Flat p q r))) ⟨a8,hS,b7⟩ (by kernel_rfl) (by kernel_rfl) (j9 rfl) rfl (fun β S w hS hs hw hG=>have hp:=hG.1; have hq:=hG.2.1; have hr:=hG.2.2; ⟨_,(by kernel_rfl),an8 hS hp hq hr hm hn hk hmm⟩) ?_
 refine I5 (p:=¬ T3.Flat p q r) ⟨a8,hS,b7⟩ (by kernel_rfl) (by kernel_rfl) (by kernel_rfl) (fun h=>h h4) ?_
 exact q8 (.tuple #[]) ⟨a8,hS,b7⟩ (by kernel_rfl) rfl (by kernel_rfl) (fun β=>(by kernel_rfl)) (fun S w hs hw hG=>⟨rfl,hw⟩)
end Go.Proofs.YtpheooheinfbgaaGreatDoor
end
section
set_option linter.unusedVariables false
set_option linter.unusedSimpArgs false
namespace Go.Proofs.YtpheooheinfbgaaGreatDoor
open Go Go.RowKit
theorem ch8 {v : Value} {q : Rat} {S : Nat → Prop} {w : World} (h : (bG (fun x=>qG x q) true v).p S w) : (pr (.ag 4 (tupN v 0)) (.bb true)).Ok 0 ∧ (pr (.ag 4 (tupN v 0)) (.bb true)).den (fun _=>0) = v:=⟨a69 h.2.ok trivial,h.1.symm⟩
theorem QV.lies {S : Nat → Prop} {w : World} {v : Value} {q : Rat} (h : QV S w v q) : Lies true 4 v:=by
 obtain ⟨m,b,rfl,_⟩:=h
 exact a43 [_,_,_,_]
abbrev qF (x : Value) (q : Rat) : Gh:=qG x q
abbrev qsG (v : Value) (l : List Rat) : Gh:=seqG true 4 qF v l
theorem getD_at {l : List Rat} {j : Nat} (h : j < l.length) : l[j]? = some (l.getD j 0):=by rw [List.getD_eq_getElem?_getD,List.getElem?_eq_getElem h]; rfl
theorem W6 {q : Rat} : q.num.sign = 0 ↔ q = 0:=by rw [Int.sign_eq_zero_iff_zero]; exact Rat.num_eq_zero
def zeroQ : Value:=.agg #[.bool false,.slice none 0 0,.bool false,.slice none 0 0]
set_option maxRecDepth 100000 in
theorem cp0 {S : Nat → Prop} {w : World} {v : Value} {l : List Rat} (hS : Up S w) (h : SeqV true 4 qF S w v l) (hn : NoneL l) :
  Gives Tryz.prog 32 [v] w fun v' w'=>v' = .tuple #[zeroQ,.bool false] ∧ Ext w w':=by
 have hmx:=h.len_le
 unfold maxLen at hmx
 refine o8 (E:=env) (S0:=S) (G:=(qsG v l)) (l:=[.one (.sl v l.length)]) Tryz.func32 rfl rfl rfl ⟨h.sl,trivial⟩ rfl h ?_
 refine H2 (ι:=Nat) [(3,20)] (fun j=>[(4,.one (.int .i64 (j : Int)))]) (fun _=>[]) (fun j=>(qsG v l)) (fun j=>j ≤ l.length) (fun j=>l.length - j) (0) ⟨a8,hS,b7⟩ (by kernel_rfl) (by kernel_rfl) (fun β=>(by kernel_rfl)) (fun β=>(by kernel_rfl)) (by kernel_rfl) (Nat.zero_le _) (fun S w hw hG=>⟨s9 rfl,fun p hp=>by cases hp⟩) (fun S w hw hG=>hG) (fun hso j hj=>?_)
 refine X3 (p:=(j : Int) < (l.length : Int)) ⟨a8,hS,b7⟩ (by kernel_rfl) (by kernel_rfl) (by kernel_rfl) (fun hlt=>?_) (fun hlt=>?_)
 ·have hlt' : j < l.length:=by omega
  have hx0:=getD_at hlt'
  refine q7 ⟨a8,hS,b7⟩ (by kernel_rfl) (ay0 v l.length (j : Int) 30 4 (fun u0=>atG true 4 (fun x0=>qG x0 ((l.getD j 0))) u0) (by kernel_rfl) ⟨a8,hS,b7⟩ (fun β S w hM hw hG=>have h:=hG; h.el rfl rfl hx0) ?_)
  intro u_1
  refine q7 ⟨a8,hS,b7⟩ (by kernel_rfl) (az5 u_1 30 4 true (fun x0=>.one (.ag 4 x0)) (fun x0=>qG x0 ((l.getD j 0))) (by kernel_rfl) ⟨a8,hS,b7⟩ (fun S w hw hG=>hG.1) (fun _ _ _ h=>⟨h.ok,rfl⟩) ?_)
  intro x
  refine s_K (.one (.int .i64 (l.getD j 0).num.sign)) ⟨a8,hS,b7⟩ (by kernel_rfl) (by kernel_rfl) (j9 rfl) rfl (fun β S w hS hs hw hG=>have hx:=hG.1; ⟨_,(by kernel_rfl),a16 hx⟩) ?_
  refine I5 (p:=¬ (l.getD j 0).num.sign = 0) ⟨a8,hS,b7⟩ (by kernel_rfl) (by kernel_rfl) (by kernel_rfl) (fun e=>hn ⟨l.getD j 0,List.mem_of_getElem? hx0,fun g=>e (W6.2 g)⟩) ?_
  refine I8 (ps:=[InR .i64 ((j : Int) + 1)]) ⟨a8,hS,b7⟩ (by kernel_rfl) (by simp only [AllT,InR,and_true]; omega) ?_
  exact F7 (j + 1) ⟨a8,hS,b7⟩ hso (by kernel_rfl) (by kernel_rfl) (fun β=>(by kernel_rfl)) (fun β=>(by kernel_rfl)) (by kernel_rfl) (by omega) (by omega) (fun S w hw hG=>⟨s9 rfl,fun p hp=>by cases hp⟩) (fun S w hw hG=>hG.2.2)
 ·refine I6 ⟨a8,hS,b7⟩ (by kernel_rfl) (by kernel_rfl) ?_
  exact q8 (.tuple #[zeroQ,.bool false]) ⟨a8,hS,b7⟩ (by kernel_rfl) rfl (by kernel_rfl) (fun β=>(by kernel_rfl)) (fun S w hs hw hG=>⟨rfl,hw⟩)
abbrev nzG (v : Value) (n : Nat) : Gh:=⟨fun S w=>NatV S 3 .i64 w v n,fun h k=>h.keep k,fun h k=>h.mono k⟩
set_option maxRecDepth 100000 in
theorem bo5 {S : Nat → Prop} {w : World} {v : Value} {q : Rat} (hS : Up S w) (h : QV S w v q) (hl : rl q 1000000) :
  Gives Tryz.prog 61 [v,.int .i64 40] w fun v' w'=>v' = .bool (tst (LongR q)) ∧ Ext w w':=by
 obtain ⟨m,b,rfl,hm,hb⟩:=h
 refine o8 (E:=env) (S0:=S) (G:=((nzG m q.num.natAbs).and (nzG b q.den))) (l:=[.agg [.tp (q.num < 0),.val m,.tp ((q.den : Int) < 0),.val b],.one (.lit .i64 40)]) Tryz.func61 rfl rfl rfl ⟨G7 ⟨trivial,hm.one,trivial,hb.one,trivial⟩,trivial,trivial⟩ rfl ⟨hm,hb⟩ ?_
 refine s_K (.one (.int .i64 (Lib.nDigits q.num.natAbs : Nat))) ⟨a8,hS,b7⟩ (by kernel_rfl) (by kernel_rfl) (j9 rfl) rfl (fun β S w hS hs hw hG=>have hm:=hG.1; ⟨_,(by kernel_rfl),b65 hm (Nat.le_trans hl.1 (by decide))⟩) ?_
 refine ad5 (p:=(40 : Int) < ((Lib.nDigits q.num.natAbs : Nat) : Int)) 11 ⟨a8,hS,b7⟩ (by kernel_rfl) (by kernel_rfl) (fun h4=>?_) (fun h4=>?_)
 ·exact q8 (.bool true) ⟨a8,hS,b7⟩ (by kernel_rfl) rfl (by kernel_rfl) (fun β=>(by kernel_rfl)) (fun S w hs hw hG=>⟨by rw [l9 (show LongR q from .inl (by omega))],hw⟩)
 ·refine s_K (.one (.int .i64 (Lib.nDigits q.den : Nat))) ⟨a8,hS,b7⟩ (by kernel_rfl) (by kernel_rfl) (j9 rfl) rfl (fun β S w hS hs hw hG=>have hb:=hG.2; ⟨_,(by kernel_rfl),b65 hb (Nat.le_trans (show dl q.den ≤ 1000000 from hl.2) (by decide))⟩) ?_
  exact q8 (.bool (tst ((40 : Int) < ((Lib.nDigits q.den : Nat) : Int)))) ⟨a8,hS,b7⟩ (by kernel_rfl) rfl (by kernel_rfl) (fun β=>(by kernel_rfl)) (fun S w hs hw hG=>⟨by rw [show LongR q = ((40 : Int) < ((Lib.nDigits q.den : Nat) : Int)) from propext ⟨fun h=>by rcases h with h | h <;> omega,fun h=>.inr (by omega)⟩],hw⟩)
set_option maxRecDepth 100000 in
theorem a02 {S : Nat → Prop} {w : World} {v : Value} {l : List Rat} (hS : Up S w) (h : SeqV true 4 qF S w v l) (hl : ∀ x ∈ l,rl x 1000000) :
  Gives Tryz.prog 33 [v] w fun v' w'=>v' = .bool (tst (LongL l)) ∧ Ext w w':=by
 have hmx:=h.len_le
 unfold maxLen at hmx
 refine o8 (E:=env) (S0:=S) (G:=(qsG v l)) (l:=[.one (.sl v l.length)]) Tryz.func33 rfl rfl rfl ⟨h.sl,trivial⟩ rfl h ?_
 refine H2 (ι:=Nat) [(2,14)] (fun j=>[(3,.one (.int .i64 (j : Int)))]) (fun _=>[]) (fun j=>(qsG v l)) (fun j=>j ≤ l.length ∧ ∀ i,i < j → ¬ LongR (l.getD i 0)) (fun j=>l.length - j) (0) ⟨a8,hS,b7⟩ (by kernel_rfl) (by kernel_rfl) (fun β=>(by kernel_rfl)) (fun β=>(by kernel_rfl)) (by kernel_rfl) (⟨Nat.zero_le _,fun _ h=>absurd h (Nat.not_lt_zero _)⟩) (fun S w hw hG=>⟨s9 rfl,fun p hp=>by cases hp⟩) (fun S w hw hG=>hG) (fun hso j hj=>?_)
 refine X3 (p:=(j : Int) < (l.length : Int)) ⟨a8,hS,b7⟩ (by kernel_rfl) (by kernel_rfl) (by kernel_rfl) (fun hlt=>?_) (fun hlt=>?_)
 ·have hlt' : j < l.length:=by omega
  have hx0:=getD_at hlt'
  have hm:=List.mem_of_getElem? hx0
  refine q7 ⟨a8,hS,b7⟩ (by kernel_rfl) (ay0 v l.length (j : Int) 30 4 (fun u0=>atG true 4 (fun x0=>qG x0 ((l.getD j 0))) u0) (by kernel_rfl) ⟨a8,hS,b7⟩ (fun β S w hM hw hG=>have h:=hG; h.el rfl rfl hx0) ?_)
  intro u_1
  refine q7 ⟨a8,hS,b7⟩ (by kernel_rfl) (az5 u_1 30 4 true (fun x0=>.one (.ag 4 x0)) (fun x0=>qG x0 ((l.getD j 0))) (by kernel_rfl) ⟨a8,hS,b7⟩ (fun S w hw hG=>hG.1) (fun _ _ _ h=>⟨h.ok,rfl⟩) ?_)
  intro x
  refine s_K (.one (.tp (LongR (l.getD j 0)))) ⟨a8,hS,b7⟩ (by kernel_rfl) (by kernel_rfl) (j9 rfl) rfl (fun β S w hS hs hw hG=>have hx:=hG.1; ⟨_,(by kernel_rfl),bo5 hS hx (hl _ hm)⟩) ?_
  refine X3 (p:=LongR (l.getD j 0)) ⟨a8,hS,b7⟩ (by kernel_rfl) (by kernel_rfl) (by kernel_rfl) (fun hlr=>?_) (fun hlr=>?_)
  ·refine I6 ⟨a8,hS,b7⟩ (by kernel_rfl) (by kernel_rfl) ?_
   exact q8 (.bool true) ⟨a8,hS,b7⟩ (by kernel_rfl) rfl (by kernel_rfl) (fun β=>(by kernel_rfl)) (fun S w hs hw hG=>⟨by rw [l9 (show LongL l from ⟨_,hm,hlr⟩)],hw⟩)
  ·refine I8 (ps:=[InR .i64 ((j : Int) + 1)]) ⟨a8,hS,b7⟩ (by kernel_rfl) (by simp only [AllT,InR,and_true]; omega) ?_
   exact F7 (j + 1) ⟨a8,hS,b7⟩ hso (by kernel_rfl) (by kernel_rfl) (fun β=>(by kernel_rfl)) (fun β=>(by kernel_rfl)) (by kernel_rfl) (⟨by omega,fun i hi=>(Nat.lt_or_ge i j).elim (fun h=>hj.2 i h) fun h=>(by have e : i = j:=(by omega); rw [e]; exact hlr)⟩) (by omega) (fun S w hw hG=>⟨s9 rfl,fun p hp=>by cases hp⟩) (fun S w hw hG=>hG.2.2)
 ·refine I6 ⟨a8,hS,b7⟩ (by kernel_rfl) (by kernel_rfl) ?_
  exact q8 (.bool false) ⟨a8,hS,b7⟩ (by kernel_rfl) rfl (by kernel_rfl) (fun β=>(by kernel_rfl)) (fun S w hs hw hG=>⟨by rw [j6 fun g : LongL l=>(let ⟨x,hx,hr⟩:=g; (by obtain ⟨i,hi,rfl⟩:=List.mem_iff_getElem.1 hx; exact hj.2 i (by omega) (by rw [List.getD_eq_getElem?_getD,List.getElem?_eq_getElem hi]; exact hr)))],hw⟩)
end Go.Proofs.YtpheooheinfbgaaGreatDoor
end
section
set_option linter.unusedVariables false
set_option linter.unusedSimpArgs false
namespace Go.Proofs.YtpheooheinfbgaaGreatDoor
open Go Go.RowKit
theorem ck8 {α : Type} {g : Bool} {s : Nat} {F : Value → α → Gh} {S : Nat → Prop} {w : World} {vs : List Value} {l : List α} {u : Value} (h : ElsV g s F S w vs l) (hu : At S w u (catV vs)) (hm : l.length ≤ maxLen) :
  ∃ b k,u = .pointer (some ⟨b,k,none⟩) ∧ SeqV g s F S w (.slice (some ⟨b,k,none⟩) l.length l.length) l:=by
 obtain ⟨b,o,arr,T,fr,h1,h2,h3,h4,h5⟩:=hu
 have hl:=L8 h.lies
 rw [h.len] at hl
 rw [hl] at h4 h5
 exact ⟨b,o,h1,⟨T,vs,h.len,h.lies,⟨hl,.inr ⟨b,o,l.length,arr,fr,rfl,Nat.le_refl _,hm,h2,h3,h4,h5⟩⟩,h.el⟩⟩
end Go.Proofs.YtpheooheinfbgaaGreatDoor
end
section
set_option linter.unusedVariables false
set_option linter.unusedSimpArgs false
namespace Go.Proofs.YtpheooheinfbgaaGreatDoor
open Go Go.RowKit
theorem QV.okc {S : Nat → Prop} {w : World} {v : Value} {q : Rat} {m : Nat} (h : QV S w v q) : (Ch.ag 4 v).Ok m:=h.ok
theorem mkRat_one (a : Int) : mkRat (a * (1 : Int).sign) (1 : Int).natAbs = (a : Rat):=by
 rw [show (1 : Int).sign = 1 from rfl,Int.mul_one,show (1 : Int).natAbs = 1 from rfl]
 rw [Rat.mkRat_one]
theorem F4 {S : Nat → Prop} {w : World} {a : Int} (hS : Up S w) (h0 : -9223372036854775808 ≤ a) (h1 : a ≤ 9223372036854775807) :
  Gives Tryz.prog 23 [.int .i64 a,.int .i64 1] w fun v' w'=>Ext w w' ∧ QV S w' v' (a : Rat):=by
 have h:=cb3 (b:=1) hS h0 h1 (by decide) (by decide) (by decide) (F8 (k:=3) (by omega)) (F8 (k:=3) (by decide))
 rwa [mkRat_one] at h
theorem I7 {S : Nat → Prop} {w : World} (hS : Up S w) : Gives Tryz.prog 23 [.int .i64 0,.int .i64 1] w fun v' w'=>Ext w w' ∧ QV S w' v' (0 : Rat):=F4 (a:=0) hS (by decide) (by decide)
theorem cj5 (n : Nat) : rl (0 : Rat) (n + 1):=⟨Nat.le_trans (F8 (k:=0) (show 0 < 1000000000 ^ 0 by decide)) (Nat.zero_le _),Nat.le_trans (F8 (k:=1) (show 1 < 1000000000 ^ 1 by decide)) (by omega)⟩
theorem cs3 (p q : T3) : 0 + p.x * q.x + p.y * q.y + p.z * q.z = p.dot q:=by unfold T3.dot; grind
set_option maxRecDepth 100000 in
set_option maxHeartbeats 1000000 in
theorem a17 {S : Nat → Prop} {w : World} {vp vq : Value} {p q : T3} {m n : Nat} (hS : Up S w) (hp : QTripV S w vp p) (hq : QTripV S w vq q) (hm : tl p m) (hn : tl q n) (hmn : m + n ≤ 1000000) :
  Gives Tryz.prog 44 [vp,vq] w fun v' w'=>Ext w w' ∧ QV S w' v' (p.dot q):=by
 obtain ⟨a1,b1,c1,rfl,ha1,hb1,hc1⟩:=hp
 obtain ⟨a2,b2,c2,rfl,ha2,hb2,hc2⟩:=hq
 refine o8 (E:=env) (S0:=S) (G:=((qG a1 p.x).and ((qG b1 p.y).and ((qG c1 p.z).and ((qG a2 q.x).and ((qG b2 q.y).and (qG c2 q.z))))))) (l:=[.agg [.ag 4 a1,.ag 4 b1,.ag 4 c1],.agg [.ag 4 a2,.ag 4 b2,.ag 4 c2]]) Tryz.func44 rfl rfl rfl ⟨G7 ⟨ha1.okc,hb1.okc,hc1.okc,trivial⟩,G7 ⟨ha2.okc,hb2.okc,hc2.okc,trivial⟩,trivial⟩ rfl ⟨ha1,hb1,hc1,ha2,hb2,hc2⟩ ?_
 refine s_1 (fun x0=>.one (.ag 4 x0)) (fun x0=>qG x0 ((0 : Rat))) ⟨a8,hS,b7⟩ (by kernel_rfl) (by kernel_rfl) (fun _ _ _ h=>⟨h.ok,rfl⟩) (fun β S w hS hs hw hG=>⟨_,(by kernel_rfl),I7 hS⟩) ?_
 intro z
 refine A5 ⟨a8,hS,b7⟩ (by kernel_rfl) ?_
 refine l8 9 ⟨a8,hS,b7⟩ (by kernel_rfl) (by kernel_rfl) (by kernel_rfl) ?_
 refine i1 7 (fun η=>(by kernel_rfl)) ?_
 refine h_1 (fun x0=>.one (.ag 4 x0)) (fun x0=>qG x0 ((p.x * q.x))) (fun η=>(by kernel_rfl)) (fun _ _ _ h=>⟨h.ok,rfl⟩) (fun β η S w hS hs hw hG hd=>have ha1:=hG.2.1; have ha2:=hG.2.2.2.2.1; ⟨_,(by kernel_rfl),L9 hS ha1 ha2 (o5 hm.1 (by omega)) (o5 hn.1 (by omega))⟩) ?_
 refine h_1 (fun x0=>.one (.ag 4 x0)) (fun x0=>qG x0 ((0 + p.x * q.x))) (fun η=>(by kernel_rfl)) (fun _ _ _ h=>⟨h.ok,rfl⟩) (fun β η S w hS hs hw hG hd=>have hz:=hG.1; ⟨_,(by kernel_rfl),az8 hS hz (dep hd 7 (by kernel_rfl) (by kernel_rfl) : (qG (η 7) ((p.x * q.x))).p S w) (o5 (cj5 1) (by decide)) (o5 (A8 hm.1 hn.1) (by omega))⟩) ?_
 refine l6 [true,false] ((qG b1 p.y).and ((qG c1 p.z).and ((qG b2 q.y).and ((qG c2 q.z).and (Gh.nil))))) (by exact fun _ _ h=>⟨h.2.2.1,h.2.2.2.1,h.2.2.2.2.2.1,h.2.2.2.2.2.2,trivial⟩) (fun g η=>(qG (η 8) ((0 + p.x * q.x))).and g) (by kernel_rfl) (fun g η=>(by kernel_rfl)) ?_
 intro η_1
 refine l8 9 ⟨a8,hS,b7⟩ (by kernel_rfl) (by kernel_rfl) (by kernel_rfl) ?_
 refine i1 7 (fun η=>(by kernel_rfl)) ?_
 refine h_1 (fun x0=>.one (.ag 4 x0)) (fun x0=>qG x0 ((p.y * q.y))) (fun η=>(by kernel_rfl)) (fun _ _ _ h=>⟨h.ok,rfl⟩) (fun β η S w hS hs hw hG hd=>have hb1:=hG.2.1; have hb2:=hG.2.2.2.1; ⟨_,(by kernel_rfl),L9 hS hb1 hb2 (o5 hm.2.1 (by omega)) (o5 hn.2.1 (by omega))⟩) ?_
 refine h_1 (fun x0=>.one (.ag 4 x0)) (fun x0=>qG x0 ((0 + p.x * q.x + p.y * q.y))) (fun η=>(by kernel_rfl)) (fun _ _ _ h=>⟨h.ok,rfl⟩) (fun β η S w hS hs hw hG hd=>have xs:=hG.1; ⟨_,(by kernel_rfl),az8 hS xs (dep hd 7 (by kernel_rfl) (by kernel_rfl) : (qG (η 7) ((p.y * q.y))).p S w) (o5 (ar1 (cj5 1) (A8 hm.1 hn.1)) (by omega)) (o5 (A8 hm.2.1 hn.2.1) (by omega))⟩) ?_
 refine l6 [true,false] ((qG c1 p.z).and ((qG c2 q.z).and (Gh.nil))) (by exact fun _ _ h=>⟨h.2.2.1,h.2.2.2.2.1,trivial⟩) (fun g η=>(qG (η 8) ((0 + p.x * q.x + p.y * q.y))).and g) (by kernel_rfl) (fun g η=>(by kernel_rfl)) ?_
 intro η_2
 refine l8 9 ⟨a8,hS,b7⟩ (by kernel_rfl) (by kernel_rfl) (by kernel_rfl) ?_
 refine i1 7 (fun η=>(by kernel_rfl)) ?_
 refine h_1 (fun x0=>.one (.ag 4 x0)) (fun x0=>qG x0 ((p.z * q.z))) (fun η=>(by kernel_rfl)) (fun _ _ _ h=>⟨h.ok,rfl⟩) (fun β η S w hS hs hw hG hd=>have hc1:=hG.2.1; have hc2:=hG.2.2.1; ⟨_,(by kernel_rfl),L9 hS hc1 hc2 (o5 hm.2.2 (by omega)) (o5 hn.2.2 (by omega))⟩) ?_
 refine h_1 (fun x0=>.one (.ag 4 x0)) (fun x0=>qG x0 ((0 + p.x * q.x + p.y * q.y + p.z * q.z))) (fun η=>(by kernel_rfl)) (fun _ _ _ h=>⟨h.ok,rfl⟩) (fun β η S w hS hs hw hG hd=>have ys:=hG.1; ⟨_,(by kernel_rfl),az8 hS ys (dep hd 7 (by kernel_rfl) (by kernel_rfl) : (qG (η 7) ((p.z * q.z))).p S w) (o5 (ar1 (ar1 (cj5 1) (A8 hm.1 hn.1)) (A8 hm.2.1 hn.2.1)) (by omega)) (o5 (A8 hm.2.2 hn.2.2) (by omega))⟩) ?_
 refine l6 [true,false] (Gh.nil) (by exact fun _ _ h=>trivial) (fun g η=>(qG (η 8) ((0 + p.x * q.x + p.y * q.y + p.z * q.z))).and g) (by kernel_rfl) (fun g η=>(by kernel_rfl)) ?_
 intro η_3
 exact q8 ((η_3 8)) ⟨a8,hS,b7⟩ (by kernel_rfl) rfl (by kernel_rfl) (fun β=>(by kernel_rfl)) (fun S w hs hw hG=>have zs:=hG.1; ⟨hw,by rw [← cs3]; exact zs.mono fun k _ hk=>hs k hk⟩)
set_option maxRecDepth 100000 in
set_option maxHeartbeats 1000000 in
theorem bw9 {S : Nat → Prop} {w : World} {vp vq : Value} {p q : T3} {m n : Nat} (hS : Up S w) (hp : QTripV S w vp p) (hq : QTripV S w vq q) (hm : tl p m) (hn : tl q n) (hmn : m + n ≤ 1000000) :
  Gives Tryz.prog 18 [vp,vq] w fun v' w'=>Ext w w' ∧ QTripV S w' v' (p.cross q):=by
 obtain ⟨a1,b1,c1,rfl,ha1,hb1,hc1⟩:=hp
 obtain ⟨a2,b2,c2,rfl,ha2,hb2,hc2⟩:=hq
 refine o8 (E:=env) (S0:=S) (G:=((qG a1 p.x).and ((qG b1 p.y).and ((qG c1 p.z).and ((qG a2 q.x).and ((qG b2 q.y).and (qG c2 q.z))))))) (l:=[.agg [.ag 4 a1,.ag 4 b1,.ag 4 c1],.agg [.ag 4 a2,.ag 4 b2,.ag 4 c2]]) Tryz.func18 rfl rfl rfl ⟨G7 ⟨ha1.okc,hb1.okc,hc1.okc,trivial⟩,G7 ⟨ha2.okc,hb2.okc,hc2.okc,trivial⟩,trivial⟩ rfl ⟨ha1,hb1,hc1,ha2,hb2,hc2⟩ ?_
 refine A5 ⟨a8,hS,b7⟩ (by kernel_rfl) ?_
 refine l8 17 ⟨a8,hS,b7⟩ (by kernel_rfl) (by kernel_rfl) (by kernel_rfl) ?_
 refine i1 7 (fun η=>(by kernel_rfl)) ?_
 refine h_1 (fun x0=>.one (.ag 4 x0)) (fun x0=>qG x0 ((p.y * q.z))) (fun η=>(by kernel_rfl)) (fun _ _ _ h=>⟨h.ok,rfl⟩) (fun β η S w hS hs hw hG hd=>have hb1:=hG.2.1; have hc2:=hG.2.2.2.2.2; ⟨_,(by kernel_rfl),L9 hS hb1 hc2 (o5 hm.2.1 (by omega)) (o5 hn.2.2 (by omega))⟩) ?_
 refine i1 6 (fun η=>(by kernel_rfl)) ?_
 refine h_1 (fun x0=>.one (.ag 4 x0)) (fun x0=>qG x0 ((p.z * q.y))) (fun η=>(by kernel_rfl)) (fun _ _ _ h=>⟨h.ok,rfl⟩) (fun β η S w hS hs hw hG hd=>have hc1:=hG.2.2.1; have hb2:=hG.2.2.2.2.1; ⟨_,(by kernel_rfl),L9 hS hc1 hb2 (o5 hm.2.2 (by omega)) (o5 hn.2.1 (by omega))⟩) ?_
 refine h_1 (fun x0=>.one (.ag 4 x0)) (fun x0=>qG x0 ((p.y * q.z - p.z * q.y))) (fun η=>(by kernel_rfl)) (fun _ _ _ h=>⟨h.ok,rfl⟩) (fun β η S w hS hs hw hG hd=>⟨_,(by kernel_rfl),ar4 hS (dep hd 7 (by kernel_rfl) (by kernel_rfl) : (qG (η 7) ((p.y * q.z))).p S w) (dep hd 14 (by kernel_rfl) (by kernel_rfl) : (qG (η 14) ((p.z * q.y))).p S w) (o5 (A8 hm.2.1 hn.2.2) (by omega)) (o5 (A8 hm.2.2 hn.2.1) (by omega))⟩) ?_
 refine i1 1 (fun η=>(by kernel_rfl)) ?_
 refine l6 [true,false,false] ((qG a1 p.x).and ((qG b1 p.y).and ((qG c1 p.z).and ((qG a2 q.x).and ((qG b2 q.y).and ((qG c2 q.z).and (Gh.nil))))))) (by exact fun _ _ h=>⟨h.1,h.2.1,h.2.2.1,h.2.2.2.1,h.2.2.2.2.1,h.2.2.2.2.2,trivial⟩) (fun g η=>(qG (η 15) ((p.y * q.z - p.z * q.y))).and g) (by kernel_rfl) (fun g η=>(by kernel_rfl)) ?_
 intro η_1
 refine l8 17 ⟨a8,hS,b7⟩ (by kernel_rfl) (by kernel_rfl) (by kernel_rfl) ?_
 refine i1 7 (fun η=>(by kernel_rfl)) ?_
 refine h_1 (fun x0=>.one (.ag 4 x0)) (fun x0=>qG x0 ((p.z * q.x))) (fun η=>(by kernel_rfl)) (fun _ _ _ h=>⟨h.ok,rfl⟩) (fun β η S w hS hs hw hG hd=>have hc1:=hG.2.2.2.1; have ha2:=hG.2.2.2.2.1; ⟨_,(by kernel_rfl),L9 hS hc1 ha2 (o5 hm.2.2 (by omega)) (o5 hn.1 (by omega))⟩) ?_
 refine i1 6 (fun η=>(by kernel_rfl)) ?_
 refine h_1 (fun x0=>.one (.ag 4 x0)) (fun x0=>qG x0 ((p.x * q.z))) (fun η=>(by kernel_rfl)) (fun _ _ _ h=>⟨h.ok,rfl⟩) (fun β η S w hS hs hw hG hd=>have ha1:=hG.2.1; have hc2:=hG.2.2.2.2.2.2.1; ⟨_,(by kernel_rfl),L9 hS ha1 hc2 (o5 hm.1 (by omega)) (o5 hn.2.2 (by omega))⟩) ?_
 refine h_1 (fun x0=>.one (.ag 4 x0)) (fun x0=>qG x0 ((p.z * q.x - p.x * q.z))) (fun η=>(by kernel_rfl)) (fun _ _ _ h=>⟨h.ok,rfl⟩) (fun β η S w hS hs hw hG hd=>⟨_,(by kernel_rfl),ar4 hS (dep hd 7 (by kernel_rfl) (by kernel_rfl) : (qG (η 7) ((p.z * q.x))).p S w) (dep hd 14 (by kernel_rfl) (by kernel_rfl) : (qG (η 14) ((p.x * q.z))).p S w) (o5 (A8 hm.2.2 hn.1) (by omega)) (o5 (A8 hm.1 hn.2.2) (by omega))⟩) ?_
 refine i1 1 (fun η=>(by kernel_rfl)) ?_
 refine l6 [true,false,false] ((qG (η_1 15) ((p.y * q.z - p.z * q.y))).and ((qG a1 p.x).and ((qG b1 p.y).and ((qG a2 q.x).and ((qG b2 q.y).and (Gh.nil)))))) (by exact fun _ _ h=>⟨h.1,h.2.1,h.2.2.1,h.2.2.2.2.1,h.2.2.2.2.2.1,trivial⟩) (fun g η=>(qG (η 15) ((p.z * q.x - p.x * q.z))).and g) (by kernel_rfl) (fun g η=>(by kernel_rfl)) ?_
 intro η_2
 refine l8 17 ⟨a8,hS,b7⟩ (by kernel_rfl) (by kernel_rfl) (by kernel_rfl) ?_
 refine i1 7 (fun η=>(by kernel_rfl)) ?_
 refine h_1 (fun x0=>.one (.ag 4 x0)) (fun x0=>qG x0 ((p.x * q.y))) (fun η=>(by kernel_rfl)) (fun _ _ _ h=>⟨h.ok,rfl⟩) (fun β η S w hS hs hw hG hd=>have ha1:=hG.2.2.1; have hb2:=hG.2.2.2.2.2.1; ⟨_,(by kernel_rfl),L9 hS ha1 hb2 (o5 hm.1 (by omega)) (o5 hn.2.1 (by omega))⟩) ?_
 refine i1 6 (fun η=>(by kernel_rfl)) ?_
 refine h_1 (fun x0=>.one (.ag 4 x0)) (fun x0=>qG x0 ((p.y * q.x))) (fun η=>(by kernel_rfl)) (fun _ _ _ h=>⟨h.ok,rfl⟩) (fun β η S w hS hs hw hG hd=>have hb1:=hG.2.2.2.1; have ha2:=hG.2.2.2.2.1; ⟨_,(by kernel_rfl),L9 hS hb1 ha2 (o5 hm.2.1 (by omega)) (o5 hn.1 (by omega))⟩) ?_
 refine h_1 (fun x0=>.one (.ag 4 x0)) (fun x0=>qG x0 ((p.x * q.y - p.y * q.x))) (fun η=>(by kernel_rfl)) (fun _ _ _ h=>⟨h.ok,rfl⟩) (fun β η S w hS hs hw hG hd=>⟨_,(by kernel_rfl),ar4 hS (dep hd 7 (by kernel_rfl) (by kernel_rfl) : (qG (η 7) ((p.x * q.y))).p S w) (dep hd 14 (by kernel_rfl) (by kernel_rfl) : (qG (η 14) ((p.y * q.x))).p S w) (o5 (A8 hm.1 hn.2.1) (by omega)) (o5 (A8 hm.2.1 hn.1) (by omega))⟩) ?_
 refine i1 1 (fun η=>(by kernel_rfl)) ?_
 refine l6 [true,false,false] ((qG (η_2 15) ((p.z * q.x - p.x * q.z))).and ((qG (η_1 15) ((p.y * q.z - p.z * q.y))).and (Gh.nil))) (by exact fun _ _ h=>⟨h.1,h.2.1,trivial⟩) (fun g η=>(qG (η 15) ((p.x * q.y - p.y * q.x))).and g) (by kernel_rfl) (fun g η=>(by kernel_rfl)) ?_
 intro η_3
 exact q8 (tri4 (η_1 15) (η_2 15) (η_3 15)) ⟨a8,hS,b7⟩ (by kernel_rfl) rfl (by kernel_rfl) (fun β=>(by kernel_rfl)) (fun S w hs hw hG=>have hz:=hG.1; have hy:=hG.2.1; have hx:=hG.2.2.1; ⟨hw,_,_,_,rfl,hx.mono fun k _ hk=>hs k hk,hy.mono fun k _ hk=>hs k hk,hz.mono fun k _ hk=>hs k hk⟩)
end Go.Proofs.YtpheooheinfbgaaGreatDoor
end
section
set_option linter.unusedVariables false
set_option linter.unusedSimpArgs false
namespace Go.Proofs.YtpheooheinfbgaaGreatDoor
open Go Go.RowKit
abbrev qvG (x : Value) (a : Value × Rat) : Gh:=(pureG (x = a.1)).and (qG x a.2)
abbrev qvF (x : Value) (a : Value × Rat) : Gh:=qvG x a
theorem bk0 {l : List (Value × Rat)} {j : Nat} (h : j < l.length) : l[j]? = some (l.getD j (undef,0)):=by rw [List.getD_eq_getElem?_getD,List.getElem?_eq_getElem h]; rfl
theorem ap8 {S : Nat → Prop} {w : World} {v : Value} {l : List (Value × Rat)} {p : Nat} (hS : Up S w) (h : SeqV true 4 qvF S w v l) (hpl : p < l.length) (hp0 : (l.getD p (undef,0)).2 ≠ 0) (hlow : ∀ j,j < p → (l.getD j (undef,0)).2 = 0) :
  Gives Tryz.prog 32 [v] w fun v' w'=>v' = .tuple #[(l.getD p (undef,0)).1,.bool true] ∧ Ext w w':=by
 have hmx:=h.len_le
 unfold maxLen at hmx
 refine o8 (E:=env) (S0:=S) (G:=(seqG true 4 qvF v l)) (l:=[.one (.sl v l.length)]) Tryz.func32 rfl rfl rfl ⟨h.sl,trivial⟩ rfl h ?_
 refine H2 (ι:=Nat) [(3,20)] (fun j=>[(4,.one (.int .i64 (j : Int)))]) (fun _=>[]) (fun j=>(seqG true 4 qvF v l)) (fun j=>j ≤ p) (fun j=>p - j) (0) ⟨a8,hS,b7⟩ (by kernel_rfl) (by kernel_rfl) (fun β=>(by kernel_rfl)) (fun β=>(by kernel_rfl)) (by kernel_rfl) (Nat.zero_le _) (fun S w hw hG=>⟨s9 rfl,fun p hp=>by cases hp⟩) (fun S w hw hG=>hG) (fun hso j hj=>?_)
 have hlt' : j < l.length:=by omega
 have hx0:=bk0 hlt'
 refine R9 (p:=(j : Int) < (l.length : Int)) ⟨a8,hS,b7⟩ (by kernel_rfl) (by kernel_rfl) (by kernel_rfl) (by omega) ?_
 refine q7 ⟨a8,hS,b7⟩ (by kernel_rfl) (ay0 v l.length (j : Int) 30 4 (fun u0=>atG true 4 (fun x0=>qvG x0 ((l.getD j (undef,0)))) u0) (by kernel_rfl) ⟨a8,hS,b7⟩ (fun β S w hM hw hG=>have h:=hG; h.el rfl rfl hx0) ?_)
 intro u_1
 refine q7 ⟨a8,hS,b7⟩ (by kernel_rfl) (az5 u_1 30 4 true (fun x0=>.one (.ag 4 x0)) (fun x0=>qvG x0 ((l.getD j (undef,0)))) (by kernel_rfl) ⟨a8,hS,b7⟩ (fun S w hw hG=>hG.1) (fun _ _ _ h=>⟨h.2.ok,rfl⟩) ?_)
 intro x
 refine s_K (.one (.int .i64 (l.getD j (undef,0)).2.num.sign)) ⟨a8,hS,b7⟩ (by kernel_rfl) (by kernel_rfl) (j9 rfl) rfl (fun β S w hS hs hw hG=>have hx:=hG.1; ⟨_,(by kernel_rfl),a16 hx.2⟩) ?_
 by_cases e : j = p
 ·subst e
  refine R9 (p:=¬ (l.getD j (undef,0)).2.num.sign = 0) ⟨a8,hS,b7⟩ (by kernel_rfl) (by kernel_rfl) (by kernel_rfl) (fun g=>hp0 (W6.1 g)) ?_
  refine q7 ⟨a8,hS,b7⟩ (by kernel_rfl) (ay0 v l.length (j : Int) 30 4 (fun u0=>atG true 4 (fun x0=>qvG x0 ((l.getD j (undef,0)))) u0) (by kernel_rfl) ⟨a8,hS,b7⟩ (fun β S w hM hw hG=>have h:=hG.2.2; h.el rfl rfl hx0) ?_)
  intro u_2
  refine q7 ⟨a8,hS,b7⟩ (by kernel_rfl) (az5 u_2 30 4 true (fun x0=>.one (.ag 4 x0)) (fun x0=>qvG x0 ((l.getD j (undef,0)))) (by kernel_rfl) ⟨a8,hS,b7⟩ (fun S w hw hG=>hG.1) (fun _ _ _ h=>⟨h.2.ok,rfl⟩) ?_)
  intro y
  refine I6 ⟨a8,hS,b7⟩ (by kernel_rfl) (by kernel_rfl) ?_
  exact q8 (.tuple #[y,.bool true]) ⟨a8,hS,b7⟩ (by kernel_rfl) rfl (by kernel_rfl) (fun β=>(by kernel_rfl)) (fun S w hs hw hG=>have hy:=hG.1; ⟨by rw [hy.1],hw⟩)
 ·refine I5 (p:=¬ (l.getD j (undef,0)).2.num.sign = 0) ⟨a8,hS,b7⟩ (by kernel_rfl) (by kernel_rfl) (by kernel_rfl) (fun g=>g (W6.2 (hlow j (by omega)))) ?_
  refine I8 (ps:=[InR .i64 ((j : Int) + 1)]) ⟨a8,hS,b7⟩ (by kernel_rfl) (by simp only [AllT,InR,and_true]; omega) ?_
  exact F7 (j + 1) ⟨a8,hS,b7⟩ hso (by kernel_rfl) (by kernel_rfl) (fun β=>(by kernel_rfl)) (fun β=>(by kernel_rfl)) (by kernel_rfl) (by omega) (by omega) (fun S w hw hG=>⟨s9 rfl,fun p hp=>by cases hp⟩) (fun S w hw hG=>hG.2.2)
theorem b22 {S : Nat → Prop} {w : World} {v : Value} {l : List (Value × Rat)} (hS : Up S w) (h : SeqV true 4 qvF S w v l) (h0 : ∀ j,j < l.length → (l.getD j (undef,0)).2 = 0) :
  Gives Tryz.prog 32 [v] w fun v' w'=>v' = .tuple #[zeroQ,.bool false] ∧ Ext w w':=by
 have hmx:=h.len_le
 unfold maxLen at hmx
 refine o8 (E:=env) (S0:=S) (G:=(seqG true 4 qvF v l)) (l:=[.one (.sl v l.length)]) Tryz.func32 rfl rfl rfl ⟨h.sl,trivial⟩ rfl h ?_
 refine H2 (ι:=Nat) [(3,20)] (fun j=>[(4,.one (.int .i64 (j : Int)))]) (fun _=>[]) (fun j=>(seqG true 4 qvF v l)) (fun j=>j ≤ l.length) (fun j=>l.length - j) (0) ⟨a8,hS,b7⟩ (by kernel_rfl) (by kernel_rfl) (fun β=>(by kernel_rfl)) (fun β=>(by kernel_rfl)) (by kernel_rfl) (Nat.zero_le _) (fun S w hw hG=>⟨s9 rfl,fun p hp=>by cases hp⟩) (fun S w hw hG=>hG) (fun hso j hj=>?_)
 refine X3 (p:=(j : Int) < (l.length : Int)) ⟨a8,hS,b7⟩ (by kernel_rfl) (by kernel_rfl) (by kernel_rfl) (fun hlt=>?_) (fun hlt=>?_)
 ·have hlt' : j < l.length:=by omega
  have hx0:=bk0 hlt'
  refine q7 ⟨a8,hS,b7⟩ (by kernel_rfl) (ay0 v l.length (j : Int) 30 4 (fun u0=>atG true 4 (fun x0=>qvG x0 ((l.getD j (undef,0)))) u0) (by kernel_rfl) ⟨a8,hS,b7⟩ (fun β S w hM hw hG=>have h:=hG; h.el rfl rfl hx0) ?_)
  intro u_1
  refine q7 ⟨a8,hS,b7⟩ (by kernel_rfl) (az5 u_1 30 4 true (fun x0=>.one (.ag 4 x0)) (fun x0=>qvG x0 ((l.getD j (undef,0)))) (by kernel_rfl) ⟨a8,hS,b7⟩ (fun S w hw hG=>hG.1) (fun _ _ _ h=>⟨h.2.ok,rfl⟩) ?_)
  intro x
  refine s_K (.one (.int .i64 (l.getD j (undef,0)).2.num.sign)) ⟨a8,hS,b7⟩ (by kernel_rfl) (by kernel_rfl) (j9 rfl) rfl (fun β S w hS hs hw hG=>have hx:=hG.1; ⟨_,(by kernel_rfl),a16 hx.2⟩) ?_
  refine I5 (p:=¬ (l.getD j (undef,0)).2.num.sign = 0) ⟨a8,hS,b7⟩ (by kernel_rfl) (by kernel_rfl) (by kernel_rfl) (fun g=>g (W6.2 (h0 j hlt'))) ?_
  refine I8 (ps:=[InR .i64 ((j : Int) + 1)]) ⟨a8,hS,b7⟩ (by kernel_rfl) (by simp only [AllT,InR,and_true]; omega) ?_
  exact F7 (j + 1) ⟨a8,hS,b7⟩ hso (by kernel_rfl) (by kernel_rfl) (fun β=>(by kernel_rfl)) (fun β=>(by kernel_rfl)) (by kernel_rfl) (by omega) (by omega) (fun S w hw hG=>⟨s9 rfl,fun p hp=>by cases hp⟩) (fun S w hw hG=>hG.2.2)
 ·refine I6 ⟨a8,hS,b7⟩ (by kernel_rfl) (by kernel_rfl) ?_
  exact q8 (.tuple #[zeroQ,.bool false]) ⟨a8,hS,b7⟩ (by kernel_rfl) rfl (by kernel_rfl) (fun β=>(by kernel_rfl)) (fun S w hs hw hG=>⟨rfl,hw⟩)
theorem qv3 {S : Nat → Prop} {w : World} {a b c : Value} {t : T3} (h1 : QV S w a t.x) (h2 : QV S w b t.y) (h3 : QV S w c t.z) : ElsV true 4 qvF S w [a,b,c] [(a,t.x),(b,t.y),(c,t.z)]:=by
 refine ⟨rfl,fun x hx=>?_,fun i q x hq hx=>?_⟩
 ·simp only [List.mem_cons,List.not_mem_nil,or_false] at hx
  rcases hx with rfl | rfl | rfl
  ·exact h1.lies
  ·exact h2.lies
  ·exact h3.lies
 ·match i with
  | 0=>simp at hq hx; subst hq hx; exact ⟨rfl,h1⟩
  | 1=>simp at hq hx; subst hq hx; exact ⟨rfl,h2⟩
  | 2=>simp at hq hx; subst hq hx; exact ⟨rfl,h3⟩
  | i + 3=>simp at hq
noncomputable def leadV (t : T3) (a b c : Value) : Value:=if t.x ≠ 0 then a else if t.y ≠ 0 then b else c
theorem cj3 {S : Nat → Prop} {w : World} {a b c : Value} {t : T3} (h1 : QV S w a t.x) (h2 : QV S w b t.y) (h3 : QV S w c t.z) : QV S w (leadV t a b c) t.lead:=by
 unfold leadV T3.lead
 split
 ·exact h1
 ·split
  ·exact h2
  ·exact h3
theorem ce2 {S : Nat → Prop} {w : World} {v a b c : Value} {t : T3} (hS : Up S w) (h : SeqV true 4 qvF S w v [(a,t.x),(b,t.y),(c,t.z)]) (hn : ¬ t.None) :
  Gives Tryz.prog 32 [v] w fun v' w'=>v' = .tuple #[leadV t a b c,.bool true] ∧ Ext w w':=by
 unfold leadV
 by_cases hx : t.x = 0
 ·by_cases hy : t.y = 0
  ·have hz : t.z ≠ 0:=fun hz=>hn ⟨hx,hy,hz⟩
   rw [if_neg (fun h=>h hx),if_neg (fun h=>h hy)]
   exact ap8 (p:=2) hS h (by simp) hz fun j hj=>by
    match j,hj with
    | 0,_=>exact hx
    | 1,_=>exact hy
  ·rw [if_neg (fun h=>h hx),if_pos hy]
   exact ap8 (p:=1) hS h (by simp) hy fun j hj=>by
    match j,hj with
    | 0,_=>exact hx
 ·rw [if_pos hx]
  exact ap8 (p:=0) hS h (by simp) hx fun j hj=>absurd hj (Nat.not_lt_zero _)
theorem b40 {S : Nat → Prop} {w : World} {v a b c : Value} {t : T3} (hS : Up S w) (h : SeqV true 4 qvF S w v [(a,t.x),(b,t.y),(c,t.z)]) (hn : t.None) :
  Gives Tryz.prog 32 [v] w fun v' w'=>v' = .tuple #[zeroQ,.bool false] ∧ Ext w w':=
 b22 hS h fun j hj=>by
  match j,hj with
  | 0,_=>exact hn.1
  | 1,_=>exact hn.2.1
  | 2,_=>exact hn.2.2
set_option maxRecDepth 100000 in
theorem T4 {S : Nat → Prop} {w : World} {vp : Value} {p : T3} (hS : Up S w) (hp : QTripV S w vp p) :
  Gives Tryz.prog 45 [vp] w fun v' w'=>v' = .bool (tst p.None) ∧ Ext w w':=by
 obtain ⟨a,b,c,rfl,ha,hb,hc⟩:=hp
 refine o8 (E:=env) (S0:=S) (G:=((qG a p.x).and ((qG b p.y).and (qG c p.z)))) (l:=[.agg [.ag 4 a,.ag 4 b,.ag 4 c]]) Tryz.func45 rfl rfl rfl ⟨G7 ⟨ha.okc,hb.okc,hc.okc,trivial⟩,trivial⟩ rfl ⟨ha,hb,hc⟩ ?_
 by_cases hn : p.None
 ·refine am8 (.tup [(true,[.bb false,.sl (.slice none 0 0) 0,.bb false,.sl (.slice none 0 0) 0]),(false,[.bb false])]) ⟨a8,hS,b7⟩ (by kernel_rfl) (by kernel_rfl) (j9 rfl) rfl (fun β S w hS hM hs hw hG=>have ha:=hG.1; have hb:=hG.2.1; have hc:=hG.2.2; ⟨_,(by kernel_rfl),b40 (B8 hS) (Q3 (F:=qvF) (l:=[(a,p.x),(b,p.y),(c,p.z)]) 0 32 [a,b,c] hM (by kernel_rfl) (qv3 ha hb hc) (show 3 ≤ maxLen by decide)) hn⟩) ?_
  exact q8 (.bool true) ⟨a8,hS,b7⟩ (by kernel_rfl) rfl (by kernel_rfl) (fun β=>(by kernel_rfl)) (fun S w hs hw hG=>⟨by rw [l9 hn],hw⟩)
 ·refine cs6 (fun x0=>pr (.ag 4 (tupN x0 0)) (.bb true)) (fun x0=>bG (fun x1=>qG x1 (p.lead)) true x0) ⟨a8,hS,b7⟩ (by kernel_rfl) (by kernel_rfl) (fun _ _ _ h=>ch8 h) (fun β S w hS hM hs hw hG=>have ha:=hG.1; have hb:=hG.2.1; have hc:=hG.2.2; ⟨_,(by kernel_rfl),(ce2 (B8 hS) (Q3 (F:=qvF) (l:=[(a,p.x),(b,p.y),(c,p.z)]) 0 32 [a,b,c] hM (by kernel_rfl) (qv3 ha hb hc) (show 3 ≤ maxLen by decide)) hn).mono fun v' w' h=>⟨h.2,by rw [h.1]; rfl,by rw [h.1]; exact (cj3 ha hb hc).to h.2⟩⟩) ?_
  intro y
  exact q8 (.bool false) ⟨a8,hS,b7⟩ (by kernel_rfl) rfl (by kernel_rfl) (fun β=>(by kernel_rfl)) (fun S w hs hw hG=>⟨by rw [j6 hn],hw⟩)
theorem X7 {q : Rat} (h : q ≠ 0) : q.num ≠ 0:=fun e=>h (Rat.num_eq_zero.1 e)
end Go.Proofs.YtpheooheinfbgaaGreatDoor
end
section
set_option linter.unusedVariables false
set_option linter.unusedSimpArgs false
namespace Go.Proofs.YtpheooheinfbgaaGreatDoor
open Go Go.RowKit
section
variable {c : Cx} {st : St} {G : Gh} {all : List Oper} {K : List HRec → Prop} {acc : List HRec} {ops : List Oper}
noncomputable def hpS (c : Cx) (st : St) (acc : List HRec) (ops : List Oper) (η : Nat → Value) : SV:=match hput c.E st.hp (frH st acc η) (opH ops) with | some (s,_)=>s | none=>.und
theorem S9 (p : Value → SV) (Δ : Value → Gh) (hc : c.Ok) (hok : ∀ η,hopOk all st acc ops η = true) (hv : ∀ η,hput c.E st.hp (frH st acc η) (opH ops) = some (hpS c st acc ops η,[]))
  (h : ∀ β η S w,Up S w → Mem c.bs st.hp β w → (∀ k,S k → c.S0 k) → Keeps c.K c.w0 w → G.p S w → depsH acc (opH ops).after.toList η S w → ∃ v,(hpS c st acc ops η).den β = v ∧ v = (p v).den (fun _=>0) ∧ (p v).Ok 0 ∧ (Δ v).p S w)
  (k : Hd c st G all K (.spec ((opH ops).dst.getD 0) p Δ :: acc) (ops.drop 1)) : Hd c st G all K acc ops:=by
 refine az9 p Δ hok (fun β η S w F m ty hkn hup hM hS hw hG hd=>?_) k
 obtain ⟨v,h1,h2,h3,h4⟩:=h β η S w hup hM hS hw hG hd
 have hkn2 : OpsKn β (max m st.hp.length) (frH st acc η) (ev F) (opH ops).op:=fun x hx s hs=>by
  obtain ⟨e1,e2⟩:=hkn x hx s hs
  exact ⟨e1,e2.le (Nat.le_max_left _ _)⟩
 have he:=hv η
 generalize hpS c st acc ops η = s at he h1
 unfold hput at he
 split at he <;> first | (cases he; done) | skip
 rename_i s' vc' hp
 simp only [Option.some.injEq,Prod.mk.injEq] at he
 obtain ⟨rfl,rfl⟩:=he
 have h5:=(a01 (P:=c.P) (ty:=ty) (Nat.le_max_right m st.hp.length) hc.env hM hkn2 (S6 hp).1 trivial).1
 exact ⟨v,h1 ▸ h5,h2,h3,h4⟩
end
end Go.Proofs.YtpheooheinfbgaaGreatDoor
end
section
set_option linter.unusedVariables false
set_option linter.unusedSimpArgs false
namespace Go.Proofs.YtpheooheinfbgaaGreatDoor
open Go Go.RowKit
def cel (v : Value) (o n : Nat) : Value:=.agg ((v.cells.toList.drop o).take n).toArray
theorem bc6 {g : Bool} {n : Nat} {v : Value} {vs : List Value} (h : v.cells.toList = catV vs) (hl : ∀ x ∈ vs,Lies true n x) {i : Nat} {x : Value} (hx : vs[i]? = some x) : cel v (i * n) n = x:=by
 unfold cel
 rw [h]
 unfold catV
 rw [X4 hl hx]
 have h2:=(hl x (List.mem_of_getElem? hx)).2
 simp only [cond_true] at h2
 rw [h2]
 simp [Value.cells]
abbrev trixG (v : Value) (t : T3) : Gh:=⟨fun S w=>v = (SV.agg [.ag 3 (cel v 0 3),.ag 3 (cel v 3 3),.ag 3 (cel v 6 3)]).den (fun _=>0) ∧ RatV S w (cel v 0 3) t.x ∧ RatV S w (cel v 3 3) t.y ∧ RatV S w (cel v 6 3) t.z,fun h k=>⟨h.1,h.2.1.keep k,h.2.2.1.keep k,h.2.2.2.keep k⟩,fun h k=>⟨h.1,h.2.1.mono k,h.2.2.1.mono k,h.2.2.2.mono k⟩⟩
section
variable {S : Nat → Prop} {w : World} {v : Value} {t : T3}
theorem a95 (h : (trixG v t).p S w) : (SV.agg [.ag 3 (cel v 0 3),.ag 3 (cel v 3 3),.ag 3 (cel v 6 3)]).Ok 0 ∧ (SV.agg [.ag 3 (cel v 0 3),.ag 3 (cel v 3 3),.ag 3 (cel v 6 3)]).den (fun _=>0) = v:=
 ⟨G7 ⟨h.2.1.okc,h.2.2.1.okc,h.2.2.2.okc,trivial⟩,h.1.symm⟩
theorem co9 (h : TripV S w v t) : (trixG v t).p S w:=by
 obtain ⟨a,b,c,hv,h1,h2,h3⟩:=h
 have hl : ∀ x ∈ [a,b,c],Lies true 3 x:=by
  intro x hx
  simp only [List.mem_cons,List.not_mem_nil,or_false] at hx
  rcases hx with rfl | rfl | rfl
  ·exact h1.lies
  ·exact h2.lies
  ·exact h3.lies
 have hc : v.cells.toList = catV [a,b,c]:=by rw [hv]; exact ac1 h1.lies h2.lies h3.lies
 have e1 : cel v 0 3 = a:=bc6 (g:=true) (i:=0) hc hl rfl
 have e2 : cel v 3 3 = b:=bc6 (g:=true) (i:=1) hc hl rfl
 have e3 : cel v 6 3 = c:=bc6 (g:=true) (i:=2) hc hl rfl
 show v = _ ∧ _
 rw [e1,e2,e3]
 exact ⟨hv,h1,h2,h3⟩
end
section
variable {c : Cx} {o : Out} {G : Gh}
end
theorem bq3 {g : Bool} {s : Nat} {vs : List Value} (h : ∀ x ∈ vs,Lies g s x) (n : Nat) : (catV vs).take (n * s) = catV (vs.take n):=by
 induction n generalizing vs with
 | zero=>simp [catV]
 | succ n ih=>
  cases vs with
  | nil=>simp [catV]
  | cons x r=>
   have h1:=(h x (List.mem_cons_self ..)).1
   have h2:=ih (vs:=r) fun y hy=>h y (List.mem_cons_of_mem _ hy)
   unfold catV at h2 ⊢
   rw [List.flatMap_cons,List.take_succ_cons,List.flatMap_cons,Nat.add_mul,Nat.one_mul,Nat.add_comm,← h1,List.take_length_add_append,h1,h2]
end Go.Proofs.YtpheooheinfbgaaGreatDoor
end
section
set_option linter.unusedVariables false
set_option linter.unusedSimpArgs false
namespace Go.Proofs.YtpheooheinfbgaaGreatDoor
open Go Go.RowKit
def sixV (a : Nat → Int) : Value:=.agg #[.int .i64 (a 0),.int .i64 (a 1),.int .i64 (a 2),.int .i64 (a 3),.int .i64 (a 4),.int .i64 (a 5)]
end Go.Proofs.YtpheooheinfbgaaGreatDoor
end
section
set_option linter.unusedVariables false
set_option linter.unusedSimpArgs false
namespace Go.Proofs.YtpheooheinfbgaaGreatDoor
open Go Go.RowKit
theorem bf6 {q : Rat} {k : Nat} (h : rl q k) : (rstr q).length ≤ 18 * k + 5:=by
 unfold rstr
 have h1:=aa4 q.num
 have h2:=E9 q.num.natAbs (show dl q.num.natAbs ≤ k from h.1)
 have h3:=E9 q.den (show dl q.den ≤ k from h.2)
 rw [List.length_append]
 split
 ·simp; omega
 ·rw [List.length_cons,Lib.decDigits_length]; omega
theorem b32 {S : Nat → Prop} {w : World} {s : List UInt8} {q : Rat} (hS : Up S w) (hl : s.length ≤ 14000) (h : s = rstr q) : Gives Tryz.prog 58 [strV s] w fun v w'=>Ext w w' ∧ (tryG v q 0).p S w':=
 (bu6 hS (by omega)).mono fun v w' ⟨k,hp⟩=>⟨k,by
  rcases hp with ⟨h1,_⟩ | ⟨_,h1,_⟩ | ⟨_,z',h1,r,e,rfl,ht⟩
  ·omega
  ·exact absurd h (h1 q)
  ·obtain rfl : q = z':=bz6 (h.symm.trans h1)
   rcases ht with ⟨_,rfl,h3⟩ | ⟨h2,_⟩
   ·exact ⟨rfl,h3⟩
   ·exact absurd (bz2 (q:=q) (h ▸ Nat.le_trans hl (by decide))) h2⟩
set_option maxRecDepth 100000 in
theorem be3 {S : Nat → Prop} {w : World} {v : Value} {q : Rat} {n : Nat} (hS : Up S w) (h : QV S w v q) (hq : rl q n) (hn : n ≤ 700) :
  Gives Tryz.prog 27 [v] w fun v' w'=>Ext w w' ∧ RatV S w' v' q:=by
 have hs:=bf6 hq
 refine o8 (E:=env) (S0:=S) (G:=(qG v (q))) (l:=[.one (.ag 4 v)]) Tryz.func27 rfl rfl rfl ⟨h.ok,trivial⟩ rfl h ?_
 refine s_K (.one (.str (rstr q))) ⟨a8,hS,b7⟩ (by kernel_rfl) (by kernel_rfl) (j9 rfl) rfl (fun β S w hS hs hw hG=>have h:=hG; ⟨_,(by kernel_rfl),b90 hS h (o5 hq (by omega))⟩) ?_
 refine s_1 (fun x0=>pr (.ag 3 (tupAt x0)) (.lit .i64 0)) (fun x0=>tryG x0 (q) 0) ⟨a8,hS,b7⟩ (by kernel_rfl) (by kernel_rfl) (fun _ _ _ h=>W3 h) (fun β S w hS hs hw hG=>⟨_,(by kernel_rfl),b32 (s:=rstr q) hS (by omega) rfl⟩) ?_
 intro r
 exact q8 (tupAt r) ⟨a8,hS,b7⟩ (by kernel_rfl) rfl (by kernel_rfl) (fun β=>(by kernel_rfl)) (fun S w hs hw hG=>have hr:=hG.1; ⟨hw,hr.2.mono fun k _ hk=>hs k hk⟩)
set_option maxRecDepth 100000 in
theorem A0 {S : Nat → Prop} {w : World} {vp : Value} {p : T3} {n : Nat} (hS : Up S w) (hp : QTripV S w vp p) (hq : tl p n) (hn : n ≤ 700) :
  Gives Tryz.prog 7 [vp] w fun v' w'=>Ext w w' ∧ TripV S w' v' p:=by
 obtain ⟨a,b,c,rfl,ha,hb,hc⟩:=hp
 refine o8 (E:=env) (S0:=S) (G:=((qG a p.x).and ((qG b p.y).and (qG c p.z)))) (l:=[.agg [.ag 4 a,.ag 4 b,.ag 4 c]]) Tryz.func7 rfl rfl rfl ⟨G7 ⟨ha.okc,hb.okc,hc.okc,trivial⟩,trivial⟩ rfl ⟨ha,hb,hc⟩ ?_
 refine l8 9 ⟨a8,hS,b7⟩ (by kernel_rfl) (by kernel_rfl) (by kernel_rfl) ?_
 refine i1 2 (fun η=>(by kernel_rfl)) ?_
 refine h_1 (fun x0=>.one (.ag 3 x0)) (fun x0=>ratG x0 (p.x)) (fun η=>(by kernel_rfl)) (fun _ _ _ h=>⟨h.ok,rfl⟩) (fun β η S w hS hs hw hG hd=>have ha:=hG.1; ⟨_,(by kernel_rfl),be3 hS ha hq.1 hn⟩) ?_
 refine i1 2 (fun η=>(by kernel_rfl)) ?_
 refine h_1 (fun x0=>.one (.ag 3 x0)) (fun x0=>ratG x0 (p.y)) (fun η=>(by kernel_rfl)) (fun _ _ _ h=>⟨h.ok,rfl⟩) (fun β η S w hS hs hw hG hd=>have hb:=hG.2.1; ⟨_,(by kernel_rfl),be3 hS hb hq.2.1 hn⟩) ?_
 refine i1 2 (fun η=>(by kernel_rfl)) ?_
 refine h_1 (fun x0=>.one (.ag 3 x0)) (fun x0=>ratG x0 (p.z)) (fun η=>(by kernel_rfl)) (fun _ _ _ h=>⟨h.ok,rfl⟩) (fun β η S w hS hs hw hG hd=>have hc:=hG.2.2; ⟨_,(by kernel_rfl),be3 hS hc hq.2.2 hn⟩) ?_
 refine l6 [true,true,true] (Gh.nil) (by exact fun _ _ h=>trivial) (fun g η=>(ratG (η 8) (p.z)).and ((ratG (η 5) (p.y)).and ((ratG (η 2) (p.x)).and g))) (by kernel_rfl) (fun g η=>(by kernel_rfl)) ?_
 intro η_1
 exact q8 (tri3 (η_1 2) (η_1 5) (η_1 8)) ⟨a8,hS,b7⟩ (by kernel_rfl) rfl (by kernel_rfl) (fun β=>(by kernel_rfl)) (fun S w hs hw hG=>have hz:=hG.1; have hy:=hG.2.1; have hx:=hG.2.2.1; ⟨hw,_,_,_,rfl,hx.mono fun k _ hk=>hs k hk,hy.mono fun k _ hk=>hs k hk,hz.mono fun k _ hk=>hs k hk⟩)
theorem P6 (z : Int) : 0 ≤ IntKind.u64.wrap z:=by
 simp only [IntKind.wrap,IntKind.signed,IntKind.bits]
 exact Int.emod_nonneg _ (by decide)
abbrev I63 (z : Int) : Prop:=-9223372036854775808 ≤ z ∧ z ≤ 9223372036854775807
theorem ck6 {a : Nat → Int} {m : Nat} : (SV.agg [.int .i64 (a 0),.int .i64 (a 1),.int .i64 (a 2),.int .i64 (a 3),.int .i64 (a 4),.int .i64 (a 5)]).Ok m:=G7 ⟨trivial,trivial,trivial,trivial,trivial,trivial,trivial⟩
end Go.Proofs.YtpheooheinfbgaaGreatDoor
end
section
set_option linter.unusedVariables false
set_option linter.unusedSimpArgs false
namespace Go.Proofs.YtpheooheinfbgaaGreatDoor
open Go Go.RowKit
def zero4r : List Value:=[.bool false,.slice none 0 0,.slice none 0 0,.bool false]
def RatioV (S : Nat → Prop) (w : World) (v : Value) (q : Rat) (p : Prop) : Prop:=∃ x,v = (SV.agg [.ag 3 x,.tp p]).den (fun _=>0) ∧ RatV S w x q
section
variable {S S' : Nat → Prop} {w w' : World} {v : Value} {q : Rat} {p : Prop}
theorem RatioV.keep (h : RatioV S w v q p) (k : Keeps S w w') : RatioV S w' v q p:=let ⟨x,h1,h2⟩:=h; ⟨x,h1,h2.keep k⟩
theorem RatioV.mono (h : RatioV S w v q p) (hs : ∀ k,k < w.heap.size → S k → S' k) : RatioV S' w v q p:=let ⟨x,h1,h2⟩:=h; ⟨x,h1,h2.mono hs⟩
theorem RatioV.ok (h : RatioV S w v q p) : (SV.one (.ag 4 v)).Ok 0:=by
 obtain ⟨x,rfl,h2⟩:=h
 exact ar8 (l:=[.ag 3 x,.tp p]) (G7 (m:=0) ⟨h2.ok,trivial,trivial⟩) rfl
end
theorem ao4 : ∀ v ∈ zero4r,v.oneCell' = true:=by
 intro v hv
 simp only [zero4r,List.mem_cons,List.not_mem_nil,or_false] at hv
 rcases hv with rfl | rfl | rfl | rfl <;> rfl
theorem a41 {w : World} {g1 g2 : Nat} : GivesD Tryz.prog 103 [.pointer (some ⟨g1,0,none⟩),.pointer (some ⟨g2,0,none⟩)] .returning w fun u' w'=>u' = .returning ∧ w' = w:=by
 refine E2 Tryz.func103 rfl rfl rfl rfl rfl (.inl ⟨rfl,rfl,rfl⟩) ?_
 repeat (first | refine M9 rfl ?_ | refine a7 ?_ | refine b8 ?_ | refine d7 (by conv=>(lhs; whnf)) ?_ | refine b9 ?_ | refine d6 ?_ | refine wp_skip ?_ | refine wp_cond_false rfl ?_)
 exact ⟨[],rfl,rfl,rfl⟩
theorem a60 {w : World} {g1 g2 : Nat} {cs1 : List Value} {e : Value} {E : Int} (h1 : Blk w g1 114 cs1) (hl : cs1.length = 4) (h2 : Blk w g2 46 [e]) :
  GivesD Tryz.prog 103 [.pointer (some ⟨g1,0,none⟩),.pointer (some ⟨g2,0,none⟩)] (.panicking (failE E)) w fun u' w'=>settle u' = .returning ∧
   Keeps (fun k=>k ≠ g1 ∧ k ≠ g2) w w' ∧ Blk w' g1 114 zero4r ∧ Blk w' g2 46 [.int .i64 E]:=by
 have hne : g1 ≠ g2:=h1.ne h2 (by decide)
 refine E2 Tryz.func103 rfl rfl rfl rfl rfl (.inr ⟨_,rfl,rfl,rfl⟩) ?_
 repeat (first | refine U0 rfl ?_ | refine ag0 rfl ?_ | refine a7 ?_ | refine b8 ?_ | refine d7 (by conv=>(lhs; whnf)) ?_ | refine b9 ?_ | refine d6 ?_ | refine A4 rfl rfl ?_ | refine wp_cond_true rfl ?_)
 refine p6 (cs:=[.int .i64 0]) rfl ?_
 intro w1 g3 k1 hg3 hgs3
 have hl1:=h1.lt
 have hl2:=h2.lt
 refine y6 (us:=[.int .i64 E]) rfl (by conv=>(lhs; whnf)) rfl rfl hg3 rfl (fun v hv=>by rw [List.mem_singleton.1 hv]; rfl) ?_
 intro w2 k2 hg32
 repeat (first | refine af8 rfl ?_ | refine a7 ?_ | refine d8 ?_ | refine b8 ?_ | refine d7 (by conv=>(lhs; whnf)) ?_ | refine c7 (by conv=>(lhs; whnf)) ?_ | refine b9 ?_ | refine d6 ?_ | refine wp_skip ?_ | refine wp_cond_false rfl ?_)
 refine p6 (cs:=zero4r) rfl ?_
 intro w3 g5 k3 hg5 hgs5
 have k : Ext w w3:=(Keeps.past k1 k2 hgs3).trans k3
 have hg33:=hg32.to k3
 have hl3:=hg32.lt
 repeat (first | refine b9 ?_ | refine d6 ?_)
 refine ab0 (R:=OneW g1 114 cs1 zero4r) 4 OneW.trans OneW.drew (by kernel_rfl) (by kernel_rfl) ?_
 apply C9
 ·intro x w1 k1 hd
  refine n6 rfl (hg5.wr k1.1 (by omega)) rfl ?_
  refine b9 ?_
  exact J7 OneW.refl
 apply C9
 ·intro x w1 k1 hd
  refine j4 rfl ?_
  refine b9 ?_
  exact J7 OneW.refl
 apply C9
 ·intro x w1 k1 hd
  refine f5 rfl (hg33.wr k1.1 (by omega)) rfl ?_
  refine b9 ?_
  exact J7 OneW.refl
 refine C9 (e:=EntR.of (fun v w=>Blk w g1 114 zero4r) (fun v w w' h k=>k.2.2 h)) ?_ ?_
 ·intro x w1 k1 hd
  rcases k1.2.1 (.inl (h1.to k)) with hgx | hgx
  ·refine y6 (us:=zero4r) rfl (by conv=>(lhs; whnf)) rfl rfl hgx hl ao4 ?_
   intro w12 k12 hg12
   exact b9 (O8 (OneW.wrote k12 hg12) hg12)
  ·refine y6 (us:=zero4r) rfl (by conv=>(lhs; whnf)) rfl rfl hgx rfl ao4 ?_
   intro w12 k12 hg12
   exact b9 (O8 (OneW.wrote k12 hg12) hg12)
 refine ao0 (an0 ?_)
 intro x w12 k12 hall
 have h14 : Blk w12 g1 114 zero4r:=hall.1
 refine G4 (u:=.int .i64 E) rfl rfl ((h2.to k).wr k12.1 (fun e=>hne e.symm)) (show 0 < 1 by decide) rfl ?_
 intro w5 k5 h25
 repeat (first | refine b9 ?_)
 refine ⟨[],rfl,rfl,?_,h14.wr k5 hne,h25⟩
 exact ((Keeps.of k).trans (k12.1.mono fun i hi=>hi.1)).trans (k5.mono fun i hi=>hi.2)
theorem bf7 {S : Nat → Prop} {w : World} {F : FuncId} [ci : CallI Tryz.prog F] {cap : List Value} {t : Rat} {p : Prop} {E : Int} {Y Z : Prop} (hS : Up S w)
  (h : ∀ S' w',Up S' w' → Ext w w' → (∀ k,S' k → S k) → (∀ k,k < w.heap.size → S k → S' k) → GivesE Tryz.prog F cap w' (fun v w''=>Ext w' w'' ∧ RatioV S' w'' v t p ∧ Y) fun ch w''=>ch = failE E ∧ Ext w' w'' ∧ Z) :
  Gives Tryz.prog 62 [.func (.func F) #[] cap.toArray] w fun v' w'=>Ext w w' ∧ ((∃ x,v' = .tuple #[x,.int .i64 0] ∧ RatioV S w' x t p ∧ Y) ∨ (v' = .tuple #[.agg zero4r.toArray,.int .i64 E] ∧ Z)):=by
 refine M5 Tryz.func62 rfl rfl rfl ?_
 refine an6 ?_
 repeat (first | refine b8 ?_)
 refine p6 (cs:=zero4r) rfl ?_
 intro w1 g1 k1 hg1 hgs1
 skip
 refine p6 (cs:=[.int .i64 0]) rfl ?_
 intro w2 g2 k2 hg2 hgs2
 have hgl:=hg1.lt
 have hgl2:=hg2.lt
 replace hg1:=hg1.to k2
 have k:=k1.trans k2
 have hk1:=k1.size
 have hk2:=k2.size
 have hS2 : Up (fun k=>S k ∧ k ≠ g1 ∧ k ≠ g2) w2:=fun i hi=>⟨hS i (by omega),by omega,by omega⟩
 have hc:=h (fun k=>S k ∧ k ≠ g1 ∧ k ≠ g2) w2 hS2 k (fun _ h=>h.1) (fun i hi hs=>⟨hs,by omega,by omega⟩)
 repeat (first | refine b9 ?_ | refine d6 ?_)
 refine O5 ?_
 refine an2 ?_ (fun e a ρ w hm hq=>ah7 hm hq)
 repeat (first | refine a7 ?_ | refine b8 ?_ | refine d7 (by conv=>(lhs; whnf)) ?_)
 refine af0 (first:=[]) (cap:=cap) rfl hc rfl ?_ ?_
 ·rintro v3 w3 ⟨k3,hf,hy⟩
  obtain ⟨us,hv,hul,hu1⟩:=hf.ok
  skip
  refine y6 (us:=us) rfl (by conv=>(lhs; whnf)) (by rw [hv]; rfl) hul (hg1.to k3) rfl hu1 ?_
  intro w4 k4 hg4
  have hg24:=(hg2.to k3).wr k4 (by omega)
  refine G4 (u:=.int .i64 0) rfl rfl hg24 (show 0 < 1 by decide) rfl ?_
  intro w5 k5 hg5
  have hg45:=hg4.wr k5 (by omega)
  repeat (first | refine b9 ?_ | refine d6 ?_ | refine wp_ret ?_)
  refine a41.mono ?_
  rintro u' w' ⟨rfl,rfl⟩
  refine ⟨rfl,[.agg us.toArray,.int .i64 0],⟨_,_,n8 (by conv=>(lhs; whnf)) hg45 hul,⟨_,_,J4 (by conv=>(lhs; whnf)) hg5,rfl,rfl⟩,rfl⟩,?_⟩
  refine ⟨((Keeps.past (k.trans k3) k4 (by omega)).past k5 (by omega)),.inl ⟨_,rfl,?_,hy⟩⟩
  rw [← hv]
  exact ((hf.keep (k4.mono fun i hi=>hi.2.1)).keep (k5.mono fun i hi=>hi.2.2)).mono fun i _ hi=>hi.1
 ·rintro ch w3 ⟨rfl,k3,hf⟩
  refine G8 ?_
  refine (a60 (hg1.to k3) rfl (hg2.to k3)).mono ?_
  rintro u' w' ⟨hu,k4,h1,h2⟩
  refine ⟨hu,[.agg zero4r.toArray,.int .i64 E],⟨_,_,n8 (by conv=>(lhs; whnf)) h1 rfl,⟨_,_,J4 (by conv=>(lhs; whnf)) h2,rfl,rfl⟩,rfl⟩,?_⟩
  exact ⟨Keeps.later (k.trans k3) k4 (fun i hi _=>⟨by omega,by omega⟩),.inr ⟨rfl,hf⟩⟩
end Go.Proofs.YtpheooheinfbgaaGreatDoor
end
section
set_option linter.unusedVariables false
set_option linter.unusedSimpArgs false
namespace Go.Proofs.YtpheooheinfbgaaGreatDoor
open Go Go.RowKit
abbrev rrG (v : Value) (a b : Rat) : Gh:=⟨fun S w=>v = .tuple #[tupN v 0,tupN v 1] ∧ RatV S w (tupN v 0) a ∧ RatV S w (tupN v 1) b,fun h k=>⟨h.1,h.2.1.keep k,h.2.2.keep k⟩,fun h k=>⟨h.1,h.2.1.mono k,h.2.2.mono k⟩⟩
theorem bu7 {v : Value} {a b : Rat} {S : Nat → Prop} {w : World} (h : (rrG v a b).p S w) : (pr (.ag 3 (tupN v 0)) (.ag 3 (tupN v 1))).Ok 0 ∧ (pr (.ag 3 (tupN v 0)) (.ag 3 (tupN v 1))).den (fun _=>0) = v:=⟨a69 h.2.1.ok h.2.2.ok,h.1.symm⟩
namespace T3
def over1 (l u : T3) : Rat:=if l.x ≠ 0 then u.x / l.x else if l.y ≠ 0 then u.y / l.y else u.z / l.z
def mPart (p q r : T3) : Rat:=over1 (p.cross q) (r.cross q)
def nPart (p q r : T3) : Rat:=over1 (p.cross q) (p.cross r)
end T3
theorem ae1 {l u : T3} {m n : Nat} (hl : tl l m) (hu : tl u n) (hn : ¬ l.None) : rl (T3.over1 l u) (n + m):=by
 unfold T3.over1
 split
 ·exact ak8 hu.1 hl.1 (X7 ‹_›)
 ·split
  ·exact ak8 hu.2.1 hl.2.1 (X7 ‹_›)
  ·rename_i h1 h2
   refine ak8 hu.2.2 hl.2.2 (X7 fun h3=>hn ⟨?_,?_,h3⟩)
   ·exact Classical.not_not.1 h1
   ·exact Classical.not_not.1 h2
set_option maxRecDepth 100000 in
set_option maxHeartbeats 2000000 in
theorem bt9 {S : Nat → Prop} {w : World} {vp vq vr : Value} {p q r : T3} {m : Nat} (hS : Up S w) (hp : TripV S w vp p) (hq : TripV S w vq q) (hr : TripV S w vr r) (hm : tl p m) (hn : tl q m) (hk : tl r m) (hmm : m ≤ 400) (h1 : (p.cross q).x = 0) (h2 : (p.cross q).y = 0) (h0 : (p.cross q).z ≠ 0) :
  Gives Tryz.prog 65 [vp,vq,vr] w fun v' w'=>Ext w w' ∧ (rrG v' ((r.cross q).z / (p.cross q).z) ((p.cross r).z / (p.cross q).z)).p S w':=by
 have hc:=E5 hm hn
 have hf1 : Fits ((r.cross q).z / (p.cross q).z):=T5 (ak8 (E5 hk hn).2.2 hc.2.2 (X7 h0)) (by omega)
 have hf2 : Fits ((p.cross r).z / (p.cross q).z):=T5 (ak8 (E5 hm hk).2.2 hc.2.2 (X7 h0)) (by omega)
 have hp0:=hp
 have hq0:=hq
 obtain ⟨a1,b1,c1,rfl,ha1,hb1,hc1⟩:=hp
 obtain ⟨a2,b2,c2,rfl,ha2,hb2,hc2⟩:=hq
 obtain ⟨a3,b3,c3,rfl,ha3,hb3,hc3⟩:=hr
 refine o8 (E:=env) (S0:=S) (G:=((ratG a1 p.x).and ((ratG b1 p.y).and ((ratG c1 p.z).and ((ratG a2 q.x).and ((ratG b2 q.y).and ((ratG c2 q.z).and ((ratG a3 r.x).and ((ratG b3 r.y).and (ratG c3 r.z)))))))))) (l:=[.agg [.ag 3 a1,.ag 3 b1,.ag 3 c1],.agg [.ag 3 a2,.ag 3 b2,.ag 3 c2],.agg [.ag 3 a3,.ag 3 b3,.ag 3 c3]]) Tryz.func65 rfl rfl rfl ⟨G7 ⟨ha1.okc,hb1.okc,hc1.okc,trivial⟩,G7 ⟨ha2.okc,hb2.okc,hc2.okc,trivial⟩,G7 ⟨ha3.okc,hb3.okc,hc3.okc,trivial⟩,trivial⟩ rfl ⟨ha1,hb1,hc1,ha2,hb2,hc2,ha3,hb3,hc3⟩ ?_
 refine s_1 (fun x0=>.agg [.ag 3 (cel x0 0 3),.ag 3 (cel x0 3 3),.ag 3 (cel x0 6 3)]) (fun x0=>trixG x0 ((p.cross q))) ⟨a8,hS,b7⟩ (by kernel_rfl) (by kernel_rfl) (fun _ _ _ h=>a95 h) (fun β S w hS hs hw hG=>have ha1:=hG.1; have hb1:=hG.2.1; have hc1:=hG.2.2.1; have ha2:=hG.2.2.2.1; have hb2:=hG.2.2.2.2.1; have hc2:=hG.2.2.2.2.2.1; ⟨_,(by kernel_rfl),(Y6 hS ⟨_,_,_,rfl,ha1,hb1,hc1⟩ ⟨_,_,_,rfl,ha2,hb2,hc2⟩ hm hn (by omega)).mono fun v' w' h=>⟨h.1,co9 h.2⟩⟩) ?_
 intro l
 refine A5 ⟨a8,hS,b7⟩ (by kernel_rfl) ?_
 refine s_K (.one (.tp ((p.cross q).x = 0))) ⟨a8,hS,b7⟩ (by kernel_rfl) (by kernel_rfl) (j9 rfl) rfl (fun β S w hS hs hw hG=>have hl:=hG.1; ⟨_,(by kernel_rfl),G6 hS hl.2.1⟩) ?_
 refine R9 (p:=(p.cross q).x = 0) ⟨a8,hS,b7⟩ (by kernel_rfl) (by kernel_rfl) (by kernel_rfl) (h1) ?_
 refine s_K (.one (.tp ((p.cross q).y = 0))) ⟨a8,hS,b7⟩ (by kernel_rfl) (by kernel_rfl) (j9 rfl) rfl (fun β S w hS hs hw hG=>have hl:=hG.1; ⟨_,(by kernel_rfl),G6 hS hl.2.2.1⟩) ?_
 refine R9 (p:=(p.cross q).y = 0) ⟨a8,hS,b7⟩ (by kernel_rfl) (by kernel_rfl) (by kernel_rfl) (h2) ?_
 refine s_K (.one (.tp ((p.cross q).z = 0))) ⟨a8,hS,b7⟩ (by kernel_rfl) (by kernel_rfl) (j9 rfl) rfl (fun β S w hS hs hw hG=>have hl:=hG.1; ⟨_,(by kernel_rfl),G6 hS hl.2.2.2⟩) ?_
 refine I5 (p:=(p.cross q).z = 0) ⟨a8,hS,b7⟩ (by kernel_rfl) (by kernel_rfl) (by kernel_rfl) (h0) ?_
 refine l8 24 ⟨a8,hS,b7⟩ (by kernel_rfl) (by kernel_rfl) (by kernel_rfl) ?_
 refine i1 6 (fun η=>(by kernel_rfl)) ?_
 refine h_1 (fun x0=>.one (.ag 3 x0)) (fun x0=>ratG x0 ((r.x * q.y))) (fun η=>(by kernel_rfl)) (fun _ _ _ h=>⟨h.ok,rfl⟩) (fun β η S w hS hs hw hG hd=>have hb2:=hG.2.2.2.2.2.1; have ha3:=hG.2.2.2.2.2.2.2.1; ⟨_,(by kernel_rfl),F5 hS ha3 hb2 hk.1 hn.2.1 (by omega)⟩) ?_
 refine i1 6 (fun η=>(by kernel_rfl)) ?_
 refine h_1 (fun x0=>.one (.ag 3 x0)) (fun x0=>ratG x0 ((r.y * q.x))) (fun η=>(by kernel_rfl)) (fun _ _ _ h=>⟨h.ok,rfl⟩) (fun β η S w hS hs hw hG hd=>have ha2:=hG.2.2.2.2.1; have hb3:=hG.2.2.2.2.2.2.2.2.1; ⟨_,(by kernel_rfl),F5 hS hb3 ha2 hk.2.1 hn.1 (by omega)⟩) ?_
 refine h_1 (fun x0=>.one (.ag 3 x0)) (fun x0=>ratG x0 ((-(r.y * q.x)))) (fun η=>(by kernel_rfl)) (fun _ _ _ h=>⟨h.ok,rfl⟩) (fun β η S w hS hs hw hG hd=>⟨_,(by kernel_rfl),ar3 (dep hd 13 (by kernel_rfl) (by kernel_rfl) : (ratG (η 13) ((r.y * q.x))).p S w)⟩) ?_
 refine ak5 42 3 2 (fun x0=>ratsG x0 [r.x * q.y,-(r.y * q.x)]) ⟨a8,hS,b7⟩ (fun η=>(by kernel_rfl)) (fun β η S w x0 w' hS hs hw hG hd hk hrow=>bv8 ((dep hd 6 (by kernel_rfl) (by kernel_rfl) : (ratG (η 6) ((r.x * q.y))).p S w).to hk) ((dep hd 14 (by kernel_rfl) (by kernel_rfl) : (ratG (η 14) ((-(r.y * q.x)))).p S w).to hk) (kc hrow (by kernel_rfl))) ?_
 refine h_1 (fun x0=>.one (.ag 3 x0)) (fun x0=>ratG x0 (((r.cross q).z))) (fun η=>(by kernel_rfl)) (fun _ _ _ h=>⟨h.ok,rfl⟩) (fun β η S w hS hs hw hG hd=>⟨_,(by kernel_rfl),ak9 (m:=m + m) (Z9 _ _) hS (dep hd 15 (by kernel_rfl) (by kernel_rfl) : (ratsG (η 15) [r.x * q.y,-(r.y * q.x)]).p S w) (br9 (A8 hk.1 hn.2.1) (ai3 (A8 hk.2.1 hn.1))) (by simp only [List.length]; omega)⟩) ?_
 refine i1 3 (fun η=>(by kernel_rfl)) ?_
 refine h_1 (fun x0=>pr (.ag 3 (tupAt x0)) (.lit .i64 0)) (fun x0=>tryG x0 (((r.cross q).z / (p.cross q).z)) 0) (fun η=>(by kernel_rfl)) (fun _ _ _ h=>W3 h) (fun β η S w hS hs hw hG hd=>have hl:=hG.1; ⟨_,(by kernel_rfl),au8 hf1 (az6 hS (dep hd 16 (by kernel_rfl) (by kernel_rfl) : (ratG (η 16) (((r.cross q).z))).p S w) hl.2.2.2 (o5 (E5 hk hn).2.2 (by omega)) (o5 hc.2.2 (by omega)) (X7 h0))⟩) ?_
 refine i1 2 (fun η=>(by kernel_rfl)) ?_
 refine h_1 (fun x0=>.one (.ag 3 x0)) (fun x0=>ratG x0 (((r.cross q).z / (p.cross q).z))) (fun η=>(by kernel_rfl)) (fun _ _ _ h=>⟨h.ok,rfl⟩) (fun β η S w hS hs hw hG hd=>⟨_,(by kernel_rfl),aa5 hS (dep hd 20 (by kernel_rfl) (by kernel_rfl) : (tryG (η 20) (((r.cross q).z / (p.cross q).z)) 0).p S w).2⟩) ?_
 refine l6 [true,false,false,false,false,false,false] ((trixG l ((p.cross q))).and ((ratG a1 p.x).and ((ratG b1 p.y).and ((ratG a3 r.x).and ((ratG b3 r.y).and (Gh.nil)))))) (by exact fun _ _ h=>⟨h.1,h.2.1,h.2.2.1,h.2.2.2.2.2.2.2.1,h.2.2.2.2.2.2.2.2.1,trivial⟩) (fun g η=>(ratG (η 23) (((r.cross q).z / (p.cross q).z))).and g) (by kernel_rfl) (fun g η=>(by kernel_rfl)) ?_
 intro η_1
 refine l8 24 ⟨a8,hS,b7⟩ (by kernel_rfl) (by kernel_rfl) (by kernel_rfl) ?_
 refine i1 6 (fun η=>(by kernel_rfl)) ?_
 refine h_1 (fun x0=>.one (.ag 3 x0)) (fun x0=>ratG x0 ((p.x * r.y))) (fun η=>(by kernel_rfl)) (fun _ _ _ h=>⟨h.ok,rfl⟩) (fun β η S w hS hs hw hG hd=>have ha1:=hG.2.2.1; have hb3:=hG.2.2.2.2.2.1; ⟨_,(by kernel_rfl),F5 hS ha1 hb3 hm.1 hk.2.1 (by omega)⟩) ?_
 refine i1 6 (fun η=>(by kernel_rfl)) ?_
 refine h_1 (fun x0=>.one (.ag 3 x0)) (fun x0=>ratG x0 ((p.y * r.x))) (fun η=>(by kernel_rfl)) (fun _ _ _ h=>⟨h.ok,rfl⟩) (fun β η S w hS hs hw hG hd=>have hb1:=hG.2.2.2.1; have ha3:=hG.2.2.2.2.1; ⟨_,(by kernel_rfl),F5 hS hb1 ha3 hm.2.1 hk.1 (by omega)⟩) ?_
 refine h_1 (fun x0=>.one (.ag 3 x0)) (fun x0=>ratG x0 ((-(p.y * r.x)))) (fun η=>(by kernel_rfl)) (fun _ _ _ h=>⟨h.ok,rfl⟩) (fun β η S w hS hs hw hG hd=>⟨_,(by kernel_rfl),ar3 (dep hd 13 (by kernel_rfl) (by kernel_rfl) : (ratG (η 13) ((p.y * r.x))).p S w)⟩) ?_
 refine ak5 42 3 2 (fun x0=>ratsG x0 [p.x * r.y,-(p.y * r.x)]) ⟨a8,hS,b7⟩ (fun η=>(by kernel_rfl)) (fun β η S w x0 w' hS hs hw hG hd hk hrow=>bv8 ((dep hd 6 (by kernel_rfl) (by kernel_rfl) : (ratG (η 6) ((p.x * r.y))).p S w).to hk) ((dep hd 14 (by kernel_rfl) (by kernel_rfl) : (ratG (η 14) ((-(p.y * r.x)))).p S w).to hk) (kc hrow (by kernel_rfl))) ?_
 refine h_1 (fun x0=>.one (.ag 3 x0)) (fun x0=>ratG x0 (((p.cross r).z))) (fun η=>(by kernel_rfl)) (fun _ _ _ h=>⟨h.ok,rfl⟩) (fun β η S w hS hs hw hG hd=>⟨_,(by kernel_rfl),ak9 (m:=m + m) (Z9 _ _) hS (dep hd 15 (by kernel_rfl) (by kernel_rfl) : (ratsG (η 15) [p.x * r.y,-(p.y * r.x)]).p S w) (br9 (A8 hm.1 hk.2.1) (ai3 (A8 hm.2.1 hk.1))) (by simp only [List.length]; omega)⟩) ?_
 refine i1 3 (fun η=>(by kernel_rfl)) ?_
 refine h_1 (fun x0=>pr (.ag 3 (tupAt x0)) (.lit .i64 0)) (fun x0=>tryG x0 (((p.cross r).z / (p.cross q).z)) 0) (fun η=>(by kernel_rfl)) (fun _ _ _ h=>W3 h) (fun β η S w hS hs hw hG hd=>have hl:=hG.2.1; ⟨_,(by kernel_rfl),au8 hf2 (az6 hS (dep hd 16 (by kernel_rfl) (by kernel_rfl) : (ratG (η 16) (((p.cross r).z))).p S w) hl.2.2.2 (o5 (E5 hm hk).2.2 (by omega)) (o5 hc.2.2 (by omega)) (X7 h0))⟩) ?_
 refine i1 2 (fun η=>(by kernel_rfl)) ?_
 refine h_1 (fun x0=>.one (.ag 3 x0)) (fun x0=>ratG x0 (((p.cross r).z / (p.cross q).z))) (fun η=>(by kernel_rfl)) (fun _ _ _ h=>⟨h.ok,rfl⟩) (fun β η S w hS hs hw hG hd=>⟨_,(by kernel_rfl),aa5 hS (dep hd 20 (by kernel_rfl) (by kernel_rfl) : (tryG (η 20) (((p.cross r).z / (p.cross q).z)) 0).p S w).2⟩) ?_
 refine l6 [true,false,false,false,false,false,false] ((ratG (η_1 23) (((r.cross q).z / (p.cross q).z))).and (Gh.nil)) (by exact fun _ _ h=>⟨h.1,trivial⟩) (fun g η=>(ratG (η 23) (((p.cross r).z / (p.cross q).z))).and g) (by kernel_rfl) (fun g η=>(by kernel_rfl)) ?_
 intro η_2
 refine l8 4 ⟨a8,hS,b7⟩ (by kernel_rfl) (by kernel_rfl) (by kernel_rfl) ?_
 refine i1 2 (fun η=>(by kernel_rfl)) ?_
 refine bk6 ⟨a8,hS,b7⟩ (fun η=>(by kernel_rfl)) (fun η=>(by kernel_rfl)) ?_
 refine bk6 ⟨a8,hS,b7⟩ (fun η=>(by kernel_rfl)) (fun η=>(by kernel_rfl)) ?_
 refine l6 [] ((ratG (η_2 23) (((p.cross r).z / (p.cross q).z))).and ((ratG (η_1 23) (((r.cross q).z / (p.cross q).z))).and (Gh.nil))) (by exact fun _ _ h=>⟨h.1,h.2.1,trivial⟩) (fun g η=>g) (by kernel_rfl) (fun g η=>(by kernel_rfl)) ?_
 intro η_3
 exact q8 (.tuple #[η_1 23,η_2 23]) ⟨a8,hS,b7⟩ (by kernel_rfl) rfl (by kernel_rfl) (fun β=>(by kernel_rfl)) (fun S w hs hw hG=>have n7:=hG.1; have m7:=hG.2.1; ⟨hw,rfl,m7.mono fun k _ hk=>hs k hk,n7.mono fun k _ hk=>hs k hk⟩)
def PartsC (p q : T3) : Prop:=∀ {S : Nat → Prop} {w : World} {vp vq vr : Value} {r : T3} {m : Nat},Up S w → TripV S w vp p → TripV S w vq q → TripV S w vr r → tl p m → tl q m → tl r m → m ≤ 400 →
  Gives Tryz.prog 65 [vp,vq,vr] w fun v' w'=>Ext w w' ∧ (rrG v' (T3.mPart p q r) (T3.nPart p q r)).p S w'
theorem bt2 {p q : T3} (h1 : (p.cross q).x = 0) (h2 : (p.cross q).y = 0) (h0 : (p.cross q).z ≠ 0) : PartsC p q:=by
 intro S w vp vq vr r m hS hp hq hr hm hn hk hmm
 unfold T3.mPart T3.nPart T3.over1
 simp only [h1,h2,ne_eq,not_true_eq_false,if_false]
 exact bt9 hS hp hq hr hm hn hk hmm h1 h2 h0
end Go.Proofs.YtpheooheinfbgaaGreatDoor
end
section
set_option linter.unusedVariables false
set_option linter.unusedSimpArgs false
namespace Go.Proofs.YtpheooheinfbgaaGreatDoor
open Go Go.RowKit
theorem cs7 {S : Nat → Prop} {w : World} {a b c d : Value} {p q r s : T3} (h1 : TripV S w a p) (h2 : TripV S w b q) (h3 : TripV S w c r) (h4 : TripV S w d s) : ElsV true 9 triF S w [a,b,c,d] [p,q,r,s]:=by
 refine ⟨rfl,fun x hx=>?_,fun i t x hq hx=>?_⟩
 ·simp only [List.mem_cons,List.not_mem_nil,or_false] at hx
  rcases hx with rfl | rfl | rfl | rfl
  ·exact h1.lies
  ·exact h2.lies
  ·exact h3.lies
  ·exact h4.lies
 ·match i with
  | 0=>simp at hq hx; subst hq hx; exact h1
  | 1=>simp at hq hx; subst hq hx; exact h2
  | 2=>simp at hq hx; subst hq hx; exact h3
  | 3=>simp at hq hx; subst hq hx; exact h4
  | i + 4=>simp at hq
theorem cn3 {p q r s : T3} {P : T3 → Prop} (h1 : P p) (h2 : P q) (h3 : P r) (h4 : P s) : ∀ t ∈ [p,q,r,s],P t:=by
 intro t ht
 simp only [List.mem_cons,List.not_mem_nil,or_false] at ht
 rcases ht with rfl | rfl | rfl | rfl
 ·exact h1
 ·exact h2
 ·exact h3
 ·exact h4
namespace T3
def ratioQ (p q r s : T3) : Rat:=if nPart p q s = 0 then 0 else (mPart p q s * nPart p q r) / (mPart p q r * nPart p q s)
end T3
theorem cm4 {a b : Rat} (ha : a ≠ 0) (hb : b ≠ 0) : a * b ≠ 0:=by
 intro h
 rcases Rat.mul_eq_zero.1 h with h | h
 ·exact ha h
 ·exact hb h
set_option maxRecDepth 100000 in
set_option maxHeartbeats 2000000 in
theorem bs0 {S : Nat → Prop} {w : World} {u1 u2 u3 u4 : Value} {p q r s : T3} {m : Nat} (hpt : PartsC p q) (ht : Tab w) (hS : Up S w) (o1 : u1.oneCell' = true) (o2 : u2.oneCell' = true) (o3 : u3.oneCell' = true) (o4 : u4.oneCell' = true) (h1 : (triP u1 p).p S w) (h2 : (triP u2 q).p S w) (h3 : (triP u3 r).p S w) (h4 : (triP u4 s).p S w)
  (k1 : tl p m) (k2 : tl q m) (k3 : tl r m) (k4 : tl s m) (hmm : m ≤ 100) (b1 : badE p = 0) (b2 : badE q = 0) (b3 : badE r = 0) (b4 : badE s = 0) (d1 : ¬ T3.Same p q) (d2 : ¬ T3.Same p r) (d3 : ¬ T3.Same q r) (d4 : T3.Flat p q r) (d5 : T3.Flat p q s) (hm0 : T3.mPart p q r ≠ 0) :
  Gives Tryz.prog 63 [u1,u2,u3,u4] w fun v' w'=>Ext w w' ∧ RatioV S w' v' (T3.ratioQ p q r s) (T3.nPart p q s = 0):=by
 have rm1 : rl (T3.mPart p q r) (8 * m + 2):=o5 (ae1 (E5 k1 k2) (E5 k3 k2) d1) (by omega)
 have rn1 : rl (T3.nPart p q r) (8 * m + 2):=o5 (ae1 (E5 k1 k2) (E5 k1 k3) d1) (by omega)
 have rm2 : rl (T3.mPart p q s) (8 * m + 2):=o5 (ae1 (E5 k1 k2) (E5 k4 k2) d1) (by omega)
 have rn2 : rl (T3.nPart p q s) (8 * m + 2):=o5 (ae1 (E5 k1 k2) (E5 k1 k4) d1) (by omega)
 refine o8 (E:=env) (S0:=S) (G:=((triP u1 p).and ((triP u2 q).and ((triP u3 r).and (triP u4 s))))) (l:=[.one (.val u1),.one (.val u2),.one (.val u3),.one (.val u4)]) Tryz.func63 rfl rfl rfl ⟨o1,o2,o3,o4,trivial⟩ rfl ⟨h1,h2,h3,h4⟩ ?_
 refine q7 ⟨a8,hS,b7⟩ (by kernel_rfl) (E0 u1 44 9 true (fun x0=>.one (.ag 9 x0)) (fun x0=>triG x0 (p)) (by kernel_rfl) ⟨a8,hS,b7⟩ (fun _ _ _ h=>⟨h.ok,rfl⟩) (fun β S w hM hw hG=>have h1:=hG.1; let ⟨y,e1,e2,e3⟩:=h1; ⟨S,y,e1,e2,e3⟩) ?_)
 intro y1
 refine q7 ⟨a8,hS,b7⟩ (by kernel_rfl) (E0 u2 44 9 true (fun x0=>.one (.ag 9 x0)) (fun x0=>triG x0 (q)) (by kernel_rfl) ⟨a8,hS,b7⟩ (fun _ _ _ h=>⟨h.ok,rfl⟩) (fun β S w hM hw hG=>have h2:=hG.2.2.1; let ⟨y,e1,e2,e3⟩:=h2; ⟨S,y,e1,e2,e3⟩) ?_)
 intro y2
 refine q7 ⟨a8,hS,b7⟩ (by kernel_rfl) (E0 u3 44 9 true (fun x0=>.one (.ag 9 x0)) (fun x0=>triG x0 (r)) (by kernel_rfl) ⟨a8,hS,b7⟩ (fun _ _ _ h=>⟨h.ok,rfl⟩) (fun β S w hM hw hG=>have h3:=hG.2.2.2.2.1; let ⟨y,e1,e2,e3⟩:=h3; ⟨S,y,e1,e2,e3⟩) ?_)
 intro y3
 refine q7 ⟨a8,hS,b7⟩ (by kernel_rfl) (E0 u4 44 9 true (fun x0=>.one (.ag 9 x0)) (fun x0=>triG x0 (s)) (by kernel_rfl) ⟨a8,hS,b7⟩ (fun _ _ _ h=>⟨h.ok,rfl⟩) (fun β S w hM hw hG=>have h4:=hG.2.2.2.2.2.2; let ⟨y,e1,e2,e3⟩:=h4; ⟨S,y,e1,e2,e3⟩) ?_)
 intro y4
 refine am8 (.und) ⟨a8,hS,b7⟩ (by kernel_rfl) (by kernel_rfl) (j9 rfl) rfl (fun β S w hS hM hs hw hG=>have x4:=hG.1; have x3:=hG.2.1; have x2:=hG.2.2.1; have x1:=hG.2.2.2.1; ⟨_,(by kernel_rfl),R0 (ht.to hw) (B8 hS) (Q3 (l:=[p,q,r,s]) 1 44 [y1,y2,y3,y4] hM (by kernel_rfl) (cs7 x1 x2 x3 x4) (show 4 ≤ maxLen by decide)) (cn3 (H4 k1 (by omega)) (H4 k2 (by omega)) (H4 k3 (by omega)) (H4 k4 (by omega))) (cn3 b1 b2 b3 b4)⟩) ?_
 refine q7 ⟨a8,hS,b7⟩ (by kernel_rfl) (E0 u1 44 9 true (fun x0=>.one (.ag 9 x0)) (fun x0=>triG x0 (p)) (by kernel_rfl) ⟨a8,hS,b7⟩ (fun _ _ _ h=>⟨h.ok,rfl⟩) (fun β S w hM hw hG=>have h1:=hG.2.2.2.2.1; let ⟨y,e1,e2,e3⟩:=h1; ⟨S,y,e1,e2,e3⟩) ?_)
 intro t1
 refine q7 ⟨a8,hS,b7⟩ (by kernel_rfl) (E0 u2 44 9 true (fun x0=>.one (.ag 9 x0)) (fun x0=>triG x0 (q)) (by kernel_rfl) ⟨a8,hS,b7⟩ (fun _ _ _ h=>⟨h.ok,rfl⟩) (fun β S w hM hw hG=>have h2:=hG.2.2.2.2.2.2.1; let ⟨y,e1,e2,e3⟩:=h2; ⟨S,y,e1,e2,e3⟩) ?_)
 intro t2
 refine q7 ⟨a8,hS,b7⟩ (by kernel_rfl) (E0 u3 44 9 true (fun x0=>.one (.ag 9 x0)) (fun x0=>triG x0 (r)) (by kernel_rfl) ⟨a8,hS,b7⟩ (fun _ _ _ h=>⟨h.ok,rfl⟩) (fun β S w hM hw hG=>have h3:=hG.2.2.2.2.2.2.2.2.1; let ⟨y,e1,e2,e3⟩:=h3; ⟨S,y,e1,e2,e3⟩) ?_)
 intro t3
 refine s_K (.und) ⟨a8,hS,b7⟩ (by kernel_rfl) (by kernel_rfl) (j9 rfl) rfl (fun β S w hS hs hw hG=>have z3:=hG.1; have z2:=hG.2.1; have z1:=hG.2.2.1; ⟨_,(by kernel_rfl),bx4 hS z1 z2 z3 k1 k2 k3 (by omega) d1 d2 d3 d4⟩) ?_
 refine q7 ⟨a8,hS,b7⟩ (by kernel_rfl) (E0 u1 44 9 true (fun x0=>.one (.ag 9 x0)) (fun x0=>triG x0 (p)) (by kernel_rfl) ⟨a8,hS,b7⟩ (fun _ _ _ h=>⟨h.ok,rfl⟩) (fun β S w hM hw hG=>have h1:=hG.2.2.2.2.2.2.2.1; let ⟨y,e1,e2,e3⟩:=h1; ⟨S,y,e1,e2,e3⟩) ?_)
 intro t4
 refine q7 ⟨a8,hS,b7⟩ (by kernel_rfl) (E0 u2 44 9 true (fun x0=>.one (.ag 9 x0)) (fun x0=>triG x0 (q)) (by kernel_rfl) ⟨a8,hS,b7⟩ (fun _ _ _ h=>⟨h.ok,rfl⟩) (fun β S w hM hw hG=>have h2:=hG.2.2.2.2.2.2.2.2.2.1; let ⟨y,e1,e2,e3⟩:=h2; ⟨S,y,e1,e2,e3⟩) ?_)
 intro t5
 refine q7 ⟨a8,hS,b7⟩ (by kernel_rfl) (E0 u4 44 9 true (fun x0=>.one (.ag 9 x0)) (fun x0=>triG x0 (s)) (by kernel_rfl) ⟨a8,hS,b7⟩ (fun _ _ _ h=>⟨h.ok,rfl⟩) (fun β S w hM hw hG=>have h4:=hG.2.2.2.2.2.2.2.2.2.2.2.2; let ⟨y,e1,e2,e3⟩:=h4; ⟨S,y,e1,e2,e3⟩) ?_)
 intro t6
 refine s_K (.one (.tp (T3.Flat p q s))) ⟨a8,hS,b7⟩ (by kernel_rfl) (by kernel_rfl) (j9 rfl) rfl (fun β S w hS hs hw hG=>have z6:=hG.1; have z5:=hG.2.1; have z4:=hG.2.2.1; ⟨_,(by kernel_rfl),an8 hS z4 z5 z6 k1 k2 k4 (by omega)⟩) ?_
 refine I5 (p:=¬ T3.Flat p q s) ⟨a8,hS,b7⟩ (by kernel_rfl) (by kernel_rfl) (by kernel_rfl) (fun h=>h d5) ?_
 refine q7 ⟨a8,hS,b7⟩ (by kernel_rfl) (E0 u1 44 9 true (fun x0=>.one (.ag 9 x0)) (fun x0=>triG x0 (p)) (by kernel_rfl) ⟨a8,hS,b7⟩ (fun _ _ _ h=>⟨h.ok,rfl⟩) (fun β S w hM hw hG=>have h1:=hG.2.2.2.2.2.2.2.2.2.2.1; let ⟨y,e1,e2,e3⟩:=h1; ⟨S,y,e1,e2,e3⟩) ?_)
 intro t7
 refine q7 ⟨a8,hS,b7⟩ (by kernel_rfl) (E0 u2 44 9 true (fun x0=>.one (.ag 9 x0)) (fun x0=>triG x0 (q)) (by kernel_rfl) ⟨a8,hS,b7⟩ (fun _ _ _ h=>⟨h.ok,rfl⟩) (fun β S w hM hw hG=>have h2:=hG.2.2.2.2.2.2.2.2.2.2.2.2.1; let ⟨y,e1,e2,e3⟩:=h2; ⟨S,y,e1,e2,e3⟩) ?_)
 intro t8
 refine q7 ⟨a8,hS,b7⟩ (by kernel_rfl) (E0 u3 44 9 true (fun x0=>.one (.ag 9 x0)) (fun x0=>triG x0 (r)) (by kernel_rfl) ⟨a8,hS,b7⟩ (fun _ _ _ h=>⟨h.ok,rfl⟩) (fun β S w hM hw hG=>have h3:=hG.2.2.2.2.2.2.2.2.2.2.2.2.2.2.1; let ⟨y,e1,e2,e3⟩:=h3; ⟨S,y,e1,e2,e3⟩) ?_)
 intro t9
 refine s_1 (fun x0=>pr (.ag 3 (tupN x0 0)) (.ag 3 (tupN x0 1))) (fun x0=>rrG x0 ((T3.mPart p q r)) ((T3.nPart p q r))) ⟨a8,hS,b7⟩ (by kernel_rfl) (by kernel_rfl) (fun _ _ _ h=>bu7 h) (fun β S w hS hs hw hG=>have z9:=hG.1; have z8:=hG.2.1; have z7:=hG.2.2.1; ⟨_,(by kernel_rfl),hpt hS z7 z8 z9 k1 k2 k3 (by omega)⟩) ?_
 intro a1
 refine q7 ⟨a8,hS,b7⟩ (by kernel_rfl) (E0 u1 44 9 true (fun x0=>.one (.ag 9 x0)) (fun x0=>triG x0 (p)) (by kernel_rfl) ⟨a8,hS,b7⟩ (fun _ _ _ h=>⟨h.ok,rfl⟩) (fun β S w hM hw hG=>have h1:=hG.2.2.2.2.2.2.2.2.2.2.2.2.2.2.1; let ⟨y,e1,e2,e3⟩:=h1; ⟨S,y,e1,e2,e3⟩) ?_)
 intro ta
 refine q7 ⟨a8,hS,b7⟩ (by kernel_rfl) (E0 u2 44 9 true (fun x0=>.one (.ag 9 x0)) (fun x0=>triG x0 (q)) (by kernel_rfl) ⟨a8,hS,b7⟩ (fun _ _ _ h=>⟨h.ok,rfl⟩) (fun β S w hM hw hG=>have h2:=hG.2.2.2.2.2.2.2.2.2.2.2.2.2.2.2.2.1; let ⟨y,e1,e2,e3⟩:=h2; ⟨S,y,e1,e2,e3⟩) ?_)
 intro tb
 refine q7 ⟨a8,hS,b7⟩ (by kernel_rfl) (E0 u4 44 9 true (fun x0=>.one (.ag 9 x0)) (fun x0=>triG x0 (s)) (by kernel_rfl) ⟨a8,hS,b7⟩ (fun _ _ _ h=>⟨h.ok,rfl⟩) (fun β S w hM hw hG=>have h4:=hG.2.2.2.2.2.2.2.2.2.2.2.2.2.2.2.2.2.2.2; let ⟨y,e1,e2,e3⟩:=h4; ⟨S,y,e1,e2,e3⟩) ?_)
 intro tc
 refine s_1 (fun x0=>pr (.ag 3 (tupN x0 0)) (.ag 3 (tupN x0 1))) (fun x0=>rrG x0 ((T3.mPart p q s)) ((T3.nPart p q s))) ⟨a8,hS,b7⟩ (by kernel_rfl) (by kernel_rfl) (fun _ _ _ h=>bu7 h) (fun β S w hS hs hw hG=>have zc:=hG.1; have zb:=hG.2.1; have za:=hG.2.2.1; ⟨_,(by kernel_rfl),hpt hS za zb zc k1 k2 k4 (by omega)⟩) ?_
 intro a2
 refine s_K (.one (.tp (T3.nPart p q s = 0))) ⟨a8,hS,b7⟩ (by kernel_rfl) (by kernel_rfl) (j9 rfl) rfl (fun β S w hS hs hw hG=>have hab:=hG.1; ⟨_,(by kernel_rfl),G6 hS hab.2.2⟩) ?_
 refine X3 (p:=T3.nPart p q s = 0) ⟨a8,hS,b7⟩ (by kernel_rfl) (by kernel_rfl) (by kernel_rfl) (fun hb=>?_) (fun hb=>?_)
 ·exact q8 (.agg #[.bool false,.slice none 0 0,.slice none 0 0,.bool true]) ⟨a8,hS,b7⟩ (by kernel_rfl) rfl (by kernel_rfl) (fun β=>(by kernel_rfl)) (fun S w hs hw hG=>⟨hw,.agg #[.bool false,.slice none 0 0,.slice none 0 0],by rw [← l9 hb]; rfl,by unfold T3.ratioQ; rw [if_pos hb]; exact R1⟩)
 ·have hmb:=cm4 hm0 hb
  have hf : Fits ((T3.mPart p q s * T3.nPart p q r) / (T3.mPart p q r * T3.nPart p q s)):=T5 (ak8 (A8 rm2 rn1) (A8 rm1 rn2) (X7 hmb)) (by omega)
  refine l8 10 ⟨a8,hS,b7⟩ (by kernel_rfl) (by kernel_rfl) (by kernel_rfl) ?_
  refine i1 2 (fun η=>(by kernel_rfl)) ?_
  refine h_1 (fun x0=>.one (.ag 3 x0)) (fun x0=>ratG x0 ((T3.mPart p q s * T3.nPart p q r))) (fun η=>(by kernel_rfl)) (fun _ _ _ h=>⟨h.ok,rfl⟩) (fun β η S w hS hs hw hG hd=>have hab:=hG.1; have hmn:=hG.2.2.2.2.1; ⟨_,(by kernel_rfl),F5 hS hab.2.1 hmn.2.2 rm2 rn1 (by omega)⟩) ?_
  refine i1 2 (fun η=>(by kernel_rfl)) ?_
  refine h_1 (fun x0=>.one (.ag 3 x0)) (fun x0=>ratG x0 ((T3.mPart p q r * T3.nPart p q s))) (fun η=>(by kernel_rfl)) (fun _ _ _ h=>⟨h.ok,rfl⟩) (fun β η S w hS hs hw hG hd=>have hab:=hG.1; have hmn:=hG.2.2.2.2.1; ⟨_,(by kernel_rfl),F5 hS hmn.2.1 hab.2.2 rm1 rn2 (by omega)⟩) ?_
  refine h_1 (fun x0=>pr (.ag 3 (tupAt x0)) (.lit .i64 0)) (fun x0=>tryG x0 (((T3.mPart p q s * T3.nPart p q r) / (T3.mPart p q r * T3.nPart p q s))) 0) (fun η=>(by kernel_rfl)) (fun _ _ _ h=>W3 h) (fun β η S w hS hs hw hG hd=>⟨_,(by kernel_rfl),au8 hf (az6 hS (dep hd 2 (by kernel_rfl) (by kernel_rfl) : (ratG (η 2) ((T3.mPart p q s * T3.nPart p q r))).p S w) (dep hd 5 (by kernel_rfl) (by kernel_rfl) : (ratG (η 5) ((T3.mPart p q r * T3.nPart p q s))).p S w) (o5 (A8 rm2 rn1) (by omega)) (o5 (A8 rm1 rn2) (by omega)) (X7 hmb))⟩) ?_
  refine i1 2 (fun η=>(by kernel_rfl)) ?_
  refine h_1 (fun x0=>.one (.ag 3 x0)) (fun x0=>ratG x0 (((T3.mPart p q s * T3.nPart p q r) / (T3.mPart p q r * T3.nPart p q s)))) (fun η=>(by kernel_rfl)) (fun _ _ _ h=>⟨h.ok,rfl⟩) (fun β η S w hS hs hw hG hd=>⟨_,(by kernel_rfl),aa5 hS (dep hd 6 (by kernel_rfl) (by kernel_rfl) : (tryG (η 6) (((T3.mPart p q s * T3.nPart p q r) / (T3.mPart p q r * T3.nPart p q s))) 0).p S w).2⟩) ?_
  refine l6 [true,false,false,false] (Gh.nil) (by exact fun _ _ h=>trivial) (fun g η=>(ratG (η 9) (((T3.mPart p q s * T3.nPart p q r) / (T3.mPart p q r * T3.nPart p q s)))).and g) (by kernel_rfl) (fun g η=>(by kernel_rfl)) ?_
  intro η_1
  exact q8 ((SV.agg [.ag 3 (η_1 9),.bb false]).den (fun _=>0)) ⟨a8,hS,b7⟩ (by kernel_rfl) rfl (by kernel_rfl) (fun β=>(by kernel_rfl)) (fun S w hs hw hG=>have g4:=hG.1; ⟨hw,η_1 9,by rw [← j6 hb]; rfl,by unfold T3.ratioQ; rw [if_neg hb]; exact g4.mono fun k _ hk=>hs k hk⟩)
end Go.Proofs.YtpheooheinfbgaaGreatDoor
end
section
set_option linter.unusedVariables false
set_option linter.unusedSimpArgs false
namespace Go.Proofs.YtpheooheinfbgaaGreatDoor
open Go Go.RowKit
theorem TripV.to {S : Nat → Prop} {w w' : World} {v : Value} {t : T3} (h : TripV S w v t) (k : Ext w w') : TripV S w' v t:=h.keep (.of k)
theorem ah5 {S : Nat → Prop} {w : World} {g : Nat} {v : Value} {t : T3} {T : TypeId} {us : List Value} (hS : S g) (hb : Blk w g T us) (hv : TripV S w v t) (e : v = .agg us.toArray) : (triP (.pointer (some ⟨g,0,none⟩)) t).p S w:=by
 refine ⟨v,hv.lies,⟨g,0,us.toArray,T,(0,0),rfl,hS,hb,by rw [e]; simp [Value.cells],?_⟩,hv⟩
 rw [e]
 simp [Value.cells]
set_option maxRecDepth 100000 in
set_option maxHeartbeats 1000000 in
theorem b39 {S : Nat → Prop} {w : World} {vp vq vr vs : Value} {p q r s : T3} {m : Nat} (hpt : PartsC p q) (ht : Tab w) (hS : Up S w) (hp : TripV S w vp p) (hq : TripV S w vq q) (hr : TripV S w vr r) (hs : TripV S w vs s)
  (k1 : tl p m) (k2 : tl q m) (k3 : tl r m) (k4 : tl s m) (hmm : m ≤ 100) (b1 : badE p = 0) (b2 : badE q = 0) (b3 : badE r = 0) (b4 : badE s = 0) (d1 : ¬ T3.Same p q) (d2 : ¬ T3.Same p r) (d3 : ¬ T3.Same q r) (d4 : T3.Flat p q r) (d5 : T3.Flat p q s) (hm0 : T3.mPart p q r ≠ 0) :
  Gives Tryz.prog 35 [vp,vq,vr,vs] w fun v' w'=>Ext w w' ∧ ∃ x,v' = .tuple #[x,.bool (tst (T3.nPart p q s = 0)),.int .i64 0] ∧ RatV S w' x (T3.ratioQ p q r s):=by
 obtain ⟨us1,e1,l1,n1⟩:=hp.ok
 obtain ⟨us2,e2,l2,n2⟩:=hq.ok
 obtain ⟨us3,e3,l3,n3⟩:=hr.ok
 obtain ⟨us4,e4,l4,n4⟩:=hs.ok
 refine j7 Tryz.func35 rfl rfl rfl ?_
 repeat (first | refine a7 ?_ | refine b8 ?_)
 refine x9 (v:=vp) (cs:=us1) rfl (by rw [e1]; rfl) ?_
 intro w1 g1 x1 hg1 hgs1
 have y1:=hg1.lt
 refine x9 (v:=vq) (cs:=us2) rfl (by rw [e2]; rfl) ?_
 intro w2 g2 x2 hg2 hgs2
 have y2:=hg2.lt
 refine x9 (v:=vr) (cs:=us3) rfl (by rw [e3]; rfl) ?_
 intro w3 g3 x3 hg3 hgs3
 have y3:=hg3.lt
 refine x9 (v:=vs) (cs:=us4) rfl (by rw [e4]; rfl) ?_
 intro w4 g4 x4 hg4 hgs4
 have y4:=hg4.lt
 refine p6 (cs:=[.bool false,.slice none 0 0,.slice none 0 0]) rfl ?_
 intro w5 g5 x5 hg5 hgs5
 have z1:=x1.size
 have z2:=x2.size
 have z3:=x3.size
 have z4:=x4.size
 have z5:=x5.size
 have K:=(((x1.trans x2).trans x3).trans x4).trans x5
 have hl5:=hg5.lt
 replace hg1:=(((hg1.to x2).to x3).to x4).to x5
 replace hg2:=((hg2.to x3).to x4).to x5
 replace hg3:=(hg3.to x4).to x5
 replace hg4:=hg4.to x5
 have hS2 : Up (fun k=>S k ∧ k ≠ g5) w5:=fun i hi=>⟨hS i (by omega),by omega⟩
 have up : ∀ {v : Value} {t : T3},TripV S w v t → TripV (fun k=>S k ∧ k ≠ g5) w5 v t:=fun h=>(h.mono (S':=fun k=>S k ∧ k ≠ g5) fun i hi hs=>⟨hs,by omega⟩).to K
 have t1:=ah5 (S:=fun k=>S k ∧ k ≠ g5) ⟨hS g1 hgs1,by omega⟩ hg1 (up hp) e1
 have t2:=ah5 (S:=fun k=>S k ∧ k ≠ g5) ⟨hS g2 (by omega),by omega⟩ hg2 (up hq) e2
 have t3:=ah5 (S:=fun k=>S k ∧ k ≠ g5) ⟨hS g3 (by omega),by omega⟩ hg3 (up hr) e3
 have t4:=ah5 (S:=fun k=>S k ∧ k ≠ g5) ⟨hS g4 (by omega),by omega⟩ hg4 (up hs) e4
 have key : ∀ S' w',Up S' w' → Ext w5 w' → (∀ k,S' k → S k ∧ k ≠ g5) → (∀ k,k < w5.heap.size → S k ∧ k ≠ g5 → S' k) → GivesE Tryz.prog 63 [.pointer (some ⟨g1,0,none⟩),.pointer (some ⟨g2,0,none⟩),.pointer (some ⟨g3,0,none⟩),.pointer (some ⟨g4,0,none⟩)] w' (fun v w''=>Ext w' w'' ∧ RatioV S' w'' v (T3.ratioQ p q r s) (T3.nPart p q s = 0) ∧ True) fun ch w''=>ch = failE 0 ∧ Ext w' w'' ∧ False:=by
  intro S' w' hS' k' _ hs'
  have f : ∀ {u : Value} {t : T3},(triP u t).p (fun k=>S k ∧ k ≠ g5) w5 → (triP u t).p S' w':=fun {u t} h=>(triP u t).keep ((triP u t).mono h hs') (.of k')
  exact Gives.toE ((bs0 hpt (ht.to (K.trans k')) hS' rfl rfl rfl rfl (f t1) (f t2) (f t3) (f t4) k1 k2 k3 k4 hmm b1 b2 b3 b4 d1 d2 d3 d4 d5 hm0).mono fun v w'' h=>⟨h.1,h.2,trivial⟩)
 repeat (first | refine aa0 ?_ | refine a7 ?_ | refine b8 ?_ | refine c7 (by conv=>(lhs; whnf)) ?_ | refine b9 ?_)
 refine i7 (bf7 (F:=63) (cap:=[.pointer (some ⟨g1,0,none⟩),.pointer (some ⟨g2,0,none⟩),.pointer (some ⟨g3,0,none⟩),.pointer (some ⟨g4,0,none⟩)]) hS2 key) rfl ?_
 rintro v6 w6 ⟨x6,hh⟩
 obtain ⟨x,rfl,hx,_⟩:=hh.resolve_right fun h=>h.2
 obtain ⟨y,rfl,hy⟩:=hx
 obtain ⟨ys,ey,ly,ny⟩:=hy.ok
 subst ey
 obtain ⟨c1,c2,c3,rfl⟩ : ∃ c1 c2 c3,ys = [c1,c2,c3]:=by
  match ys,ly with
  | [c1,c2,c3],_=>exact ⟨c1,c2,c3,rfl⟩
 replace hg5:=hg5.to x6
 have z6:=x6.size
 repeat (first | refine d7 (by conv=>(lhs; whnf)) ?_ | refine A4 rfl rfl ?_)
 refine p6 (cs:=zero4r) rfl ?_
 intro w7 g7 x7 hg7 hgs7
 replace hg5:=hg5.to x7
 refine y6 (us:=[c1,c2,c3,.bool (tst (T3.nPart p q s = 0))]) rfl (by conv=>(lhs; whnf)) rfl rfl hg7 rfl (fun v hv=>by
  simp only [List.mem_cons,List.not_mem_nil,or_false] at hv
  rcases hv with rfl | rfl | rfl | rfl
  ·exact ny _ (by simp)
  ·exact ny _ (by simp)
  ·exact ny _ (by simp)
  ·rfl) ?_
 intro w8 x8 hg8
 have hne : g7 ≠ g5:=by omega
 replace hg5:=hg5.wr x8 (fun e=>hne e.symm)
 have hy6:=hy.mono (S':=fun k=>(S k ∧ k ≠ g5) ∧ k < w6.heap.size) (fun i hi h=>⟨h,hi⟩)
 have hy8 : RatV (fun k=>(S k ∧ k ≠ g5) ∧ k < w6.heap.size) w8 (.agg #[c1,c2,c3]) (T3.ratioQ p q r s):=(hy6.keep (.of x7)).keep (x8.mono fun i hi=>by have:=hi.2; omega)
 repeat (first | refine a7 ?_ | refine c7 (by conv=>(lhs; whnf)) ?_ | refine b9 ?_)
 refine ab0 (R:=OneW g5 42 [.bool false,.slice none 0 0,.slice none 0 0] [c1,c2,c3]) 7 OneW.trans OneW.drew (by kernel_rfl) (by kernel_rfl) ?_
 apply C9
 ·intro x w1 k1 hd
  refine j4 rfl ?_
  refine b9 ?_
  exact J7 OneW.refl
 apply C9
 ·intro x w1 k1 hd
  refine o7 rfl (hg8.wr k1.1 hne) rfl rfl ?_
  refine b9 ?_
  exact J7 OneW.refl
 apply C9
 ·intro x w1 k1 hd
  refine j4 rfl ?_
  refine b9 ?_
  exact J7 OneW.refl
 apply C9
 ·intro x w1 k1 hd
  refine f5 rfl (hg8.wr k1.1 hne) rfl ?_
  refine b9 ?_
  exact J7 OneW.refl
 apply C9
 ·intro x w1 k1 hd
  refine d7 rfl ?_
  refine b9 ?_
  exact J7 OneW.refl
 refine C9 (e:=EntR.of (fun v w=>Blk w g5 42 [c1,c2,c3]) (fun v w w' h k=>k.2.2 h)) ?_ ?_
 ·intro x w1 k1 hd
  rcases k1.2.1 (.inl hg5) with hgx | hgx
  ·refine y6 (us:=[c1,c2,c3]) rfl (by conv=>(lhs; whnf)) rfl rfl hgx rfl ny ?_
   intro w12 k12 hg12
   exact b9 (O8 (OneW.wrote k12 hg12) hg12)
  ·refine y6 (us:=[c1,c2,c3]) rfl (by conv=>(lhs; whnf)) rfl rfl hgx rfl ny ?_
   intro w12 k12 hg12
   exact b9 (O8 (OneW.wrote k12 hg12) hg12)
 apply C9
 ·intro x w1 k1 hd
  refine c7 rfl ?_
  refine b9 ?_
  exact J7 OneW.refl
 refine ao0 (an0 ?_)
 intro x w12 k12 hall
 have h14:=hall.2.1
 repeat (first | refine c7 (by conv=>(lhs; whnf)) ?_ | refine b9 ?_ | refine d6 ?_ | refine wp_ret ?_)
 refine bv1 rfl (n8 (by conv=>(lhs; whnf)) h14 rfl) (A2 (by conv=>(lhs; whnf))) (A2 (by conv=>(lhs; whnf))) ⟨?_,_,rfl,?_⟩
 ·exact ((Keeps.past ((K.trans x6).trans x7) x8 (by omega)).past k12.1 (by omega))
 ·exact (hy8.keep (k12.1.mono fun i hi=>hi.1.2)).mono fun i _ hi=>hi.1.1
end Go.Proofs.YtpheooheinfbgaaGreatDoor
end
section
set_option linter.unusedVariables false
set_option linter.unusedSimpArgs false
namespace Go.Proofs.YtpheooheinfbgaaGreatDoor
open Go Go.RowKit
abbrev ttripG (v : Value) (t : T3) : Gh:=⟨fun S w=>v = .tuple #[tupN v 0,.int .i64 0] ∧ (trixG (tupN v 0) t).p S w,fun h k=>⟨h.1,(trixG _ t).keep h.2 k⟩,fun h k=>⟨h.1,(trixG _ t).mono h.2 k⟩⟩
theorem bm2 {v : Value} {t : T3} {S : Nat → Prop} {w : World} (h : (ttripG v t).p S w) : (SV.tup [(true,[.ag 3 (cel (tupN v 0) 0 3),.ag 3 (cel (tupN v 0) 3 3),.ag 3 (cel (tupN v 0) 6 3)]),(false,[.lit .i64 0])]).Ok 0 ∧ (SV.tup [(true,[.ag 3 (cel (tupN v 0) 0 3),.ag 3 (cel (tupN v 0) 3 3),.ag 3 (cel (tupN v 0) 6 3)]),(false,[.lit .i64 0])]).den (fun _=>0) = v:=by
 refine ⟨fun p hp c hc=>?_,?_⟩
 ·simp only [List.mem_cons,List.not_mem_nil,or_false] at hp
  rcases hp with rfl | rfl
  ·exact (a95 h.2).1 c hc
  ·simp only [List.mem_cons,List.not_mem_nil,or_false] at hc
   subst hc
   trivial
 ·conv=>rhs; rw [h.1,h.2.1]
  rfl
theorem b19 {v : Value} {t : T3} {S : Nat → Prop} {w : World} (h : (ttryG v t 0).p S w) : (ttripG v t).p S w:=⟨h.1,co9 h.2⟩
abbrev rt3G (v : Value) (q : Rat) : Gh:=⟨fun S w=>v = .tuple #[tupN v 0,.bool false,.int .i64 0] ∧ RatV S w (tupN v 0) q,fun h k=>⟨h.1,h.2.keep k⟩,fun h k=>⟨h.1,h.2.mono k⟩⟩
theorem b88 {v : Value} {q : Rat} {S : Nat → Prop} {w : World} (h : (rt3G v q).p S w) : (SV.tup [(true,[.ag 3 (tupN v 0)]),(false,[.bb false]),(false,[.lit .i64 0])]).Ok 0 ∧ (SV.tup [(true,[.ag 3 (tupN v 0)]),(false,[.bb false]),(false,[.lit .i64 0])]).den (fun _=>0) = v:=by
 refine ⟨fun p hp c hc=>?_,?_⟩
 ·simp only [List.mem_cons,List.not_mem_nil,or_false] at hp
  rcases hp with rfl | rfl | rfl <;> (simp only [List.mem_cons,List.not_mem_nil,or_false] at hc; subst hc)
  ·exact h.2.okc
  ·trivial
  ·trivial
 ·conv=>rhs; rw [h.1]
  obtain ⟨m,b,hv,_⟩:=h.2
  rw [hv]
  rfl
theorem br0 {t : T3} : NoneL t.list ↔ t.None:=by
 unfold NoneL T3.None T3.list
 simp only [List.mem_cons,List.not_mem_nil,or_false,not_exists,not_and,Classical.not_not,forall_eq_or_imp,forall_eq]
theorem a82 {q : Rat} {k : Nat} (h : rl q k) (hk : k ≤ 4) : ¬ LongR q:=by
 have h2:=E9 q.num.natAbs (show dl q.num.natAbs ≤ k from h.1)
 have h3:=E9 q.den (show dl q.den ≤ k from h.2)
 unfold LongR
 omega
theorem Q5 {t : T3} {k : Nat} (h : tl t k) (hk : k ≤ 4) (hn : ¬ t.None) : badE t = 0:=by
 unfold badE
 rw [if_neg (fun e=>hn (br0.1 e)),if_neg]
 rintro ⟨x,hx,hl⟩
 exact a82 (T8 h x hx) hk hl
def P1 : T3:=⟨1,0,0⟩
def P2 : T3:=⟨0,2,0⟩
def P3 : T3:=⟨1,1,0⟩
def P4 : T3:=⟨1,2,0⟩
theorem D9 {q : Rat} (h1 : q.num.natAbs < 1000000000) (h2 : q.den < 1000000000) : rl q 1:=⟨F8 (k:=1) (by omega),F8 (k:=1) (by omega)⟩
theorem a49 : tl P1 1:=⟨D9 (by decide) (by decide),D9 (by decide) (by decide),D9 (by decide) (by decide)⟩
theorem bk9 : tl P2 1:=⟨D9 (by decide) (by decide),D9 (by decide) (by decide),D9 (by decide) (by decide)⟩
theorem bv5 : tl P3 1:=⟨D9 (by decide) (by decide),D9 (by decide) (by decide),D9 (by decide) (by decide)⟩
theorem b30 : tl P4 1:=⟨D9 (by decide) (by decide),D9 (by decide) (by decide),D9 (by decide) (by decide)⟩
theorem be7 : badE P1 = 0:=Q5 a49 (by decide) (by decide +kernel)
theorem b61 : badE P2 = 0:=Q5 bk9 (by decide) (by decide +kernel)
theorem cg3 : badE P3 = 0:=Q5 bv5 (by decide) (by decide +kernel)
theorem cm1 : badE P4 = 0:=Q5 b30 (by decide) (by decide +kernel)
theorem bj0 : ¬ T3.Same P1 P2:=by decide +kernel
theorem b84 : ¬ T3.Same P1 P3:=by decide +kernel
theorem ca2 : ¬ T3.Same P2 P3:=by decide +kernel
theorem b07 : T3.Flat P1 P2 P3:=by decide +kernel
theorem by7 : T3.Flat P1 P2 P4:=by decide +kernel
theorem bi7 : (P1.cross P2).normal = ⟨0,0,1⟩:=by
 have h : (P1.cross P2).normal.x = 0 ∧ (P1.cross P2).normal.y = 0 ∧ (P1.cross P2).normal.z = 1:=by decide +kernel
 exact T3.ext h.1 h.2.1 h.2.2
def L1 : T3:=⟨0,0,1⟩
theorem bk3 : tl L1 1:=⟨D9 (by decide) (by decide),D9 (by decide) (by decide),D9 (by decide) (by decide)⟩
theorem ch6 : badE L1 = 0:=Q5 bk3 (by decide) (by decide +kernel)
theorem cg5 : bad2 P1 P2 = 0:=by unfold bad2; rw [if_pos be7,b61]
theorem a62 : joinE P1 P2 = 0:=by unfold joinE; rw [if_pos cg5,if_neg bj0]
theorem bv3 : joinT P1 P2 = L1:=by unfold joinT; rw [if_pos a62,bi7]; rfl
theorem b66 : bad2 P1 L1 = 0:=by unfold bad2; rw [if_pos be7,ch6]
theorem co7 : OnP P1 L1:=⟨b66,by decide +kernel⟩
theorem mP : T3.mPart P1 P2 P3 ≠ 0:=by decide +kernel
theorem nP : ¬ T3.nPart P1 P2 P4 = 0:=by decide +kernel
theorem by1 : T3.ratioQ P1 P2 P3 P4 = 1 / 2:=by decide +kernel
theorem bn6 : rstr (1 / 2 : Rat) = [49,47,50]:=by
 have h1 : (1 / 2 : Rat).num = 1:=by decide +kernel
 have h2 : (1 / 2 : Rat).den = 2:=by decide +kernel
 unfold rstr Lib.itoa
 rw [h1,h2,if_neg (by decide),if_neg (by decide),show (1 : Int).toNat = 1 from rfl,Lib.decDigits_one (by decide),Lib.decDigits_one (by decide)]
 rfl
theorem b71 : rstr (1 : Rat) = [49]:=by
 have h1 : (1 : Rat).num = 1:=rfl
 have h2 : (1 : Rat).den = 1:=rfl
 unfold rstr Lib.itoa
 rw [h1,h2,if_neg (by decide),if_pos rfl,show (1 : Int).toNat = 1 from rfl,Lib.decDigits_one (by decide)]
 rfl
theorem G5 {S : Nat → Prop} {w : World} (hS : Up S w) : Gives Tryz.prog 23 [.int .i64 1,.int .i64 1] w fun v' w'=>Ext w w' ∧ QV S w' v' (1 : Rat):=F4 (a:=1) hS (by decide) (by decide)
theorem cf2 {S : Nat → Prop} {w : World} (hS : Up S w) : Gives Tryz.prog 23 [.int .i64 2,.int .i64 1] w fun v' w'=>Ext w w' ∧ QV S w' v' (2 : Rat):=F4 (a:=2) hS (by decide) (by decide)
set_option maxRecDepth 100000 in
set_option maxHeartbeats 2000000 in
theorem b13 {w : World} (ht : Tab w) : Gives Tryz.prog 11 [] w fun v' w'=>v' = .bool true ∧ Ext w w':=by
 have hS : Up All w:=Up.all
 refine o8 (E:=env) (S0:=All) (G:=Gh.nil) (l:=[]) Tryz.func11 rfl rfl rfl trivial rfl trivial ?_
 refine s_1 (fun x0=>.one (.ag 4 x0)) (fun x0=>qG x0 ((1 : Rat))) ⟨a8,hS,b7⟩ (by kernel_rfl) (by kernel_rfl) (fun _ _ _ h=>⟨h.ok,rfl⟩) (fun β S w hS hs hw hG=>⟨_,(by kernel_rfl),G5 hS⟩) ?_
 intro v1
 refine s_1 (fun x0=>.one (.ag 4 x0)) (fun x0=>qG x0 ((0 : Rat))) ⟨a8,hS,b7⟩ (by kernel_rfl) (by kernel_rfl) (fun _ _ _ h=>⟨h.ok,rfl⟩) (fun β S w hS hs hw hG=>⟨_,(by kernel_rfl),I7 hS⟩) ?_
 intro v2
 refine s_1 (fun x0=>.one (.ag 4 x0)) (fun x0=>qG x0 ((0 : Rat))) ⟨a8,hS,b7⟩ (by kernel_rfl) (by kernel_rfl) (fun _ _ _ h=>⟨h.ok,rfl⟩) (fun β S w hS hs hw hG=>⟨_,(by kernel_rfl),I7 hS⟩) ?_
 intro v3
 refine s_1 (fun x0=>.one (.ag 9 x0)) (fun x0=>triG x0 (P1)) ⟨a8,hS,b7⟩ (by kernel_rfl) (by kernel_rfl) (fun _ _ _ h=>⟨h.ok,rfl⟩) (fun β S w hS hs hw hG=>have a3:=hG.1; have a2:=hG.2.1; have a1:=hG.2.2.1; ⟨_,(by kernel_rfl),A0 hS ⟨v1,v2,v3,rfl,a1,a2,a3⟩ a49 (by decide)⟩) ?_
 intro p
 refine s_1 (fun x0=>.one (.ag 4 x0)) (fun x0=>qG x0 ((0 : Rat))) ⟨a8,hS,b7⟩ (by kernel_rfl) (by kernel_rfl) (fun _ _ _ h=>⟨h.ok,rfl⟩) (fun β S w hS hs hw hG=>⟨_,(by kernel_rfl),I7 hS⟩) ?_
 intro v4
 refine s_1 (fun x0=>.one (.ag 4 x0)) (fun x0=>qG x0 ((2 : Rat))) ⟨a8,hS,b7⟩ (by kernel_rfl) (by kernel_rfl) (fun _ _ _ h=>⟨h.ok,rfl⟩) (fun β S w hS hs hw hG=>⟨_,(by kernel_rfl),cf2 hS⟩) ?_
 intro v5
 refine s_1 (fun x0=>.one (.ag 4 x0)) (fun x0=>qG x0 ((0 : Rat))) ⟨a8,hS,b7⟩ (by kernel_rfl) (by kernel_rfl) (fun _ _ _ h=>⟨h.ok,rfl⟩) (fun β S w hS hs hw hG=>⟨_,(by kernel_rfl),I7 hS⟩) ?_
 intro v6
 refine s_1 (fun x0=>.one (.ag 9 x0)) (fun x0=>triG x0 (P2)) ⟨a8,hS,b7⟩ (by kernel_rfl) (by kernel_rfl) (fun _ _ _ h=>⟨h.ok,rfl⟩) (fun β S w hS hs hw hG=>have b3:=hG.1; have b2:=hG.2.1; have b1:=hG.2.2.1; ⟨_,(by kernel_rfl),A0 hS ⟨v4,v5,v6,rfl,b1,b2,b3⟩ bk9 (by decide)⟩) ?_
 intro q
 refine s_1 (fun x0=>.tup [(true,[.ag 3 (cel (tupN x0 0) 0 3),.ag 3 (cel (tupN x0 0) 3 3),.ag 3 (cel (tupN x0 0) 6 3)]),(false,[.lit .i64 0])]) (fun x0=>ttripG x0 (L1)) ⟨a8,hS,b7⟩ (by kernel_rfl) (by kernel_rfl) (fun _ _ _ h=>bm2 h) (fun β S w hS hs hw hG=>have tq:=hG.1; have tp:=hG.2.2.2.2.1; ⟨_,(by kernel_rfl),(O6 (k:=1) (ht.to hw) hS tp tq a49 bk9 (by decide) (by rw [bi7]; exact bk3) (by decide)).mono fun v' w' h=>⟨h.1,b19 (by have h2:=h.2; rw [a62,bv3] at h2; exact h2)⟩⟩) ?_
 intro j
 refine s_K (pr (.bb true) (.lit .i64 0)) ⟨a8,hS,b7⟩ (by kernel_rfl) (by kernel_rfl) (j9 rfl) rfl (fun β S w hS hs hw hG=>have hj:=hG.1; have tp:=hG.2.2.2.2.2.1; ⟨_,(by kernel_rfl),gK (cp5 (ht.to hw) hS tp ⟨_,_,_,rfl,hj.2.2.1,hj.2.2.2.1,hj.2.2.2.2⟩ a49 bk3 (by decide)) (by rw [l9 co7,b66]; rfl)⟩) ?_
 refine l8 20 ⟨a8,hS,b7⟩ (by kernel_rfl) (by kernel_rfl) (by kernel_rfl) ?_
 refine i1 2 (fun η=>(by kernel_rfl)) ?_
 refine h_1 (fun x0=>.one (.ag 4 x0)) (fun x0=>qG x0 ((1 : Rat))) (fun η=>(by kernel_rfl)) (fun _ _ _ h=>⟨h.ok,rfl⟩) (fun β η S w hS hs hw hG hd=>⟨_,(by kernel_rfl),G5 hS⟩) ?_
 refine h_1 (fun x0=>.one (.ag 4 x0)) (fun x0=>qG x0 ((1 : Rat))) (fun η=>(by kernel_rfl)) (fun _ _ _ h=>⟨h.ok,rfl⟩) (fun β η S w hS hs hw hG hd=>⟨_,(by kernel_rfl),G5 hS⟩) ?_
 refine h_1 (fun x0=>.one (.ag 4 x0)) (fun x0=>qG x0 ((0 : Rat))) (fun η=>(by kernel_rfl)) (fun _ _ _ h=>⟨h.ok,rfl⟩) (fun β η S w hS hs hw hG hd=>⟨_,(by kernel_rfl),I7 hS⟩) ?_
 refine S9 (fun x0=>.one (.ag 12 x0)) (fun x0=>qtriG x0 (P3)) ⟨a8,hS,b7⟩ (fun η=>(by kernel_rfl)) (fun η=>(by kernel_rfl)) (fun β η S w hS hM hs hw hG hd=>have hF : (qtriG (tri4 (η 2) (η 3) (η 4)) (P3)).p S w:=⟨_,_,_,rfl,(dep hd 2 (by kernel_rfl) (by kernel_rfl) : (qG (η 2) ((1 : Rat))).p S w),(dep hd 3 (by kernel_rfl) (by kernel_rfl) : (qG (η 3) ((1 : Rat))).p S w),(dep hd 4 (by kernel_rfl) (by kernel_rfl) : (qG (η 4) ((0 : Rat))).p S w)⟩; have hK : ∀ (x0 : Value) (S : Nat → Prop) (w : World),(qtriG x0 (P3)).p S w → (.one (.ag 12 x0) : SV).Ok 0 ∧ (.one (.ag 12 x0) : SV).den (fun _=>0) = x0:=(fun _ _ _ h=>⟨h.ok,rfl⟩); ⟨(tri4 (η 2) (η 3) (η 4)),(by kernel_rfl),(hK _ S w hF).2.symm,(hK _ S w hF).1,hF⟩) ?_
 refine h_1 (fun x0=>.one (.ag 9 x0)) (fun x0=>triG x0 (P3)) (fun η=>(by kernel_rfl)) (fun _ _ _ h=>⟨h.ok,rfl⟩) (fun β η S w hS hs hw hG hd=>⟨_,(by kernel_rfl),A0 hS (dep hd 5 (by kernel_rfl) (by kernel_rfl) : (qtriG (η 5) (P3)).p S w) bv5 (by decide)⟩) ?_
 refine h_1 (fun x0=>.one (.ag 4 x0)) (fun x0=>qG x0 ((1 : Rat))) (fun η=>(by kernel_rfl)) (fun _ _ _ h=>⟨h.ok,rfl⟩) (fun β η S w hS hs hw hG hd=>⟨_,(by kernel_rfl),G5 hS⟩) ?_
 refine h_1 (fun x0=>.one (.ag 4 x0)) (fun x0=>qG x0 ((2 : Rat))) (fun η=>(by kernel_rfl)) (fun _ _ _ h=>⟨h.ok,rfl⟩) (fun β η S w hS hs hw hG hd=>⟨_,(by kernel_rfl),cf2 hS⟩) ?_
 refine h_1 (fun x0=>.one (.ag 4 x0)) (fun x0=>qG x0 ((0 : Rat))) (fun η=>(by kernel_rfl)) (fun _ _ _ h=>⟨h.ok,rfl⟩) (fun β η S w hS hs hw hG hd=>⟨_,(by kernel_rfl),I7 hS⟩) ?_
 refine S9 (fun x0=>.one (.ag 12 x0)) (fun x0=>qtriG x0 (P4)) ⟨a8,hS,b7⟩ (fun η=>(by kernel_rfl)) (fun η=>(by kernel_rfl)) (fun β η S w hS hM hs hw hG hd=>have hF : (qtriG (tri4 (η 7) (η 8) (η 9)) (P4)).p S w:=⟨_,_,_,rfl,(dep hd 7 (by kernel_rfl) (by kernel_rfl) : (qG (η 7) ((1 : Rat))).p S w),(dep hd 8 (by kernel_rfl) (by kernel_rfl) : (qG (η 8) ((2 : Rat))).p S w),(dep hd 9 (by kernel_rfl) (by kernel_rfl) : (qG (η 9) ((0 : Rat))).p S w)⟩; have hK : ∀ (x0 : Value) (S : Nat → Prop) (w : World),(qtriG x0 (P4)).p S w → (.one (.ag 12 x0) : SV).Ok 0 ∧ (.one (.ag 12 x0) : SV).den (fun _=>0) = x0:=(fun _ _ _ h=>⟨h.ok,rfl⟩); ⟨(tri4 (η 7) (η 8) (η 9)),(by kernel_rfl),(hK _ S w hF).2.symm,(hK _ S w hF).1,hF⟩) ?_
 refine h_1 (fun x0=>.one (.ag 9 x0)) (fun x0=>triG x0 (P4)) (fun η=>(by kernel_rfl)) (fun _ _ _ h=>⟨h.ok,rfl⟩) (fun β η S w hS hs hw hG hd=>⟨_,(by kernel_rfl),A0 hS (dep hd 10 (by kernel_rfl) (by kernel_rfl) : (qtriG (η 10) (P4)).p S w) b30 (by decide)⟩) ?_
 refine h_1 (fun x0=>.tup [(true,[.ag 3 (tupN x0 0)]),(false,[.bb false]),(false,[.lit .i64 0])]) (fun x0=>rt3G x0 ((1 / 2 : Rat))) (fun η=>(by kernel_rfl)) (fun _ _ _ h=>b88 h) (fun β η S w hS hs hw hG hd=>have tq:=hG.2.1; have tp:=hG.2.2.2.2.2.1; ⟨_,(by kernel_rfl),(b39 (bt2 (by decide +kernel) (by decide +kernel) (by decide +kernel)) (ht.to hw) hS tp tq (dep hd 6 (by kernel_rfl) (by kernel_rfl) : (triG (η 6) (P3)).p S w) (dep hd 11 (by kernel_rfl) (by kernel_rfl) : (triG (η 11) (P4)).p S w) a49 bk9 bv5 b30 (by decide) be7 b61 cg3 cm1 bj0 b84 ca2 b07 by7 mP).mono fun v' w' h=>⟨h.1,let ⟨x,e,hx⟩:=h.2; ⟨by rw [e,j6 nP]; rfl,by rw [e]; rw [by1] at hx; exact hx⟩⟩⟩) ?_
 refine i1 7 (fun η=>(by kernel_rfl)) ?_
 refine l6 [true,false,false,false,false,false,false,false,false,false,false] ((ttripG j (L1)).and (Gh.nil)) (by exact fun _ _ h=>⟨h.1,trivial⟩) (fun g η=>(rt3G (η 12) ((1 / 2 : Rat))).and g) (by kernel_rfl) (fun g η=>(by kernel_rfl)) ?_
 intro η_1
 refine s_K (.one (.str [49])) ⟨a8,hS,b7⟩ (by kernel_rfl) (by kernel_rfl) (j9 rfl) rfl (fun β S w hS hs hw hG=>have hj:=hG.2.1; ⟨_,(by kernel_rfl),gK (b47 (ht.to hw) hj.2.2.2.2 (o5 bk3.2.2 (by decide))) (congrArg strV b71)⟩) ?_
 refine ap4 (p:=([49] : List UInt8) = [49]) 68 ⟨a8,hS,b7⟩ (by kernel_rfl) (by kernel_rfl) (rfl) ?_
 refine s_K (.one (.str [49,47,50])) ⟨a8,hS,b7⟩ (by kernel_rfl) (by kernel_rfl) (j9 rfl) rfl (fun β S w hS hs hw hG=>have hr:=hG.1; ⟨_,(by kernel_rfl),gK (b47 (ht.to hw) hr.2 (o5 (D9 (by decide +kernel) (by decide +kernel)) (by decide))) (congrArg strV bn6)⟩) ?_
 refine ap4 (p:=([49,47,50] : List UInt8) = [49,47,50]) 73 ⟨a8,hS,b7⟩ (by kernel_rfl) (by kernel_rfl) (rfl) ?_
 exact q8 (.bool true) ⟨a8,hS,b7⟩ (by kernel_rfl) rfl (by kernel_rfl) (fun β=>(by kernel_rfl)) (fun S w hs hw hG=>⟨rfl,hw⟩)
end Go.Proofs.YtpheooheinfbgaaGreatDoor
end
section
set_option linter.unusedVariables false
set_option linter.unusedSimpArgs false
namespace Go.Proofs.YtpheooheinfbgaaGreatDoor
open Go
structure M3 where
 a : T3
 b : T3
 c : T3
namespace T3
def smul (k : Rat) (p : T3) : T3:=⟨k * p.x,k * p.y,k * p.z⟩
theorem ac9 (k l : Rat) (p q : T3) : (p.smul k).cross (q.smul l) = (p.cross q).smul (k * l):=by
 ext <;> simp only [smul,cross] <;> grind
theorem b67 (k l : Rat) (p q : T3) : (p.smul k).dot (q.smul l) = k * l * p.dot q:=by
 simp only [smul,dot]; grind
theorem smul_none {k : Rat} (hk : k ≠ 0) {p : T3} : (p.smul k).None ↔ p.None:=by
 unfold None smul
 simp only [Rat.mul_eq_zero,hk,false_or]
theorem smul_same {k l : Rat} (hk : k ≠ 0) (hl : l ≠ 0) {p q : T3} : Same (p.smul k) (q.smul l) ↔ Same p q:=by
 unfold Same
 rw [ac9]
 refine smul_none fun h=>?_
 rcases Rat.mul_eq_zero.1 h with h | h
 ·exact hk h
 ·exact hl h
theorem bp6 {k l m : Rat} (hk : k ≠ 0) (hl : l ≠ 0) (hm : m ≠ 0) {p q r : T3} : Flat (p.smul k) (q.smul l) (r.smul m) ↔ Flat p q r:=by
 unfold Flat
 rw [ac9,b67]
 constructor
 ·intro h
  rcases Rat.mul_eq_zero.1 h with h | h
  ·rcases Rat.mul_eq_zero.1 h with h | h
   ·rcases Rat.mul_eq_zero.1 h with h | h
    ·exact absurd h hk
    ·exact absurd h hl
   ·exact absurd h hm
  ·exact h
 ·intro h; rw [h,Rat.mul_zero]
def Like (p q : T3) : Prop:=∃ k,k ≠ 0 ∧ p = q.smul k
theorem bo0 (k l : Rat) (p : T3) : (p.smul k).smul l = p.smul (l * k):=by
 ext <;> simp only [smul] <;> grind
theorem bz4 (p : T3) : p.smul 1 = p:=by
 ext <;> simp only [smul] <;> grind
theorem Like.rfl {p : T3} : Like p p:=⟨1,by decide,(bz4 p).symm⟩
theorem Like.trans {p q r : T3} (h : Like p q) (k : Like q r) : Like p r:=by
 obtain ⟨a,ha,rfl⟩:=h
 obtain ⟨b,hb,rfl⟩:=k
 refine ⟨a * b,?_,bo0 _ _ _⟩
 intro h
 rcases Rat.mul_eq_zero.1 h with h | h
 ·exact ha h
 ·exact hb h
theorem Like.cross {p q p' q' : T3} (h : Like p p') (k : Like q q') : Like (p.cross q) (p'.cross q'):=by
 obtain ⟨a,ha,rfl⟩:=h
 obtain ⟨b,hb,rfl⟩:=k
 refine ⟨a * b,?_,ac9 _ _ _ _⟩
 intro h
 rcases Rat.mul_eq_zero.1 h with h | h
 ·exact ha h
 ·exact hb h
theorem Like.none {p p' : T3} (h : Like p p') : p.None ↔ p'.None:=by
 obtain ⟨a,ha,rfl⟩:=h
 exact smul_none ha
theorem Like.same {p q p' q' : T3} (h : Like p p') (k : Like q q') : Same p q ↔ Same p' q':=(h.cross k).none
theorem Like.flat {p q r p' q' r' : T3} (h : Like p p') (k : Like q q') (l : Like r r') : Flat p q r ↔ Flat p' q' r':=by
 obtain ⟨a,ha,rfl⟩:=h
 obtain ⟨b,hb,rfl⟩:=k
 obtain ⟨c,hc,rfl⟩:=l
 exact bp6 ha hb hc
theorem like_normal {p : T3} (h : ¬ p.None) : Like p.normal p:=by
 have hl:=lead_ne h
 refine ⟨1 / p.lead,by grind,?_⟩
 ext <;> simp only [smul,normal,over] <;> grind
end T3
namespace M3
def det (m : M3) : Rat:=m.a.dot (m.b.cross m.c)
def apply (m : M3) (p : T3) : T3:=⟨m.a.dot p,m.b.dot p,m.c.dot p⟩
def cof (m : M3) : M3:=⟨m.b.cross m.c,m.c.cross m.a,m.a.cross m.b⟩
theorem cross_apply (m : M3) (p q : T3) : (m.apply p).cross (m.apply q) = m.cof.apply (p.cross q):=by
 ext <;> simp only [apply,cof,T3.cross,T3.dot] <;> grind
theorem a11 (m : M3) (p : T3) : m.cof.cof.apply p = (m.apply p).smul m.det:=by
 ext <;> simp only [apply,cof,det,T3.cross,T3.dot,T3.smul] <;> grind
theorem cr7 (m : M3) (v : T3) : m.det * v.x = m.a.x * (m.cof.apply v).x + m.b.x * (m.cof.apply v).y + m.c.x * (m.cof.apply v).z ∧
  m.det * v.y = m.a.y * (m.cof.apply v).x + m.b.y * (m.cof.apply v).y + m.c.y * (m.cof.apply v).z ∧ m.det * v.z = m.a.z * (m.cof.apply v).x + m.b.z * (m.cof.apply v).y + m.c.z * (m.cof.apply v).z:=by
 refine ⟨?_,?_,?_⟩ <;> simp only [apply,cof,det,T3.cross,T3.dot] <;> grind
theorem ba4 {m : M3} (h : m.det ≠ 0) {v : T3} : (m.cof.apply v).None ↔ v.None:=by
 obtain ⟨h1,h2,h3⟩:=cr7 m v
 constructor
 ·rintro ⟨e1,e2,e3⟩
  rw [e1,e2,e3] at h1 h2 h3
  have z : ∀ x : Rat,m.det * x = 0 → x = 0:=fun x hx=>(Rat.mul_eq_zero.1 hx).resolve_left h
  exact ⟨z _ (by rw [h1]; grind),z _ (by rw [h2]; grind),z _ (by rw [h3]; grind)⟩
 ·rintro ⟨e1,e2,e3⟩
  unfold T3.None apply T3.dot
  simp only [e1,e2,e3]
  refine ⟨?_,?_,?_⟩ <;> grind
theorem cb1 (m : M3) : m.cof.det = m.det * m.det:=by
 simp only [det,cof,T3.cross,T3.dot]; grind
theorem bx3 {m : M3} (h : m.det ≠ 0) : m.cof.det ≠ 0:=by
 rw [cb1]
 intro e
 rcases Rat.mul_eq_zero.1 e with e | e <;> exact h e
theorem meet_like {m : M3} (h : m.det ≠ 0) (u v : T3) : T3.Like ((m.cof.apply u).cross (m.cof.apply v)) (m.apply (u.cross v)):=by
 rw [cross_apply,a11]
 exact ⟨m.det,h,rfl⟩
theorem cofcof_like {m : M3} (h : m.det ≠ 0) (v : T3) : T3.Like (m.cof.cof.apply v) (m.apply v):=by
 rw [a11]
 exact ⟨m.det,h,rfl⟩
theorem same_apply {m : M3} (h : m.det ≠ 0) {p q : T3} : T3.Same (m.apply p) (m.apply q) ↔ T3.Same p q:=by
 unfold T3.Same
 rw [cross_apply]
 exact ba4 h
theorem same_cof {m : M3} (h : m.det ≠ 0) {p q : T3} : T3.Same (m.cof.apply p) (m.cof.apply q) ↔ T3.Same p q:=same_apply (bx3 h)
theorem apply_none {m : M3} (h : m.det ≠ 0) {v : T3} : (m.apply v).None ↔ v.None:=by
 have h1:=ba4 (bx3 h) (v:=v)
 rw [a11,T3.smul_none h] at h1
 exact h1
theorem flat_apply {m : M3} (h : m.det ≠ 0) {p q r : T3} : T3.Flat (m.apply p) (m.apply q) (m.apply r) ↔ T3.Flat p q r:=by
 unfold T3.Flat
 have e : ((m.apply p).cross (m.apply q)).dot (m.apply r) = m.det * (p.cross q).dot r:=by
  simp only [apply,det,T3.cross,T3.dot]; grind
 rw [e]
 constructor
 ·intro h1; exact (Rat.mul_eq_zero.1 h1).resolve_left h
 ·intro h1; rw [h1,Rat.mul_zero]
end M3
structure Six6 where
 p0 : T3
 p1 : T3
 p2 : T3
 p3 : T3
 p4 : T3
 p5 : T3
namespace Six6
def l0 (s : Six6) : T3:=s.p0.cross s.p1
def l1 (s : Six6) : T3:=s.p1.cross s.p2
def l2 (s : Six6) : T3:=s.p2.cross s.p3
def l3 (s : Six6) : T3:=s.p3.cross s.p4
def l4 (s : Six6) : T3:=s.p4.cross s.p5
def l5 (s : Six6) : T3:=s.p5.cross s.p0
def m0 (s : Six6) : T3:=s.l0.cross s.l3
def m1 (s : Six6) : T3:=s.l1.cross s.l4
def m2 (s : Six6) : T3:=s.l2.cross s.l5
structure Ok (s : Six6) : Prop where
 d01 : ¬ T3.Same s.p1 s.p0
 d02 : ¬ T3.Same s.p2 s.p0
 d03 : ¬ T3.Same s.p3 s.p0
 d04 : ¬ T3.Same s.p4 s.p0
 d05 : ¬ T3.Same s.p5 s.p0
 d12 : ¬ T3.Same s.p2 s.p1
 d13 : ¬ T3.Same s.p3 s.p1
 d14 : ¬ T3.Same s.p4 s.p1
 d15 : ¬ T3.Same s.p5 s.p1
 d23 : ¬ T3.Same s.p3 s.p2
 d24 : ¬ T3.Same s.p4 s.p2
 d25 : ¬ T3.Same s.p5 s.p2
 d34 : ¬ T3.Same s.p4 s.p3
 d35 : ¬ T3.Same s.p5 s.p3
 d45 : ¬ T3.Same s.p5 s.p4
 o0 : ¬ T3.Same s.l0 s.l3
 o1 : ¬ T3.Same s.l1 s.l4
 o2 : ¬ T3.Same s.l2 s.l5
 fl : T3.Flat s.m0 s.m1 s.m2
 ns : ¬ (T3.Same s.m0 s.m1 ∧ T3.Same s.m0 s.m2)
def map (m : M3) (s : Six6) : Six6:=⟨m.apply s.p0,m.apply s.p1,m.apply s.p2,m.apply s.p3,m.apply s.p4,m.apply s.p5⟩
theorem Ok.map {m : M3} (h : m.det ≠ 0) {s : Six6} (k : s.Ok) : (s.map m).Ok:=by
 have e0 : T3.Like (s.map m).m0 (m.apply s.m0):=by unfold m0 l0 l3 Six6.map; simp only [M3.cross_apply]; exact M3.cofcof_like h _
 have e1 : T3.Like (s.map m).m1 (m.apply s.m1):=by unfold m1 l1 l4 Six6.map; simp only [M3.cross_apply]; exact M3.cofcof_like h _
 have e2 : T3.Like (s.map m).m2 (m.apply s.m2):=by unfold m2 l2 l5 Six6.map; simp only [M3.cross_apply]; exact M3.cofcof_like h _
 refine ⟨?_,?_,?_,?_,?_,?_,?_,?_,?_,?_,?_,?_,?_,?_,?_,?_,?_,?_,?_,?_⟩
 ·exact fun e=>k.d01 ((M3.same_apply h).1 e)
 ·exact fun e=>k.d02 ((M3.same_apply h).1 e)
 ·exact fun e=>k.d03 ((M3.same_apply h).1 e)
 ·exact fun e=>k.d04 ((M3.same_apply h).1 e)
 ·exact fun e=>k.d05 ((M3.same_apply h).1 e)
 ·exact fun e=>k.d12 ((M3.same_apply h).1 e)
 ·exact fun e=>k.d13 ((M3.same_apply h).1 e)
 ·exact fun e=>k.d14 ((M3.same_apply h).1 e)
 ·exact fun e=>k.d15 ((M3.same_apply h).1 e)
 ·exact fun e=>k.d23 ((M3.same_apply h).1 e)
 ·exact fun e=>k.d24 ((M3.same_apply h).1 e)
 ·exact fun e=>k.d25 ((M3.same_apply h).1 e)
 ·exact fun e=>k.d34 ((M3.same_apply h).1 e)
 ·exact fun e=>k.d35 ((M3.same_apply h).1 e)
 ·exact fun e=>k.d45 ((M3.same_apply h).1 e)
 ·exact fun e=>k.o0 ((M3.same_cof h).1 (by unfold l0 l3 Six6.map at e; simp only [M3.cross_apply] at e; exact e))
 ·exact fun e=>k.o1 ((M3.same_cof h).1 (by unfold l1 l4 Six6.map at e; simp only [M3.cross_apply] at e; exact e))
 ·exact fun e=>k.o2 ((M3.same_cof h).1 (by unfold l2 l5 Six6.map at e; simp only [M3.cross_apply] at e; exact e))
 ·exact (e0.flat e1 e2).2 ((M3.flat_apply h).2 k.fl)
 ·exact fun e=>k.ns ⟨(M3.same_apply h).1 ((e0.same e1).1 e.1),(M3.same_apply h).1 ((e0.same e2).1 e.2)⟩
end Six6
def conP (s r : Rat) : T3:=⟨s * r,r * r,s * s⟩
theorem br1 (s r s' r' : Rat) : (conP s r).cross (conP s' r') = (T3.mk (r * s' + s * r') (-(s * s')) (-(r * r'))).smul (r * s' - s * r'):=by
 ext <;> simp only [conP,T3.cross,T3.smul] <;> grind
def ell (s r s' r' : Rat) : T3:=⟨r * s' + s * r',-(s * s'),-(r * r')⟩
theorem bl0 (s r s' r' s2 r2 : Rat) : (ell s r s' r').dot (conP s2 r2) = -((s * r2 - r * s2) * (s' * r2 - r' * s2)):=by
 simp only [ell,conP,T3.dot]; grind
theorem Q4 {a b : Rat} (ha : a ≠ 0) (hb : b ≠ 0) : a * b ≠ 0:=by
 intro h
 rcases Rat.mul_eq_zero.1 h with h | h
 ·exact ha h
 ·exact hb h
theorem bx6 {s r s' r' : Rat} (h1 : ¬ (s = 0 ∧ r = 0)) (h2 : ¬ (s' = 0 ∧ r' = 0)) : ¬ (ell s r s' r').None:=by
 rintro ⟨e1,e2,e3⟩
 simp only [ell] at e1 e2 e3
 have e2' : s * s' = 0:=by grind
 have e3' : r * r' = 0:=by grind
 rcases Rat.mul_eq_zero.1 e2' with hs | hs
 ·have hr : r ≠ 0:=fun h=>h1 ⟨hs,h⟩
  have hr' : r' = 0:=(Rat.mul_eq_zero.1 e3').resolve_left hr
  have e4 : r * s' = 0:=by rw [hs] at e1; grind
  exact h2 ⟨(Rat.mul_eq_zero.1 e4).resolve_left hr,hr'⟩
 ·have hr' : r' ≠ 0:=fun h=>h2 ⟨hs,h⟩
  have hr : r = 0:=(Rat.mul_eq_zero.1 e3').resolve_right hr'
  have e4 : s * r' = 0:=by rw [hs] at e1; grind
  exact h1 ⟨(Rat.mul_eq_zero.1 e4).resolve_right hr',hr⟩
namespace T3
theorem same_on {u v p : T3} (h : Same u v) (hv : ¬ v.None) (hp : v.dot p = 0) : u.dot p = 0:=by
 obtain ⟨h1,h2,h3⟩:=h
 simp only [cross] at h1 h2 h3
 simp only [dot] at hp ⊢
 have z : ∀ x : Rat,x ≠ 0 → x * (u.x * p.x + u.y * p.y + u.z * p.z) = 0 → u.x * p.x + u.y * p.y + u.z * p.z = 0:=fun x hx h=>(Rat.mul_eq_zero.1 h).resolve_left hx
 by_cases hx : v.x = 0
 ·by_cases hy : v.y = 0
  ·have hz : v.z ≠ 0:=fun hz=>hv ⟨hx,hy,hz⟩
   exact z _ hz (by grind)
  ·exact z _ hy (by grind)
 ·exact z _ hx (by grind)
theorem same_symm {u v : T3} (h : Same u v) : Same v u:=by
 obtain ⟨h1,h2,h3⟩:=h
 simp only [cross] at h1 h2 h3
 refine ⟨?_,?_,?_⟩ <;> simp only [cross] <;> grind
theorem cross_dot1 (u v : T3) : u.dot (u.cross v) = 0:=by simp only [dot,cross]; grind
theorem cross_dot2 (u v : T3) : v.dot (u.cross v) = 0:=by simp only [dot,cross]; grind
theorem dot_comm (u v : T3) : u.dot v = v.dot u:=by simp only [dot]; grind
theorem corner {p q r m : T3} (h : (p.cross q).dot r ≠ 0) (h1 : (p.cross q).dot m = 0) (h2 : (q.cross r).dot m = 0) : m.smul ((p.cross q).dot r) = q.smul ((r.cross p).dot m):=by
 have e : m.smul ((p.cross q).dot r) = ⟨(q.cross r).dot m * p.x + (r.cross p).dot m * q.x + (p.cross q).dot m * r.x,(q.cross r).dot m * p.y + (r.cross p).dot m * q.y + (p.cross q).dot m * r.y,(q.cross r).dot m * p.z + (r.cross p).dot m * q.z + (p.cross q).dot m * r.z⟩:=by
  ext <;> simp only [smul,cross,dot] <;> grind
 rw [e,h1,h2]
 ext <;> simp only [smul] <;> grind
end T3
theorem cf1 {s : Six6} (d1 : (s.p0.cross s.p1).dot s.p2 ≠ 0) (d2 : (s.p5.cross s.p0).dot s.p1 ≠ 0) (o0 : ¬ T3.Same s.l0 s.l3) (o1 : ¬ T3.Same s.l1 s.l4) (o2 : ¬ T3.Same s.l2 s.l5) (hd : ¬ T3.Same s.p0 s.p1) : ¬ (T3.Same s.m0 s.m1 ∧ T3.Same s.m0 s.m2):=by
 rintro ⟨h1,h2⟩
 have a0 : s.l0.dot s.m0 = 0:=T3.cross_dot1 _ _
 have a1 : s.l1.dot s.m0 = 0:=by
  rw [T3.dot_comm]
  refine T3.same_on h1 o1 ?_
  rw [T3.dot_comm]
  exact T3.cross_dot1 _ _
 have a5 : s.l5.dot s.m0 = 0:=by
  rw [T3.dot_comm]
  refine T3.same_on h2 o2 ?_
  rw [T3.dot_comm]
  exact T3.cross_dot2 _ _
 have c1:=T3.corner (p:=s.p0) (q:=s.p1) (r:=s.p2) (m:=s.m0) d1 a0 a1
 have c2:=T3.corner (p:=s.p5) (q:=s.p0) (r:=s.p1) (m:=s.m0) d2 a5 a0
 obtain ⟨k1,hk1⟩ : ∃ k,k = (s.p2.cross s.p0).dot s.m0:=⟨_,rfl⟩
 obtain ⟨k2,hk2⟩ : ∃ k,k = (s.p1.cross s.p5).dot s.m0:=⟨_,rfl⟩
 rw [← hk1] at c1
 rw [← hk2] at c2
 have hm : ¬ s.m0.None:=o0
 have n1 : k1 ≠ 0:=by
  intro e
  rw [e] at c1
  have h : (s.m0.smul ((s.p0.cross s.p1).dot s.p2)).None:=by rw [c1]; refine ⟨?_,?_,?_⟩ <;> simp only [T3.smul] <;> grind
  exact hm ((T3.smul_none d1).1 h)
 have n2 : k2 ≠ 0:=by
  intro e
  rw [e] at c2
  have h : (s.m0.smul ((s.p5.cross s.p0).dot s.p1)).None:=by rw [c2]; refine ⟨?_,?_,?_⟩ <;> simp only [T3.smul] <;> grind
  exact hm ((T3.smul_none d2).1 h)
 have hs : T3.Same (s.p0.smul k2) (s.p1.smul k1):=by
  rw [← c1,← c2]
  refine (T3.smul_same d2 d1).2 ?_
  refine ⟨?_,?_,?_⟩ <;> simp only [T3.cross] <;> grind
 exact hd ((T3.smul_same n2 n1).1 hs)
theorem ci9 (s0 r0 s1 r1 s2 r2 s3 r3 s4 r4 s5 r5 : Rat) : T3.Flat ((ell s0 r0 s1 r1).cross (ell s3 r3 s4 r4)) ((ell s1 r1 s2 r2).cross (ell s4 r4 s5 r5)) ((ell s2 r2 s3 r3).cross (ell s5 r5 s0 r0)):=by
 simp only [T3.Flat,T3.cross,T3.dot,ell]
 grind
end Go.Proofs.YtpheooheinfbgaaGreatDoor
end
section
set_option linter.unusedVariables false
set_option linter.unusedSimpArgs false
namespace Go.Proofs.YtpheooheinfbgaaGreatDoor
open Go
theorem J0 {s r s' r' : Rat} (h : r * s' - s * r' ≠ 0) : r' * s - s' * r ≠ 0:=fun e=>h (by grind)
theorem dnz {s r s' r' : Rat} (h : r * s' - s * r' ≠ 0) : ¬ (s = 0 ∧ r = 0):=by
 rintro ⟨e1,e2⟩
 exact h (by rw [e1,e2]; grind)
theorem R4 {s r s' r' : Rat} (h : r * s' - s * r' ≠ 0) : T3.Like ((conP s r).cross (conP s' r')) (ell s r s' r'):=⟨_,h,br1 s r s' r'⟩
theorem E4 {s r s' r' : Rat} (h : r * s' - s * r' ≠ 0) : ¬ T3.Same (conP s r) (conP s' r'):=fun e=>bx6 (dnz h) (dnz (J0 h)) ((R4 h).none.1 e)
theorem ai7 {s r s' r' s2 r2 s3 r3 : Rat} (h23 : r2 * s3 - s2 * r3 ≠ 0) (h02 : r * s2 - s * r2 ≠ 0) (h12 : r' * s2 - s' * r2 ≠ 0) : ¬ T3.Same (ell s r s' r') (ell s2 r2 s3 r3):=by
 intro e
 have h1:=T3.same_on (p:=conP s2 r2) e (bx6 (dnz h23) (dnz (J0 h23))) (by rw [bl0]; grind)
 rw [bl0] at h1
 rcases Rat.mul_eq_zero.1 (show (s * r2 - r * s2) * (s' * r2 - r' * s2) = 0 by grind) with h | h
 ·exact h02 (by grind)
 ·exact h12 (by grind)
theorem a44 {s r s' r' s2 r2 : Rat} (h01 : r * s' - s * r' ≠ 0) (h02 : r * s2 - s * r2 ≠ 0) (h12 : r' * s2 - s' * r2 ≠ 0) : ((conP s r).cross (conP s' r')).dot (conP s2 r2) ≠ 0:=by
 have e : ((conP s r).cross (conP s' r')).dot (conP s2 r2) = -((r * s' - s * r') * ((r * s2 - s * r2) * (r' * s2 - s' * r2))):=by
  simp only [conP,T3.cross,T3.dot]; grind
 rw [e]
 intro h
 exact Q4 h01 (Q4 h02 h12) (by grind)
def conS (s0 r0 s1 r1 s2 r2 s3 r3 s4 r4 s5 r5 : Rat) : Six6:=⟨conP s0 r0,conP s1 r1,conP s2 r2,conP s3 r3,conP s4 r4,conP s5 r5⟩
theorem ch5 {s0 r0 s1 r1 s2 r2 s3 r3 s4 r4 s5 r5 : Rat} (h01 : r0 * s1 - s0 * r1 ≠ 0) (h02 : r0 * s2 - s0 * r2 ≠ 0) (h03 : r0 * s3 - s0 * r3 ≠ 0) (h04 : r0 * s4 - s0 * r4 ≠ 0) (h05 : r0 * s5 - s0 * r5 ≠ 0) (h12 : r1 * s2 - s1 * r2 ≠ 0) (h13 : r1 * s3 - s1 * r3 ≠ 0) (h14 : r1 * s4 - s1 * r4 ≠ 0) (h15 : r1 * s5 - s1 * r5 ≠ 0) (h23 : r2 * s3 - s2 * r3 ≠ 0) (h24 : r2 * s4 - s2 * r4 ≠ 0) (h25 : r2 * s5 - s2 * r5 ≠ 0) (h34 : r3 * s4 - s3 * r4 ≠ 0) (h35 : r3 * s5 - s3 * r5 ≠ 0) (h45 : r4 * s5 - s4 * r5 ≠ 0) : (conS s0 r0 s1 r1 s2 r2 s3 r3 s4 r4 s5 r5).Ok:=by
 have L0 : T3.Like (conS s0 r0 s1 r1 s2 r2 s3 r3 s4 r4 s5 r5).l0 (ell s0 r0 s1 r1):=R4 h01
 have L1 : T3.Like (conS s0 r0 s1 r1 s2 r2 s3 r3 s4 r4 s5 r5).l1 (ell s1 r1 s2 r2):=R4 h12
 have L2 : T3.Like (conS s0 r0 s1 r1 s2 r2 s3 r3 s4 r4 s5 r5).l2 (ell s2 r2 s3 r3):=R4 h23
 have L3 : T3.Like (conS s0 r0 s1 r1 s2 r2 s3 r3 s4 r4 s5 r5).l3 (ell s3 r3 s4 r4):=R4 h34
 have L4 : T3.Like (conS s0 r0 s1 r1 s2 r2 s3 r3 s4 r4 s5 r5).l4 (ell s4 r4 s5 r5):=R4 h45
 have L5 : T3.Like (conS s0 r0 s1 r1 s2 r2 s3 r3 s4 r4 s5 r5).l5 (ell s5 r5 s0 r0):=R4 (J0 h05)
 have O0 : ¬ T3.Same (conS s0 r0 s1 r1 s2 r2 s3 r3 s4 r4 s5 r5).l0 (conS s0 r0 s1 r1 s2 r2 s3 r3 s4 r4 s5 r5).l3:=fun e=>ai7 h34 h03 h13 ((L0.same L3).1 e)
 have O1 : ¬ T3.Same (conS s0 r0 s1 r1 s2 r2 s3 r3 s4 r4 s5 r5).l1 (conS s0 r0 s1 r1 s2 r2 s3 r3 s4 r4 s5 r5).l4:=fun e=>ai7 h45 h14 h24 ((L1.same L4).1 e)
 have O2 : ¬ T3.Same (conS s0 r0 s1 r1 s2 r2 s3 r3 s4 r4 s5 r5).l2 (conS s0 r0 s1 r1 s2 r2 s3 r3 s4 r4 s5 r5).l5:=fun e=>ai7 (J0 h05) h25 h35 ((L2.same L5).1 e)
 refine ⟨?_,?_,?_,?_,?_,?_,?_,?_,?_,?_,?_,?_,?_,?_,?_,O0,O1,O2,?_,?_⟩
 ·exact E4 (J0 h01)
 ·exact E4 (J0 h02)
 ·exact E4 (J0 h03)
 ·exact E4 (J0 h04)
 ·exact E4 (J0 h05)
 ·exact E4 (J0 h12)
 ·exact E4 (J0 h13)
 ·exact E4 (J0 h14)
 ·exact E4 (J0 h15)
 ·exact E4 (J0 h23)
 ·exact E4 (J0 h24)
 ·exact E4 (J0 h25)
 ·exact E4 (J0 h34)
 ·exact E4 (J0 h35)
 ·exact E4 (J0 h45)
 ·exact ((L0.cross L3).flat (L1.cross L4) (L2.cross L5)).2 (ci9 s0 r0 s1 r1 s2 r2 s3 r3 s4 r4 s5 r5)
 ·exact cf1 (a44 h01 h02 h12) (a44 (J0 h05) (J0 h15) h01) O0 O1 O2 (E4 h01)
def xP (k : Rat) : T3:=⟨k,0,1⟩
def yP (k : Rat) : T3:=⟨0,k,1⟩
theorem ax4 {a b : Rat} (h : a ≠ b) : ¬ T3.Same (xP a) (xP b):=by
 rintro ⟨_,h2,_⟩
 simp only [xP,T3.cross] at h2
 exact h (by grind)
theorem a08 {a b : Rat} (h : a ≠ b) : ¬ T3.Same (yP a) (yP b):=by
 rintro ⟨h1,_,_⟩
 simp only [yP,T3.cross] at h1
 exact h (by grind)
theorem ah1 {a b : Rat} (h : b ≠ 0) : ¬ T3.Same (xP a) (yP b):=by
 rintro ⟨h1,_,_⟩
 simp only [xP,yP,T3.cross] at h1
 exact h (by grind)
theorem ab1 {a b : Rat} (h : b ≠ 0) : ¬ T3.Same (yP b) (xP a):=fun e=>ah1 h (T3.same_symm e)
theorem a33 {a b d e : Rat} (ha : a ≠ 0) (he : e ≠ 0) (hbd : b ≠ d) : ¬ T3.Same ((xP a).cross (yP b)) ((yP d).cross (xP e)):=by
 rintro ⟨h1,_,_⟩
 simp only [xP,yP,T3.cross] at h1
 refine Q4 (Q4 ha he) (show b - d ≠ 0 from fun h=>hbd (by grind)) ?_
 grind
theorem b16 {a b d e : Rat} (ha : a ≠ 0) (he : e ≠ 0) (hbd : b ≠ d) : ¬ T3.Same ((yP b).cross (xP a)) ((xP e).cross (yP d)):=by
 rintro ⟨h1,_,_⟩
 simp only [xP,yP,T3.cross] at h1
 refine Q4 (Q4 ha he) (show b - d ≠ 0 from fun h=>hbd (by grind)) ?_
 grind
def papS (a b c d e f : Rat) : Six6:=⟨xP a,yP b,xP c,yP d,xP e,yP f⟩
theorem cg4 (a b c d e f : Rat) : T3.Flat (papS a b c d e f).m0 (papS a b c d e f).m1 (papS a b c d e f).m2:=by
 simp only [T3.Flat,T3.cross,T3.dot,papS,Six6.m0,Six6.m1,Six6.m2,Six6.l0,Six6.l1,Six6.l2,Six6.l3,Six6.l4,Six6.l5,xP,yP]
 grind
theorem cl5 {a b c d e f : Rat} (a0 : a ≠ 0) (b0 : b ≠ 0) (c0 : c ≠ 0) (d0 : d ≠ 0) (e0 : e ≠ 0) (f0 : f ≠ 0) (ab : a ≠ b) (ac : a ≠ c) (ad : a ≠ d) (ae : a ≠ e) (af : a ≠ f) (bc : b ≠ c) (bd : b ≠ d) (be : b ≠ e) (bf : b ≠ f) (cd : c ≠ d) (ce : c ≠ e) (cf : c ≠ f) (de : d ≠ e) (df : d ≠ f) (ef : e ≠ f) : (papS a b c d e f).Ok:=by
 have O0 : ¬ T3.Same (papS a b c d e f).l0 (papS a b c d e f).l3:=a33 a0 e0 bd
 have O1 : ¬ T3.Same (papS a b c d e f).l1 (papS a b c d e f).l4:=b16 c0 e0 bf
 have O2 : ¬ T3.Same (papS a b c d e f).l2 (papS a b c d e f).l5:=a33 c0 a0 df
 refine ⟨?_,?_,?_,?_,?_,?_,?_,?_,?_,?_,?_,?_,?_,?_,?_,O0,O1,O2,cg4 a b c d e f,?_⟩
 ·exact ab1 b0
 ·exact ax4 (Ne.symm ac)
 ·exact ab1 d0
 ·exact ax4 (Ne.symm ae)
 ·exact ab1 f0
 ·exact ah1 b0
 ·exact a08 (Ne.symm bd)
 ·exact ah1 b0
 ·exact a08 (Ne.symm bf)
 ·exact ab1 d0
 ·exact ax4 (Ne.symm ce)
 ·exact ab1 f0
 ·exact ah1 d0
 ·exact a08 (Ne.symm df)
 ·exact ab1 f0
 ·refine cf1 ?_ ?_ O0 O1 O2 (ah1 b0)
  ·have e : ((xP a).cross (yP b)).dot (xP c) = b * (a - c):=by simp only [xP,yP,T3.cross,T3.dot]; grind
   show ((xP a).cross (yP b)).dot (xP c) ≠ 0
   rw [e]
   exact Q4 b0 fun h=>ac (by grind)
  ·have e : ((yP f).cross (xP a)).dot (yP b) = a * (b - f) ∨ ((yP f).cross (xP a)).dot (yP b) = a * (f - b):=by
    simp only [xP,yP,T3.cross,T3.dot]; first | (left; grind) | (right; grind)
   show ((yP f).cross (xP a)).dot (yP b) ≠ 0
   rcases e with e | e
   ·rw [e]; exact Q4 a0 fun h=>bf (by grind)
   ·rw [e]; exact Q4 a0 fun h=>bf (by grind)
end Go.Proofs.YtpheooheinfbgaaGreatDoor
end
section
set_option linter.unusedVariables false
set_option linter.unusedSimpArgs false
namespace Go.Proofs.YtpheooheinfbgaaGreatDoor
open Go Go.RowKit
def ml (m : M3) (n : Nat) : Prop:=tl m.a n ∧ tl m.b n ∧ tl m.c n
noncomputable def map4 (a1 a2 a3 b1 b2 b3 c1 c2 c3 : Value) : Value:=(SV.agg [.ag 4 a1,.ag 4 a2,.ag 4 a3,.ag 4 b1,.ag 4 b2,.ag 4 b3,.ag 4 c1,.ag 4 c2,.ag 4 c3]).den fun _=>0
structure QMapC (S : Nat → Prop) (w : World) (m : M3) (a1 a2 a3 b1 b2 b3 c1 c2 c3 : Value) : Prop where
 a1 : QV S w a1 m.a.x
 a2 : QV S w a2 m.a.y
 a3 : QV S w a3 m.a.z
 b1 : QV S w b1 m.b.x
 b2 : QV S w b2 m.b.y
 b3 : QV S w b3 m.b.z
 c1 : QV S w c1 m.c.x
 c2 : QV S w c2 m.c.y
 c3 : QV S w c3 m.c.z
def QMapV (S : Nat → Prop) (w : World) (v : Value) (m : M3) : Prop:=∃ a1 a2 a3 b1 b2 b3 c1 c2 c3,v = map4 a1 a2 a3 b1 b2 b3 c1 c2 c3 ∧ QMapC S w m a1 a2 a3 b1 b2 b3 c1 c2 c3
section
variable {S S' : Nat → Prop} {w w' : World} {v : Value} {m : M3}
theorem QMapV.keep (h : QMapV S w v m) (k : Keeps S w w') : QMapV S w' v m:=let ⟨a1,a2,a3,b1,b2,b3,c1,c2,c3,e,h⟩:=h; ⟨a1,a2,a3,b1,b2,b3,c1,c2,c3,e,⟨h.a1.keep k,h.a2.keep k,h.a3.keep k,h.b1.keep k,h.b2.keep k,h.b3.keep k,h.c1.keep k,h.c2.keep k,h.c3.keep k⟩⟩
theorem QMapV.mono (h : QMapV S w v m) (hs : ∀ k,k < w.heap.size → S k → S' k) : QMapV S' w v m:=let ⟨a1,a2,a3,b1,b2,b3,c1,c2,c3,e,h⟩:=h; ⟨a1,a2,a3,b1,b2,b3,c1,c2,c3,e,⟨h.a1.mono hs,h.a2.mono hs,h.a3.mono hs,h.b1.mono hs,h.b2.mono hs,h.b3.mono hs,h.c1.mono hs,h.c2.mono hs,h.c3.mono hs⟩⟩
theorem QMapC.ok (n : Nat) {a1 a2 a3 b1 b2 b3 c1 c2 c3 : Value} (h : QMapC S w m a1 a2 a3 b1 b2 b3 c1 c2 c3) : (SV.agg [.ag 4 a1,.ag 4 a2,.ag 4 a3,.ag 4 b1,.ag 4 b2,.ag 4 b3,.ag 4 c1,.ag 4 c2,.ag 4 c3]).Ok n:=
 G7 ⟨h.a1.okc,h.a2.okc,h.a3.okc,h.b1.okc,h.b2.okc,h.b3.okc,h.c1.okc,h.c2.okc,h.c3.okc,trivial⟩
theorem QMapV.ok (h : QMapV S w v m) : (SV.one (.ag 36 v)).Ok 0:=by
 obtain ⟨a1,a2,a3,b1,b2,b3,c1,c2,c3,rfl,h⟩:=h
 exact ar8 (h.ok 0) rfl
end
abbrev qmapG (v : Value) (m : M3) : Gh:=⟨fun S w=>QMapV S w v m,fun h k=>h.keep k,fun h k=>h.mono k⟩
theorem ax9 {α : Type} {base : Bs} {hp : List HE} {β : Nat → Nat} {g : Bool} {s : Nat} {F : Value → α → Gh} {S : Nat → Prop} {w : World} {l : List α} (i k n : Nat) (T : TypeId) (vs : List Value) (hM : Mem base hp β w) (hb : nth hp i = some (.blk T (vs.map (Ch.ag s)))) (hl : ∀ x ∈ vs,Lies g s x) (h : ElsV g s F S w ((vs.drop k).take n) l) (hn : l.length = n) (hkn : k + n ≤ vs.length) (hm : n ≤ maxLen) :
  SeqV g s F (fun k=>S k ∨ some k = Value.ownBlock (.slice (some ⟨β i,0,none⟩) 0 0)) w (.slice (some ⟨β i,k * s,none⟩) n n) l:=by
 rw [I9] at hb
 have hB:=(hM.blk i T _ hb).1
 rw [ai9] at hB
 have hc:=L8 hl
 have hle : (k + n) * s ≤ vs.length * s:=Nat.mul_le_mul_right _ hkn
 rw [Nat.add_mul] at hle
 refine ⟨T,(vs.drop k).take n,h.len,h.lies,⟨?_,.inr ⟨β i,k * s,n,(catV vs).toArray,(0,0),by rw [hn],by rw [hn]; exact Nat.le_refl _,hm,.inr rfl,hB,?_,?_⟩⟩,fun j a x ha hx=>((F x a).mono (h.el j a x ha hx) fun k _ hk=>.inl hk)⟩
 ·have h1:=L8 h.lies
  rw [h.len] at h1
  exact h1
 ·simp only [List.size_toArray,hc]
  omega
 ·rw [hn]
  have e1:=bq3 (g:=g) (s:=s) (vs:=vs.drop k) (fun x hx=>hl x (List.mem_of_mem_drop hx)) n
  have e2 : (catV vs).drop (k * s) = catV (vs.drop k):=by
   have h3 : catV vs = catV (vs.take k) ++ catV (vs.drop k):=by unfold catV; rw [← List.flatMap_append,List.take_append_drop]
   have h4:=L8 (g:=g) (s:=s) (vs:=vs.take k) (fun x hx=>hl x (List.mem_of_mem_take hx))
   rw [List.length_take,Nat.min_eq_left (by omega)] at h4
   rw [h3,← h4,List.drop_left]
  show ((catV vs).drop (k * s)).take (n * s) = _
  rw [e2,e1]
  rfl
theorem cf8 {S : Nat → Prop} {w : World} {a b c : Value} {t : T3} (h1 : QV S w a t.x) (h2 : QV S w b t.y) (h3 : QV S w c t.z) : ElsV true 4 qF S w [a,b,c] t.list:=by
 refine ⟨rfl,fun x hx=>?_,fun i q x hq hx=>?_⟩
 ·simp only [List.mem_cons,List.not_mem_nil,or_false] at hx
  rcases hx with rfl | rfl | rfl
  ·exact h1.lies
  ·exact h2.lies
  ·exact h3.lies
 ·match i with
  | 0=>simp [T3.list] at hq hx; subst hq hx; exact h1
  | 1=>simp [T3.list] at hq hx; subst hq hx; exact h2
  | 2=>simp [T3.list] at hq hx; subst hq hx; exact h3
  | i + 3=>simp [T3.list] at hq
set_option maxRecDepth 100000 in
theorem ci7 {S : Nat → Prop} {w : World} {v : Value} {m : M3} {n : Nat} (hS : Up S w) (hv : QMapV S w v m) (hl : ml m n) (hn : n ≤ 100000) :
  Gives Tryz.prog 84 [v] w fun v' w'=>Ext w w' ∧ QV S w' v' m.det:=by
 obtain ⟨a1,a2,a3,b1,b2,b3,c1,c2,c3,rfl,hm⟩:=hv
 refine o8 (E:=env) (S0:=S) (G:=((qG a1 m.a.x).and ((qG a2 m.a.y).and ((qG a3 m.a.z).and ((qG b1 m.b.x).and ((qG b2 m.b.y).and ((qG b3 m.b.z).and ((qG c1 m.c.x).and ((qG c2 m.c.y).and (qG c3 m.c.z)))))))))) (l:=[.agg [.ag 4 a1,.ag 4 a2,.ag 4 a3,.ag 4 b1,.ag 4 b2,.ag 4 b3,.ag 4 c1,.ag 4 c2,.ag 4 c3]]) Tryz.func84 rfl rfl rfl ⟨hm.ok _,trivial⟩ rfl ⟨hm.a1,hm.a2,hm.a3,hm.b1,hm.b2,hm.b3,hm.c1,hm.c2,hm.c3⟩ ?_
 refine l8 8 ⟨a8,hS,b7⟩ (by kernel_rfl) (by kernel_rfl) (by kernel_rfl) ?_
 refine i1 6 (fun η=>(by kernel_rfl)) ?_
 refine h_1 (fun x0=>.one (.ag 12 x0)) (fun x0=>qtriG x0 ((m.b.cross m.c))) (fun η=>(by kernel_rfl)) (fun _ _ _ h=>⟨h.ok,rfl⟩) (fun β η S w hS hs hw hG hd=>have hb1:=hG.2.2.2.1; have hb2:=hG.2.2.2.2.1; have hb3:=hG.2.2.2.2.2.1; have hc1:=hG.2.2.2.2.2.2.1; have hc2:=hG.2.2.2.2.2.2.2.1; have hc3:=hG.2.2.2.2.2.2.2.2; ⟨_,(by kernel_rfl),bw9 hS ⟨_,_,_,rfl,hb1,hb2,hb3⟩ ⟨_,_,_,rfl,hc1,hc2,hc3⟩ hl.2.1 hl.2.2 (by omega)⟩) ?_
 refine h_1 (fun x0=>.one (.ag 4 x0)) (fun x0=>qG x0 (m.det)) (fun η=>(by kernel_rfl)) (fun _ _ _ h=>⟨h.ok,rfl⟩) (fun β η S w hS hs hw hG hd=>have ha1:=hG.1; have ha2:=hG.2.1; have ha3:=hG.2.2.1; ⟨_,(by kernel_rfl),a17 hS ⟨_,_,_,rfl,ha1,ha2,ha3⟩ (dep hd 6 (by kernel_rfl) (by kernel_rfl) : (qtriG (η 6) ((m.b.cross m.c))).p S w) hl.1 (E5 hl.2.1 hl.2.2) (by omega)⟩) ?_
 refine l6 [true,false] (Gh.nil) (by exact fun _ _ h=>trivial) (fun g η=>(qG (η 7) (m.det)).and g) (by kernel_rfl) (fun g η=>(by kernel_rfl)) ?_
 intro η_1
 exact q8 ((η_1 7)) ⟨a8,hS,b7⟩ (by kernel_rfl) rfl (by kernel_rfl) (fun β=>(by kernel_rfl)) (fun S w hs hw hG=>have hd:=hG.1; ⟨hw,hd.mono fun k _ hk=>hs k hk⟩)
set_option maxRecDepth 100000 in
theorem D8 {S : Nat → Prop} {w : World} {v vp : Value} {m : M3} {p : T3} {n k : Nat} (hS : Up S w) (hv : QMapV S w v m) (hp : QTripV S w vp p) (hl : ml m n) (hk : tl p k) (hn : n + k ≤ 100000) :
  Gives Tryz.prog 21 [v,vp] w fun v' w'=>Ext w w' ∧ QTripV S w' v' (m.apply p):=by
 obtain ⟨a1,a2,a3,b1,b2,b3,c1,c2,c3,rfl,hm⟩:=hv
 refine o8 (E:=env) (S0:=S) (G:=((qtriG vp (p)).and ((qG a1 m.a.x).and ((qG a2 m.a.y).and ((qG a3 m.a.z).and ((qG b1 m.b.x).and ((qG b2 m.b.y).and ((qG b3 m.b.z).and ((qG c1 m.c.x).and ((qG c2 m.c.y).and (qG c3 m.c.z))))))))))) (l:=[.agg [.ag 4 a1,.ag 4 a2,.ag 4 a3,.ag 4 b1,.ag 4 b2,.ag 4 b3,.ag 4 c1,.ag 4 c2,.ag 4 c3],.one (.ag 12 vp)]) Tryz.func21 rfl rfl rfl ⟨hm.ok _,hp.ok,trivial⟩ rfl ⟨hp,hm.a1,hm.a2,hm.a3,hm.b1,hm.b2,hm.b3,hm.c1,hm.c2,hm.c3⟩ ?_
 refine A5 ⟨a8,hS,b7⟩ (by kernel_rfl) ?_
 refine l8 7 ⟨a8,hS,b7⟩ (by kernel_rfl) (by kernel_rfl) (by kernel_rfl) ?_
 refine i1 5 (fun η=>(by kernel_rfl)) ?_
 refine h_1 (fun x0=>.one (.ag 4 x0)) (fun x0=>qG x0 ((m.a.dot p))) (fun η=>(by kernel_rfl)) (fun _ _ _ h=>⟨h.ok,rfl⟩) (fun β η S w hS hs hw hG hd=>have hp:=hG.1; have ha1:=hG.2.1; have ha2:=hG.2.2.1; have ha3:=hG.2.2.2.1; ⟨_,(by kernel_rfl),a17 hS ⟨_,_,_,rfl,ha1,ha2,ha3⟩ hp hl.1 hk (by omega)⟩) ?_
 refine i1 1 (fun η=>(by kernel_rfl)) ?_
 refine l6 [true] ((qtriG vp (p)).and ((qG b1 m.b.x).and ((qG b2 m.b.y).and ((qG b3 m.b.z).and ((qG c1 m.c.x).and ((qG c2 m.c.y).and ((qG c3 m.c.z).and (Gh.nil)))))))) (by exact fun _ _ h=>⟨h.1,h.2.2.2.2.1,h.2.2.2.2.2.1,h.2.2.2.2.2.2.1,h.2.2.2.2.2.2.2.1,h.2.2.2.2.2.2.2.2.1,h.2.2.2.2.2.2.2.2.2,trivial⟩) (fun g η=>(qG (η 5) ((m.a.dot p))).and g) (by kernel_rfl) (fun g η=>(by kernel_rfl)) ?_
 intro η_1
 refine l8 7 ⟨a8,hS,b7⟩ (by kernel_rfl) (by kernel_rfl) (by kernel_rfl) ?_
 refine i1 5 (fun η=>(by kernel_rfl)) ?_
 refine h_1 (fun x0=>.one (.ag 4 x0)) (fun x0=>qG x0 ((m.b.dot p))) (fun η=>(by kernel_rfl)) (fun _ _ _ h=>⟨h.ok,rfl⟩) (fun β η S w hS hs hw hG hd=>have hp:=hG.2.1; have hb1:=hG.2.2.1; have hb2:=hG.2.2.2.1; have hb3:=hG.2.2.2.2.1; ⟨_,(by kernel_rfl),a17 hS ⟨_,_,_,rfl,hb1,hb2,hb3⟩ hp hl.2.1 hk (by omega)⟩) ?_
 refine i1 1 (fun η=>(by kernel_rfl)) ?_
 refine l6 [true] ((qG (η_1 5) ((m.a.dot p))).and ((qtriG vp (p)).and ((qG c1 m.c.x).and ((qG c2 m.c.y).and ((qG c3 m.c.z).and (Gh.nil)))))) (by exact fun _ _ h=>⟨h.1,h.2.1,h.2.2.2.2.2.1,h.2.2.2.2.2.2.1,h.2.2.2.2.2.2.2.1,trivial⟩) (fun g η=>(qG (η 5) ((m.b.dot p))).and g) (by kernel_rfl) (fun g η=>(by kernel_rfl)) ?_
 intro η_2
 refine l8 7 ⟨a8,hS,b7⟩ (by kernel_rfl) (by kernel_rfl) (by kernel_rfl) ?_
 refine i1 5 (fun η=>(by kernel_rfl)) ?_
 refine h_1 (fun x0=>.one (.ag 4 x0)) (fun x0=>qG x0 ((m.c.dot p))) (fun η=>(by kernel_rfl)) (fun _ _ _ h=>⟨h.ok,rfl⟩) (fun β η S w hS hs hw hG hd=>have hp:=hG.2.2.1; have hc1:=hG.2.2.2.1; have hc2:=hG.2.2.2.2.1; have hc3:=hG.2.2.2.2.2.1; ⟨_,(by kernel_rfl),a17 hS ⟨_,_,_,rfl,hc1,hc2,hc3⟩ hp hl.2.2 hk (by omega)⟩) ?_
 refine i1 1 (fun η=>(by kernel_rfl)) ?_
 refine l6 [true] ((qG (η_2 5) ((m.b.dot p))).and ((qG (η_1 5) ((m.a.dot p))).and (Gh.nil))) (by exact fun _ _ h=>⟨h.1,h.2.1,trivial⟩) (fun g η=>(qG (η 5) ((m.c.dot p))).and g) (by kernel_rfl) (fun g η=>(by kernel_rfl)) ?_
 intro η_3
 exact q8 (tri4 (η_1 5) (η_2 5) (η_3 5)) ⟨a8,hS,b7⟩ (by kernel_rfl) rfl (by kernel_rfl) (fun β=>(by kernel_rfl)) (fun S w hs hw hG=>have dc:=hG.1; have db:=hG.2.1; have da:=hG.2.2.1; ⟨hw,_,_,_,rfl,da.mono fun k _ hk=>hs k hk,db.mono fun k _ hk=>hs k hk,dc.mono fun k _ hk=>hs k hk⟩)
theorem ap1 {t : T3} {k : Nat} (h : tl t k) (hk : k ≤ 4) : ¬ LongL t.list:=by
 rintro ⟨x,hx,hl⟩
 exact a82 (T8 h x hx) hk hl
theorem bx9 {m : M3} (h : m.a.None) : m.det = 0:=by
 obtain ⟨h1,h2,h3⟩:=h
 unfold M3.det T3.dot
 rw [h1,h2,h3]
 grind
set_option maxRecDepth 100000 in
set_option maxHeartbeats 1000000 in
theorem a90 {S : Nat → Prop} {w : World} {v : Value} {m : M3} {n : Nat} (hS : Up S w) (hv : QMapV S w v m) (hl : ml m n) (hn : n ≤ 4) :
  Gives Tryz.prog 51 [v] w fun v' w'=>v' = .int .i64 (if m.det = 0 then 60 else 0) ∧ Ext w w':=by
 have n1:=ap1 hl.1 hn
 have n2:=ap1 hl.2.1 hn
 have n3:=ap1 hl.2.2 hn
 obtain ⟨a1,a2,a3,b1,b2,b3,c1,c2,c3,rfl,hm⟩:=hv
 have hlies : ∀ x ∈ [a1,a2,a3,b1,b2,b3,c1,c2,c3],Lies true 4 x:=by
  intro x hx
  simp only [List.mem_cons,List.not_mem_nil,or_false] at hx
  rcases hx with rfl | rfl | rfl | rfl | rfl | rfl | rfl | rfl | rfl
  ·exact hm.a1.lies
  ·exact hm.a2.lies
  ·exact hm.a3.lies
  ·exact hm.b1.lies
  ·exact hm.b2.lies
  ·exact hm.b3.lies
  ·exact hm.c1.lies
  ·exact hm.c2.lies
  ·exact hm.c3.lies
 refine o8 (E:=env) (S0:=S) (G:=((qG a1 m.a.x).and ((qG a2 m.a.y).and ((qG a3 m.a.z).and ((qG b1 m.b.x).and ((qG b2 m.b.y).and ((qG b3 m.b.z).and ((qG c1 m.c.x).and ((qG c2 m.c.y).and (qG c3 m.c.z)))))))))) (l:=[.agg [.ag 4 a1,.ag 4 a2,.ag 4 a3,.ag 4 b1,.ag 4 b2,.ag 4 b3,.ag 4 c1,.ag 4 c2,.ag 4 c3]]) Tryz.func51 rfl rfl rfl ⟨hm.ok _,trivial⟩ rfl ⟨hm.a1,hm.a2,hm.a3,hm.b1,hm.b2,hm.b3,hm.c1,hm.c2,hm.c3⟩ ?_
 by_cases hall : m.a.None ∧ m.b.None ∧ m.c.None
 ·refine s_K (.one (.bb true)) ⟨a8,hS,b7⟩ (by kernel_rfl) (by kernel_rfl) (j9 rfl) rfl (fun β S w hS hs hw hG=>have ha1:=hG.1; have ha2:=hG.2.1; have ha3:=hG.2.2.1; ⟨_,(by kernel_rfl),(T4 hS ⟨_,_,_,rfl,ha1,ha2,ha3⟩).mono fun v' w' h=>⟨by rw [h.1,l9 hall.1]; rfl,h.2⟩⟩) ?_
  refine s_K (.one (.bb true)) ⟨a8,hS,b7⟩ (by kernel_rfl) (by kernel_rfl) (j9 rfl) rfl (fun β S w hS hs hw hG=>have hb1:=hG.2.2.2.1; have hb2:=hG.2.2.2.2.1; have hb3:=hG.2.2.2.2.2.1; ⟨_,(by kernel_rfl),(T4 hS ⟨_,_,_,rfl,hb1,hb2,hb3⟩).mono fun v' w' h=>⟨by rw [h.1,l9 hall.2.1]; rfl,h.2⟩⟩) ?_
  refine s_K (.one (.bb true)) ⟨a8,hS,b7⟩ (by kernel_rfl) (by kernel_rfl) (j9 rfl) rfl (fun β S w hS hs hw hG=>have hc1:=hG.2.2.2.2.2.2.1; have hc2:=hG.2.2.2.2.2.2.2.1; have hc3:=hG.2.2.2.2.2.2.2.2; ⟨_,(by kernel_rfl),(T4 hS ⟨_,_,_,rfl,hc1,hc2,hc3⟩).mono fun v' w' h=>⟨by rw [h.1,l9 hall.2.2]; rfl,h.2⟩⟩) ?_
  exact q8 (.int .i64 60) ⟨a8,hS,b7⟩ (by kernel_rfl) rfl (by kernel_rfl) (fun β=>(by kernel_rfl)) (fun S w hs hw hG=>⟨by rw [if_pos (bx9 hall.1)],hw⟩)
 ·refine co6 (ι:=Unit) [(4,16)] (fun x=>[(16,.one (.bb false))]) (fun _=>[]) (fun x=>((qG a1 m.a.x).and ((qG a2 m.a.y).and ((qG a3 m.a.z).and ((qG b1 m.b.x).and ((qG b2 m.b.y).and ((qG b3 m.b.z).and ((qG c1 m.c.x).and ((qG c2 m.c.y).and (qG c3 m.c.z)))))))))) (fun x=>True) ⟨a8,hS,b7⟩ (by kernel_rfl) (fun hso=>?_) (fun x hx=>?_)
  ·by_cases h1 : m.a.None
   ·refine s_K (.one (.bb true)) ⟨a8,hS,b7⟩ (by kernel_rfl) (by kernel_rfl) (j9 rfl) rfl (fun β S w hS hs hw hG=>have ha1:=hG.1; have ha2:=hG.2.1; have ha3:=hG.2.2.1; ⟨_,(by kernel_rfl),(T4 hS ⟨_,_,_,rfl,ha1,ha2,ha3⟩).mono fun v' w' h=>⟨by rw [h.1,l9 h1]; rfl,h.2⟩⟩) ?_
    by_cases h2 : m.b.None
    ·refine s_K (.one (.bb true)) ⟨a8,hS,b7⟩ (by kernel_rfl) (by kernel_rfl) (j9 rfl) rfl (fun β S w hS hs hw hG=>have hb1:=hG.2.2.2.1; have hb2:=hG.2.2.2.2.1; have hb3:=hG.2.2.2.2.2.1; ⟨_,(by kernel_rfl),(T4 hS ⟨_,_,_,rfl,hb1,hb2,hb3⟩).mono fun v' w' h=>⟨by rw [h.1,l9 h2]; rfl,h.2⟩⟩) ?_
     refine s_K (.one (.bb false)) ⟨a8,hS,b7⟩ (by kernel_rfl) (by kernel_rfl) (j9 rfl) rfl (fun β S w hS hs hw hG=>have hc1:=hG.2.2.2.2.2.2.1; have hc2:=hG.2.2.2.2.2.2.2.1; have hc3:=hG.2.2.2.2.2.2.2.2; ⟨_,(by kernel_rfl),(T4 hS ⟨_,_,_,rfl,hc1,hc2,hc3⟩).mono fun v' w' h=>⟨by rw [h.1,j6 fun h3=>hall ⟨h1,h2,h3⟩]; rfl,h.2⟩⟩) ?_
     exact bd3 (()) ⟨a8,hS,b7⟩ hso (by kernel_rfl) (by kernel_rfl) (fun β=>(by kernel_rfl)) (fun β=>(by kernel_rfl)) (by kernel_rfl) (trivial) (fun S w hw hG=>⟨s9 rfl,fun p hp=>by cases hp⟩) (fun S w hw hG=>hG)
    ·refine s_K (.one (.bb false)) ⟨a8,hS,b7⟩ (by kernel_rfl) (by kernel_rfl) (j9 rfl) rfl (fun β S w hS hs hw hG=>have hb1:=hG.2.2.2.1; have hb2:=hG.2.2.2.2.1; have hb3:=hG.2.2.2.2.2.1; ⟨_,(by kernel_rfl),(T4 hS ⟨_,_,_,rfl,hb1,hb2,hb3⟩).mono fun v' w' h=>⟨by rw [h.1,j6 h2]; rfl,h.2⟩⟩) ?_
     exact bd3 (()) ⟨a8,hS,b7⟩ hso (by kernel_rfl) (by kernel_rfl) (fun β=>(by kernel_rfl)) (fun β=>(by kernel_rfl)) (by kernel_rfl) (trivial) (fun S w hw hG=>⟨s9 rfl,fun p hp=>by cases hp⟩) (fun S w hw hG=>hG)
   ·refine s_K (.one (.bb false)) ⟨a8,hS,b7⟩ (by kernel_rfl) (by kernel_rfl) (j9 rfl) rfl (fun β S w hS hs hw hG=>have ha1:=hG.1; have ha2:=hG.2.1; have ha3:=hG.2.2.1; ⟨_,(by kernel_rfl),(T4 hS ⟨_,_,_,rfl,ha1,ha2,ha3⟩).mono fun v' w' h=>⟨by rw [h.1,j6 h1]; rfl,h.2⟩⟩) ?_
    exact bd3 (()) ⟨a8,hS,b7⟩ hso (by kernel_rfl) (by kernel_rfl) (fun β=>(by kernel_rfl)) (fun β=>(by kernel_rfl)) (by kernel_rfl) (trivial) (fun S w hw hG=>⟨s9 rfl,fun p hp=>by cases hp⟩) (fun S w hw hG=>hG)
  refine A5 ⟨a8,hS,b7⟩ (by kernel_rfl) ?_
  refine am8 (.one (.bb false)) ⟨a8,hS,b7⟩ (by kernel_rfl) (by kernel_rfl) (j9 rfl) rfl (fun β S w hS hM hs hw hG=>have ha1:=hG.1; have ha2:=hG.2.1; have ha3:=hG.2.2.1; ⟨_,(by kernel_rfl),(a02 (B8 hS) (ax9 0 0 3 62 [a1,a2,a3,b1,b2,b3,c1,c2,c3] hM (by kernel_rfl) hlies (cf8 ha1 ha2 ha3) rfl (by simp) (by decide)) (fun x hx=>o5 (T8 hl.1 x hx) (by omega))).mono fun v' w' h=>⟨by rw [h.1,j6 n1]; rfl,h.2⟩⟩) ?_
  refine am8 (.one (.bb false)) ⟨a8,hS,b7⟩ (by kernel_rfl) (by kernel_rfl) (j9 rfl) rfl (fun β S w hS hM hs hw hG=>have hb1:=hG.2.2.2.1; have hb2:=hG.2.2.2.2.1; have hb3:=hG.2.2.2.2.2.1; ⟨_,(by kernel_rfl),(a02 (B8 hS) (ax9 0 3 3 62 [a1,a2,a3,b1,b2,b3,c1,c2,c3] hM (by kernel_rfl) hlies (cf8 hb1 hb2 hb3) rfl (by simp) (by decide)) (fun x hx=>o5 (T8 hl.2.1 x hx) (by omega))).mono fun v' w' h=>⟨by rw [h.1,j6 n2]; rfl,h.2⟩⟩) ?_
  refine am8 (.one (.bb false)) ⟨a8,hS,b7⟩ (by kernel_rfl) (by kernel_rfl) (j9 rfl) rfl (fun β S w hS hM hs hw hG=>have hc1:=hG.2.2.2.2.2.2.1; have hc2:=hG.2.2.2.2.2.2.2.1; have hc3:=hG.2.2.2.2.2.2.2.2; ⟨_,(by kernel_rfl),(a02 (B8 hS) (ax9 0 6 3 62 [a1,a2,a3,b1,b2,b3,c1,c2,c3] hM (by kernel_rfl) hlies (cf8 hc1 hc2 hc3) rfl (by simp) (by decide)) (fun x hx=>o5 (T8 hl.2.2 x hx) (by omega))).mono fun v' w' h=>⟨by rw [h.1,j6 n3]; rfl,h.2⟩⟩) ?_
  refine s_1 (fun x0=>.one (.ag 4 x0)) (fun x0=>qG x0 (m.det)) ⟨a8,hS,b7⟩ (by kernel_rfl) (by kernel_rfl) (fun _ _ _ h=>⟨h.ok,rfl⟩) (fun β S w hS hs hw hG=>have ha1:=hG.1; have ha2:=hG.2.1; have ha3:=hG.2.2.1; have hb1:=hG.2.2.2.1; have hb2:=hG.2.2.2.2.1; have hb3:=hG.2.2.2.2.2.1; have hc1:=hG.2.2.2.2.2.2.1; have hc2:=hG.2.2.2.2.2.2.2.1; have hc3:=hG.2.2.2.2.2.2.2.2; ⟨_,(by kernel_rfl),ci7 hS ⟨_,_,_,_,_,_,_,_,_,rfl,⟨ha1,ha2,ha3,hb1,hb2,hb3,hc1,hc2,hc3⟩⟩ hl (by omega)⟩) ?_
  intro d
  refine s_K (.one (.int .i64 m.det.num.sign)) ⟨a8,hS,b7⟩ (by kernel_rfl) (by kernel_rfl) (j9 rfl) rfl (fun β S w hS hs hw hG=>have hd:=hG.1; ⟨_,(by kernel_rfl),a16 hd⟩) ?_
  refine X3 (p:=m.det.num.sign = 0) ⟨a8,hS,b7⟩ (by kernel_rfl) (by kernel_rfl) (by kernel_rfl) (fun h0=>?_) (fun h0=>?_)
  ·exact q8 (.int .i64 60) ⟨a8,hS,b7⟩ (by kernel_rfl) rfl (by kernel_rfl) (fun β=>(by kernel_rfl)) (fun S w hs hw hG=>⟨by rw [if_pos (W6.1 h0)],hw⟩)
  ·exact q8 (.int .i64 0) ⟨a8,hS,b7⟩ (by kernel_rfl) rfl (by kernel_rfl) (fun β=>(by kernel_rfl)) (fun S w hs hw hG=>⟨by rw [if_neg fun e=>h0 (W6.2 e)],hw⟩)
end Go.Proofs.YtpheooheinfbgaaGreatDoor
end

/- Part 6. -/
import Derived.Test.YtmjbiocildkhnaaGreatDoorChecksA5
import Derived.Test.YtmjbiocildkhnaaGreatDoorChecksA3
import Derived.Test.YtmjbiocildkhnaaGreatDoorChecksA2
set_option linter.unusedSectionVars false
set_option linter.unusedSimpArgs false
set_option linter.unusedVariables false
set_option maxRecDepth 100000
set_option maxHeartbeats 8000000
section
namespace Go.Proofs.YtmjbiocildkhnaaGreatDoor
open Go Go.RowKit Tryz
theorem cc6 {q : Rat} {k : Nat} (h : rl q k) : (J6 q).length ≤ 18 * k + 5:=by
 unfold J6
 have h1:=al4 q.num
 have h2:=I4 q.num.natAbs (show dl q.num.natAbs ≤ k from h.1)
 have h3:=I4 q.den (show dl q.den ≤ k from h.2)
 rw [List.length_append]
 split
 ·simp; omega
 rw [List.length_cons,Lib.decDigits_length]; omega
theorem c66 {S : Nat → Prop} {w : World} {s : List UInt8} {q : Rat} (hS : Up S w) (hl : s.length ≤ 14000) (h : s = J6 q) : Gives prog 98 [D9 s] w fun v w'=>Ext w w' ∧ (aa5 v q 0).p S w':=
 (c90 hS (by omega)).mono fun v w' ⟨k,hp⟩=>⟨k,by
  rcases hp with ⟨h1,_⟩ | ⟨_,h1,_⟩ | ⟨_,z',h1,r,e,rfl,ht⟩
  ·omega
  ·exact absurd h (h1 q)
  obtain rfl : q = z':=c78 (h.symm.trans h1)
  rcases ht with ⟨_,rfl,h3⟩ | ⟨h2,_⟩
  ·exact ⟨rfl,h3⟩
  exact absurd (c59 (q:=q) (h ▸ Nat.le_trans hl (by decide))) h2⟩
theorem ai0 {S : Nat → Prop} {w : World} {v : Value} {q : Rat} {n : Nat} (hS : Up S w) (h : QV S w v q) (hq : rl q n) (hn : n ≤ 700) :
  Gives prog 42 [v] w fun v' w'=>Ext w w' ∧ RatV S w' v' q:=by
 have hs:=cc6 hq
 refine n7 (E:=env) (S0:=S) (G:=(qG v (q))) (l:=[.one (.ag 4 v)]) func42 rfl rfl rfl ⟨h.ok,trivial⟩ rfl h ?_
 refine A3 (.one (.str (J6 q))) rfl (fun β S w hS hs hw hG=>(kx (a84 hS hG (j7 hq)))) ?_
 refine S4 (fun x0=>pr (.ag 3 (J8 x0)) (.lit .i64 0)) (fun x0=>aa5 x0 (q) 0) (fun _ _ _ h=>S8 h) (fun β S w hS hs hw hG=>(kx (c66 (s:=J6 q) hS (by omega) rfl))) ?_
 intro r
 exact n8 (J8 r) rfl (fun S w hs hw hG=>⟨hw,hG.1.2.mono fun k _ hk=>hs k hk⟩)
theorem D5 {S : Nat → Prop} {w : World} {vp : Value} {p : T3} {n : Nat} (hS : Up S w) (hp : QTripV S w vp p) (hq : tl p n) (hn : n ≤ 700) :
  Gives prog 7 [vp] w fun v' w'=>Ext w w' ∧ TripV S w' v' p:=by
 obtain ⟨a,b,c,rfl,ha,hb,hc⟩:=hp
 refine n7 (E:=env) (S0:=S) (G:=((qG a p.x).and ((qG b p.y).and (qG c p.z)))) (l:=[.agg [.ag 4 a,.ag 4 b,.ag 4 c]]) func7 rfl rfl rfl ⟨F0 ⟨ha.okc,hb.okc,hc.okc,trivial⟩,trivial⟩ rfl ⟨ha,hb,hc⟩ ?_
 refine n9 9 ?_
 refine d7 2 ?_
 refine q6 (fun x0=>.one (.ag 3 x0)) (fun x0=>j8 x0 (p.x)) (fun β η S w hS hs hw hG hd=>(kx (ai0 hS hG.1 hq.1 hn))) ?_
 refine d7 2 ?_
 refine q6 (fun x0=>.one (.ag 3 x0)) (fun x0=>j8 x0 (p.y)) (fun β η S w hS hs hw hG hd=>(kx (ai0 hS hG.2.1 hq.2.1 hn))) ?_
 refine d7 2 ?_
 refine q6 (fun x0=>.one (.ag 3 x0)) (fun x0=>j8 x0 (p.z)) (fun β η S w hS hs hw hG hd=>(kx (ai0 hS hG.2.2 hq.2.2 hn))) ?_
 refine n5 [true,true,true] (Gh.nil) (by exact fun _ _ h=>trivial) (fun g η=>(j8 (η 8) (p.z)).and ((j8 (η 5) (p.y)).and ((j8 (η 2) (p.x)).and g))) (fun g η=>(by kernel_rfl)) ?_
 intro η_1
 exact n8 (as4 (η_1 2) (η_1 5) (η_1 8)) rfl (fun S w hs hw hG=>⟨hw,_,_,_,rfl,hG.2.2.1.mono fun k _ hk=>hs k hk,hG.2.1.mono fun k _ hk=>hs k hk,hG.1.mono fun k _ hk=>hs k hk⟩)
theorem dk0 {S : Nat → Prop} {w : World} {vp vq : Value} {p q : T3} {m : Nat} (ht : Tab w) (hS : Up S w) (hp : TripV S w vp p) (hq : QTripV S w vq q) (hm : tl q m) (hmm : m ≤ 100000) (hnn : ¬ q.None) (he : p = q.normal) :
  Gives prog 10 [vp,vq] w fun v' w'=>v' = .bool true ∧ Ext w w':=by
 have hl0:=K0 (T3.lead_ne hnn)
 have r1 : rl (q.x / q.lead) 400000000000:=j7 (X1 hm.1 (ao7 hm) hl0)
 have r2 : rl (q.y / q.lead) 400000000000:=j7 (X1 hm.2.1 (ao7 hm) hl0)
 have r3 : rl (q.z / q.lead) 400000000000:=j7 (X1 hm.2.2 (ao7 hm) hl0)
 subst he
 obtain ⟨a,b,c,rfl,ha,hb,hc⟩:=hp
 replace ha : RatV S w a (q.x / q.lead):=ha
 replace hb : RatV S w b (q.y / q.lead):=hb
 replace hc : RatV S w c (q.z / q.lead):=hc
 refine n7 (E:=env) (S0:=S) (G:=((o6 vq (q)).and ((j8 a (q.x / q.lead)).and ((j8 b (q.y / q.lead)).and (j8 c (q.z / q.lead)))))) (l:=[.agg [.ag 3 a,.ag 3 b,.ag 3 c],.one (.ag 12 vq)]) func10 rfl rfl rfl ⟨F0 ⟨ha.okc,hb.okc,hc.okc,trivial⟩,hq.ok,trivial⟩ rfl ⟨hq,ha,hb,hc⟩ ?_
 refine S4 (fun x0=>.agg [.ag 4 (cel x0 0 4),.ag 4 (cel x0 4 4),.ag 4 (cel x0 8 4)]) (fun x0=>be7 x0 (q.normal)) (fun _ _ _ h=>cs6 h) (fun β S w hS hs hw hG=>(kx ((co6 hS hG.1 hm (by omega) hnn).mono fun v' w' h=>⟨h.1,dy0 h.2⟩))) ?_
 intro n
 refine r4 ?_
 refine n9 9 ?_
 refine d7 3 ?_
 refine h_K (.one (.str (J6 (q.x / q.lead)))) (fun η=>(by kernel_rfl)) (R2 rfl) rfl (fun β η S w hS hs hw hG hd=>(kx (bf9 (ht.to hw) hG.2.2.1 r1))) ?_
 refine d7 3 ?_
 refine h_K (.one (.str (J6 (q.x / q.lead)))) (fun η=>(by kernel_rfl)) (R2 rfl) rfl (fun β η S w hS hs hw hG hd=>(kx (a84 hS hG.1.2.1 r1))) ?_
 refine Z9 (p:=J6 (q.x / q.lead) ≠ J6 (q.x / q.lead)) false ⟨fun h=>absurd h (fun h=>h rfl),fun h=>by cases h⟩ ?_
 refine n5 [false,false] ((be7 n (q.normal)).and ((j8 b (q.y / q.lead)).and ((j8 c (q.z / q.lead)).and (Gh.nil)))) (by exact fun _ _ h=>⟨h.1,h.2.2.2.1,h.2.2.2.2,trivial⟩) (fun g η=>g) (fun g η=>(by kernel_rfl)) ?_
 intro η_1
 refine n9 9 ?_
 refine d7 3 ?_
 refine h_K (.one (.str (J6 (q.y / q.lead)))) (fun η=>(by kernel_rfl)) (R2 rfl) rfl (fun β η S w hS hs hw hG hd=>(kx (bf9 (ht.to hw) hG.2.1 r2))) ?_
 refine d7 3 ?_
 refine h_K (.one (.str (J6 (q.y / q.lead)))) (fun η=>(by kernel_rfl)) (R2 rfl) rfl (fun β η S w hS hs hw hG hd=>(kx (a84 hS hG.1.2.2.1 r2))) ?_
 refine Z9 (p:=J6 (q.y / q.lead) ≠ J6 (q.y / q.lead)) false ⟨fun h=>absurd h (fun h=>h rfl),fun h=>by cases h⟩ ?_
 refine n5 [false,false] ((be7 n (q.normal)).and ((j8 c (q.z / q.lead)).and (Gh.nil))) (by exact fun _ _ h=>⟨h.1,h.2.2.1,trivial⟩) (fun g η=>g) (fun g η=>(by kernel_rfl)) ?_
 intro η_2
 refine n9 9 ?_
 refine d7 3 ?_
 refine h_K (.one (.str (J6 (q.z / q.lead)))) (fun η=>(by kernel_rfl)) (R2 rfl) rfl (fun β η S w hS hs hw hG hd=>(kx (bf9 (ht.to hw) hG.2.1 r3))) ?_
 refine d7 3 ?_
 refine h_K (.one (.str (J6 (q.z / q.lead)))) (fun η=>(by kernel_rfl)) (R2 rfl) rfl (fun β η S w hS hs hw hG hd=>(kx (a84 hS hG.1.2.2.2 r3))) ?_
 refine Z9 (p:=J6 (q.z / q.lead) ≠ J6 (q.z / q.lead)) false ⟨fun h=>absurd h (fun h=>h rfl),fun h=>by cases h⟩ ?_
 refine n5 [false,false] (Gh.nil) (by exact fun _ _ h=>trivial) (fun g η=>g) (fun g η=>(by kernel_rfl)) ?_
 intro η_3
 exact n8 (.bool true) rfl (fun S w hs hw hG=>⟨rfl,hw⟩)
theorem bo8 {S : Nat → Prop} {w : World} {vp : Value} {p : T3} (hS : Up S w) (hp : TripV S w vp p) (h0 : p.None) :
  Gives prog 9 [vp] w fun v' w'=>v' = .bool true ∧ Ext w w':=by
 obtain ⟨a,b,c,rfl,ha,hb,hc⟩:=hp
 rw [h0.1] at ha
 rw [h0.2.1] at hb
 rw [h0.2.2] at hc
 refine n7 (E:=env) (S0:=S) (G:=((j8 a 0).and ((j8 b 0).and (j8 c 0)))) (l:=[.agg [.ag 3 a,.ag 3 b,.ag 3 c]]) func9 rfl rfl rfl ⟨F0 ⟨ha.okc,hb.okc,hc.okc,trivial⟩,trivial⟩ rfl ⟨ha,hb,hc⟩ ?_
 refine A3 (.one (.lit .i64 0)) rfl (fun β S w hS hs hw hG=>(kx (gK (av5 hG.1) rfl))) ?_
 refine A3 (.one (.lit .i64 0)) rfl (fun β S w hS hs hw hG=>(kx (gK (av5 hG.2.1) rfl))) ?_
 refine A3 (.one (.lit .i64 0)) rfl (fun β S w hS hs hw hG=>(kx (gK (av5 hG.2.2) rfl))) ?_
 exact n8 (.bool true) rfl (fun S w hs hw hG=>⟨rfl,hw⟩)
abbrev I63 (z : Int) : Prop:=-9223372036854775808 ≤ z ∧ z ≤ 9223372036854775807
theorem cx7 {a : Nat → Int} {m : Nat} : (SV.agg [.int .i64 (a 0),.int .i64 (a 1),.int .i64 (a 2),.int .i64 (a 3),.int .i64 (a 4),.int .i64 (a 5)]).Ok m:=F0 ⟨trivial,trivial,trivial,trivial,trivial,trivial,trivial⟩
def b52 (b : Int) : Int:=if b = 0 then 1 else b
def aj5 (a b : Int) : Rat:=(a : Rat) / (b52 b : Rat)
theorem cf4 (b : Int) : b52 b ≠ 0:=by unfold b52; split <;> omega
theorem dh4 (a : Int) {b : Int} (hb : b ≠ 0) : mkRat (a * b.sign) b.natAbs = (a : Rat) / (b : Rat):=by
 have h1 : ((b : Int) : Rat).num ≠ 0:=hb
 rw [ak9 _ _ h1]
 show _ = mkRat (a * (1 : Nat) * b.sign) (1 * b.natAbs)
 rw [Nat.one_mul]
 congr 1
 simp
theorem bc8 {a : Int} (h : I63 a) : zl a ≤ 3:=K8 (k:=3) (by unfold I63 at h; omega)
theorem cu2 {b : Int} (h : I63 b) : I63 (b52 b):=by unfold b52; split <;> omega
theorem an1 {S : Nat → Prop} {w : World} {a b : Int} (hS : Up S w) (ha : I63 a) (hb : I63 b) :
  Gives prog 37 [.int .i64 a,.int .i64 b] w fun v' w'=>Ext w w' ∧ QV S w' v' (aj5 a b):=by
 have hd:=cu2 hb
 refine n7 (E:=env) (S0:=S) (G:=Gh.nil) (l:=[.one (.int .i64 a),.one (.int .i64 b)]) func37 rfl rfl rfl ⟨trivial,trivial,trivial⟩ rfl trivial ?_
 refine a59 (ι:=Int) [(1,1),(5,6)] (fun e=>[(1,.one (.int .i64 e))]) (fun _=>[]) (fun e=>Gh.nil) (fun e=>e = b52 b) ⟨d6,hS,j6⟩ (by kernel_rfl) (fun hso=>?_) (fun e he=>?_)
 ·refine W0 (p:=b = 0) (fun h1=>?_) (fun h1=>?_)
  ·exact J5 (1) hso (by unfold b52; rw [if_pos h1]) (fun S w hw hG=>⟨x9 rfl,fun p hp=>by cases hp⟩) (fun S w hw hG=>hG)
  exact J5 (b) hso (by unfold b52; rw [if_neg h1]) (fun S w hw hG=>⟨x9 rfl,fun p hp=>by cases hp⟩) (fun S w hw hG=>hG)
 subst he
 refine G3 (fun x0=>.one (.ag 4 x0)) (fun x0=>qG x0 ((aj5 a b))) (fun β S w hS hs hw hG=>(kx ((cj6 hS ha.1 ha.2 hd.1 hd.2 (cf4 b) (bc8 ha) (bc8 hd)).mono fun v' w' h=>⟨h.1,by have h2:=h.2; rw [dh4 a (cf4 b)] at h2; exact h2⟩))) ?_
 intro x
 exact n8 (x) rfl (fun S w hs hw hG=>⟨hw,hG.1.mono fun k _ hk=>hs k hk⟩)
noncomputable def a23 (a : Nat → Int) : T3:=⟨aj5 (a 0) (a 1),aj5 (a 2) (a 3),aj5 (a 4) (a 5)⟩
theorem ay5 {S : Nat → Prop} {w : World} {a : Nat → Int} (hS : Up S w) (h : Six a) :
  Gives prog 5 [dz2 a] w fun v' w'=>Ext w w' ∧ QTripV S w' v' (a23 a):=by
 refine n7 (E:=env) (S0:=S) (G:=Gh.nil) (l:=[.agg [.int .i64 (a 0),.int .i64 (a 1),.int .i64 (a 2),.int .i64 (a 3),.int .i64 (a 4),.int .i64 (a 5)]]) func5 rfl rfl rfl ⟨cx7,trivial⟩ rfl trivial ?_
 refine n9 15 ?_
 refine d7 4 ?_
 refine q6 (fun x0=>.one (.ag 4 x0)) (fun x0=>qG x0 ((aj5 (a 0) (a 1)))) (fun β η S w hS hs hw hG hd=>(kx (an1 hS (h 0 (by decide)) (h 1 (by decide))))) ?_
 refine d7 4 ?_
 refine q6 (fun x0=>.one (.ag 4 x0)) (fun x0=>qG x0 ((aj5 (a 2) (a 3)))) (fun β η S w hS hs hw hG hd=>(kx (an1 hS (h 2 (by decide)) (h 3 (by decide))))) ?_
 refine d7 4 ?_
 refine q6 (fun x0=>.one (.ag 4 x0)) (fun x0=>qG x0 ((aj5 (a 4) (a 5)))) (fun β η S w hS hs hw hG hd=>(kx (an1 hS (h 4 (by decide)) (h 5 (by decide))))) ?_
 refine n5 [true,true,true] (Gh.nil) (by exact fun _ _ h=>trivial) (fun g η=>(qG (η 14) ((aj5 (a 4) (a 5)))).and ((qG (η 9) ((aj5 (a 2) (a 3)))).and ((qG (η 4) ((aj5 (a 0) (a 1)))).and g))) (fun g η=>(by kernel_rfl)) ?_
 intro η_1
 exact n8 (bc1 (η_1 4) (η_1 9) (η_1 14)) rfl (fun S w hs hw hG=>⟨hw,_,_,_,rfl,hG.2.2.1.mono fun k _ hk=>hs k hk,hG.2.1.mono fun k _ hk=>hs k hk,hG.1.mono fun k _ hk=>hs k hk⟩)
theorem bn5 {a b : Int} (ha : I63 a) (hb : I63 b) : rl (aj5 a b) 3:=ax0 (bc8 ha) (bc8 (cu2 hb)) (by decide)
theorem ay8 {a : Nat → Int} (h : Six a) : tl (a23 a) 3:=⟨bn5 (h 0 (by decide)) (h 1 (by decide)),bn5 (h 2 (by decide)) (h 3 (by decide)),bn5 (h 4 (by decide)) (h 5 (by decide))⟩
def U7 : List Value:=[.bool false,.slice none 0 0,.slice none 0 0,.bool false]
def RatioV (S : Nat → Prop) (w : World) (v : Value) (q : Rat) (p : Prop) : Prop:=∃ x,v = (SV.agg [.ag 3 x,.tp p]).den (fun _=>0) ∧ RatV S w x q
section
variable {S S' : Nat → Prop} {w w' : World} {v : Value} {q : Rat} {p : Prop}
theorem RatioV.keep (h : RatioV S w v q p) (k : Keeps S w w') : RatioV S w' v q p:=let ⟨x,h1,h2⟩:=h; ⟨x,h1,h2.keep k⟩
theorem RatioV.mono (h : RatioV S w v q p) (hs : ∀ k,k < w.heap.size → S k → S' k) : RatioV S' w v q p:=let ⟨x,h1,h2⟩:=h; ⟨x,h1,h2.mono hs⟩
theorem RatioV.ok (h : RatioV S w v q p) : (SV.one (.ag 4 v)).Ok 0:=by
 obtain ⟨x,rfl,h2⟩:=h
 exact be4 (l:=[.ag 3 x,.tp p]) (F0 (m:=0) ⟨h2.ok,trivial,trivial⟩) rfl
end
theorem bb9 : ∀ v ∈ U7,v.oneCell' = true:=by
 intro v hv
 simp only [U7,List.mem_cons,List.not_mem_nil,or_false] at hv
 rcases hv with rfl | rfl | rfl | rfl <;> rfl
theorem b23 {w : World} {g1 g2 : Nat} : GivesD prog 110 [.pointer (some ⟨g1,0,none⟩),.pointer (some ⟨g2,0,none⟩)] .returning w fun u' w'=>u' = .returning ∧ w' = w:=by
 refine H3 func110 rfl rfl rfl rfl rfl (.inl ⟨rfl,rfl,rfl⟩) ?_
 repeat (first | refine V0 rfl ?_ | refine b6 ?_ | refine b7 ?_ | refine c0 ?_ | refine b8 ?_ | refine c8 ?_ | refine wp_skip ?_ | refine wp_cond_false rfl ?_)
 exact ⟨[],rfl,rfl,rfl⟩
theorem bw3 {w : World} {g1 g2 : Nat} {cs1 : List Value} {e : Value} {E : Int} (h1 : Blk w g1 110 cs1) (hl : cs1.length = 4) (h2 : Blk w g2 44 [e]) :
  GivesD prog 110 [.pointer (some ⟨g1,0,none⟩),.pointer (some ⟨g2,0,none⟩)] (.panicking (H0 E)) w fun u' w'=>settle u' = .returning ∧
   Keeps (fun k=>k ≠ g1 ∧ k ≠ g2) w w' ∧ Blk w' g1 110 U7 ∧ Blk w' g2 44 [.int .i64 E]:=by
 have hne : g1 ≠ g2:=h1.ne h2 (by decide)
 refine H3 func110 rfl rfl rfl rfl rfl (.inr ⟨_,rfl,rfl,rfl⟩) ?_
 repeat (first | refine ae0 rfl ?_ | refine av2 rfl ?_ | refine b6 ?_ | refine b7 ?_ | refine c0 ?_ | refine b8 ?_ | refine c8 ?_ | refine B2 rfl rfl ?_ | refine wp_cond_true rfl ?_)
 refine q8 (cs:=[.int .i64 0]) rfl ?_
 intro w1 g3 k1 hg3 hgs3
 have hl1:=h1.lt
 have hl2:=h2.lt
 refine A9 (us:=[.int .i64 E]) rfl (by conv=>(lhs; whnf)) rfl rfl hg3 rfl (fun v hv=>by rw [List.mem_singleton.1 hv]; rfl) ?_
 intro w2 k2 hg32
 repeat (first | refine av3 rfl ?_ | refine b6 ?_ | refine d8 ?_ | refine b7 ?_ | refine c0 ?_ | refine b9 ?_ | refine b8 ?_ | refine c8 ?_ | refine wp_skip ?_ | refine wp_cond_false rfl ?_)
 refine q8 (cs:=U7) rfl ?_
 intro w3 g5 k3 hg5 hgs5
 have k : Ext w w3:=(Keeps.past k1 k2 hgs3).trans k3
 have hg33:=hg32.to k3
 have hl3:=hg32.lt
 repeat (first | refine b8 ?_ | refine c8 ?_)
 refine ap2 (R:=OneW g1 110 cs1 U7) 4 OneW.trans OneW.drew (by kernel_rfl) (by kernel_rfl) ?_
 apply F7
 ·intro x w1 k1 hd
  refine o9 rfl (hg5.wr k1.1 (by omega)) rfl ?_
  refine b8 ?_
  exact R5 OneW.refl
 apply F7
 ·intro x w1 k1 hd
  refine j5 rfl ?_
  refine b8 ?_
  exact R5 OneW.refl
 apply F7
 ·intro x w1 k1 hd
  refine i1 rfl (hg33.wr k1.1 (by omega)) rfl ?_
  refine b8 ?_
  exact R5 OneW.refl
 refine F7 (e:=EntR.of (fun v w=>Blk w g1 110 U7) (fun v w w' h k=>k.2.2 h)) ?_ ?_
 ·intro x w1 k1 hd
  rcases k1.2.1 (.inl (h1.to k)) with hgx | hgx
  ·refine A9 (us:=U7) rfl (by conv=>(lhs; whnf)) rfl rfl hgx hl bb9 ?_
   intro w12 k12 hg12
   exact b8 (Y5 (OneW.wrote k12 hg12) hg12)
  refine A9 (us:=U7) rfl (by conv=>(lhs; whnf)) rfl rfl hgx rfl bb9 ?_
  intro w12 k12 hg12
  exact b8 (Y5 (OneW.wrote k12 hg12) hg12)
 refine a71 (a92 ?_)
 intro x w12 k12 hall
 have h14 : Blk w12 g1 110 U7:=hall.1
 refine J4 (u:=.int .i64 E) rfl rfl ((h2.to k).wr k12.1 (fun e=>hne e.symm)) (show 0 < 1 by decide) rfl ?_
 intro w5 k5 h25
 repeat (first | refine b8 ?_)
 refine ⟨[],rfl,rfl,?_,h14.wr k5 hne,h25⟩
 exact ((Keeps.of k).trans (k12.1.mono fun i hi=>hi.1)).trans (k5.mono fun i hi=>hi.2)
theorem be1 {S : Nat → Prop} {w : World} {F : FuncId} [ci : CallI prog F] {cap : List Value} {t : Rat} {p : Prop} {E : Int} {Y Z : Prop} (hS : Up S w)
  (h : ∀ S' w',Up S' w' → Ext w w' → (∀ k,S' k → S k) → (∀ k,k < w.heap.size → S k → S' k) → GivesE prog F cap w' (fun v w''=>Ext w' w'' ∧ RatioV S' w'' v t p ∧ Y) fun ch w''=>ch = H0 E ∧ Ext w' w'' ∧ Z) :
  Gives prog 55 [.func (.func F) #[] cap.toArray] w fun v' w'=>Ext w w' ∧ ((∃ x,v' = .tuple #[x,.int .i64 0] ∧ RatioV S w' x t p ∧ Y) ∨ (v' = .tuple #[.agg U7.toArray,.int .i64 E] ∧ Z)):=by
 refine W4 func55 rfl rfl rfl ?_
 refine a90 ?_
 repeat (first | refine b7 ?_)
 refine q8 (cs:=U7) rfl ?_
 intro w1 g1 k1 hg1 hgs1
 skip
 refine q8 (cs:=[.int .i64 0]) rfl ?_
 intro w2 g2 k2 hg2 hgs2
 have hgl:=hg1.lt
 have hgl2:=hg2.lt
 replace hg1:=hg1.to k2
 have k:=k1.trans k2
 have hk1:=k1.size
 have hk2:=k2.size
 have hS2 : Up (fun k=>S k ∧ k ≠ g1 ∧ k ≠ g2) w2:=fun i hi=>⟨hS i (by omega),by omega,by omega⟩
 have hc:=h (fun k=>S k ∧ k ≠ g1 ∧ k ≠ g2) w2 hS2 k (fun _ h=>h.1) (fun i hi hs=>⟨hs,by omega,by omega⟩)
 repeat (first | refine b8 ?_ | refine c8 ?_)
 refine Y1 ?_
 refine a86 ?_ (fun e a ρ w hm hq=>aw2 hm hq)
 repeat (first | refine b6 ?_ | refine b7 ?_ | refine c0 ?_)
 refine av9 (first:=[]) (cap:=cap) rfl hc rfl ?_ ?_
 ·rintro v3 w3 ⟨k3,hf,hy⟩
  obtain ⟨us,hv,hul,hu1⟩:=hf.ok
  skip
  refine A9 (us:=us) rfl (by conv=>(lhs; whnf)) (by rw [hv]; rfl) hul (hg1.to k3) rfl hu1 ?_
  intro w4 k4 hg4
  have hg24:=(hg2.to k3).wr k4 (by omega)
  refine J4 (u:=.int .i64 0) rfl rfl hg24 (show 0 < 1 by decide) rfl ?_
  intro w5 k5 hg5
  have hg45:=hg4.wr k5 (by omega)
  repeat (first | refine b8 ?_ | refine c8 ?_ | refine wp_ret ?_)
  refine b23.mono ?_
  rintro u' w' ⟨rfl,rfl⟩
  refine ⟨rfl,[.agg us.toArray,.int .i64 0],⟨_,_,n6 hg45 hul,⟨_,_,Q0 (by conv=>(lhs; whnf)) hg5,rfl,rfl⟩,rfl⟩,?_⟩
  refine ⟨((Keeps.past (k.trans k3) k4 (by omega)).past k5 (by omega)),.inl ⟨_,rfl,?_,hy⟩⟩
  rw [← hv]
  exact ((hf.keep (k4.mono fun i hi=>hi.2.1)).keep (k5.mono fun i hi=>hi.2.2)).mono fun i _ hi=>hi.1
 rintro ch w3 ⟨rfl,k3,hf⟩
 refine M0 ?_
 refine (bw3 (hg1.to k3) rfl (hg2.to k3)).mono ?_
 rintro u' w' ⟨hu,k4,h1,h2⟩
 refine ⟨hu,[.agg U7.toArray,.int .i64 E],⟨_,_,n6 h1 rfl,⟨_,_,Q0 (by conv=>(lhs; whnf)) h2,rfl,rfl⟩,rfl⟩,?_⟩
 exact ⟨Keeps.later (k.trans k3) k4 (fun i hi _=>⟨by omega,by omega⟩),.inr ⟨rfl,hf⟩⟩
abbrev rrG (v : Value) (a b : Rat) : Gh:=⟨fun S w=>v = .tuple #[K3 v 0,K3 v 1] ∧ RatV S w (K3 v 0) a ∧ RatV S w (K3 v 1) b,fun h k=>⟨h.1,h.2.1.keep k,h.2.2.keep k⟩,fun h k=>⟨h.1,h.2.1.mono k,h.2.2.mono k⟩⟩
theorem c35 {v : Value} {a b : Rat} {S : Nat → Prop} {w : World} (h : (rrG v a b).p S w) : (pr (.ag 3 (K3 v 0)) (.ag 3 (K3 v 1))).Ok 0 ∧ (pr (.ag 3 (K3 v 0)) (.ag 3 (K3 v 1))).den (fun _=>0) = v:=⟨cg7 h.2.1.ok h.2.2.ok,h.1.symm⟩
namespace T3
def over1 (l u : T3) : Rat:=if l.x ≠ 0 then u.x / l.x else if l.y ≠ 0 then u.y / l.y else u.z / l.z
def mPart (p q r : T3) : Rat:=over1 (p.cross q) (r.cross q)
def nPart (p q r : T3) : Rat:=over1 (p.cross q) (p.cross r)
end T3
theorem ay7 {l u : T3} {m n : Nat} (hl : tl l m) (hu : tl u n) (hn : ¬ l.None) : rl (T3.over1 l u) (n + m):=by
 unfold T3.over1
 split
 ·exact X1 hu.1 hl.1 (K0 ‹_›)
 split
 ·exact X1 hu.2.1 hl.2.1 (K0 ‹_›)
 rename_i h1 h2
 refine X1 hu.2.2 hl.2.2 (K0 fun h3=>hn ⟨?_,?_,h3⟩)
 ·exact Classical.not_not.1 h1
 exact Classical.not_not.1 h2
theorem c02 {S : Nat → Prop} {w : World} {vp vq vr : Value} {p q r : T3} {m : Nat} (hS : Up S w) (hp : TripV S w vp p) (hq : TripV S w vq q) (hr : TripV S w vr r) (hm : tl p m) (hn : tl q m) (hk : tl r m) (hmm : m ≤ 400) (h1 : (p.cross q).x = 0) (h2 : (p.cross q).y = 0) (h0 : (p.cross q).z ≠ 0) :
  Gives prog 60 [vp,vq,vr] w fun v' w'=>Ext w w' ∧ (rrG v' ((r.cross q).z / (p.cross q).z) ((p.cross r).z / (p.cross q).z)).p S w':=by
 have hc:=y6 hm hn
 have hf1 : R1 ((r.cross q).z / (p.cross q).z):=Q7 (X1 (y6 hk hn).2.2 hc.2.2 (K0 h0)) (by omega)
 have hf2 : R1 ((p.cross r).z / (p.cross q).z):=Q7 (X1 (y6 hm hk).2.2 hc.2.2 (K0 h0)) (by omega)
 have hp0:=hp
 have hq0:=hq
 obtain ⟨a1,b1,c1,rfl,ha1,hb1,hc1⟩:=hp
 obtain ⟨a2,b2,c2,rfl,ha2,hb2,hc2⟩:=hq
 obtain ⟨a3,b3,c3,rfl,ha3,hb3,hc3⟩:=hr
 refine n7 (E:=env) (S0:=S) (G:=((j8 a1 p.x).and ((j8 b1 p.y).and ((j8 c1 p.z).and ((j8 a2 q.x).and ((j8 b2 q.y).and ((j8 c2 q.z).and ((j8 a3 r.x).and ((j8 b3 r.y).and (j8 c3 r.z)))))))))) (l:=[.agg [.ag 3 a1,.ag 3 b1,.ag 3 c1],.agg [.ag 3 a2,.ag 3 b2,.ag 3 c2],.agg [.ag 3 a3,.ag 3 b3,.ag 3 c3]]) func60 rfl rfl rfl ⟨F0 ⟨ha1.okc,hb1.okc,hc1.okc,trivial⟩,F0 ⟨ha2.okc,hb2.okc,hc2.okc,trivial⟩,F0 ⟨ha3.okc,hb3.okc,hc3.okc,trivial⟩,trivial⟩ rfl ⟨ha1,hb1,hc1,ha2,hb2,hc2,ha3,hb3,hc3⟩ ?_
 refine S4 (fun x0=>.agg [.ag 3 (cel x0 0 3),.ag 3 (cel x0 3 3),.ag 3 (cel x0 6 3)]) (fun x0=>S5 x0 ((p.cross q))) (fun _ _ _ h=>P5 h) (fun β S w hS hs hw hG=>(kx ((Q4 hS ⟨_,_,_,rfl,hG.1,hG.2.1,hG.2.2.1⟩ ⟨_,_,_,rfl,hG.2.2.2.1,hG.2.2.2.2.1,hG.2.2.2.2.2.1⟩ hm hn (by omega)).mono fun v' w' h=>⟨h.1,bi4 h.2⟩))) ?_
 intro l
 refine r4 ?_
 refine A3 (.one (.tp ((p.cross q).x = 0))) rfl (fun β S w hS hs hw hG=>(kx (D6 hS hG.1.2.1))) ?_
 refine U9 (p:=(p.cross q).x = 0) (h1) ?_
 refine A3 (.one (.tp ((p.cross q).y = 0))) rfl (fun β S w hS hs hw hG=>(kx (D6 hS hG.1.2.2.1))) ?_
 refine U9 (p:=(p.cross q).y = 0) (h2) ?_
 refine A3 (.one (.tp ((p.cross q).z = 0))) rfl (fun β S w hS hs hw hG=>(kx (D6 hS hG.1.2.2.2))) ?_
 refine Z8 (p:=(p.cross q).z = 0) (h0) ?_
 refine n9 24 ?_
 refine d7 6 ?_
 refine q6 (fun x0=>.one (.ag 3 x0)) (fun x0=>j8 x0 ((r.x * q.y))) (fun β η S w hS hs hw hG hd=>(kx (A1 hS hG.2.2.2.2.2.2.2.1 hG.2.2.2.2.2.1 hk.1 hn.2.1 (by omega)))) ?_
 refine d7 6 ?_
 refine q6 (fun x0=>.one (.ag 3 x0)) (fun x0=>j8 x0 ((r.y * q.x))) (fun β η S w hS hs hw hG hd=>(kx (A1 hS hG.2.2.2.2.2.2.2.2.1 hG.2.2.2.2.1 hk.2.1 hn.1 (by omega)))) ?_
 refine q6 (fun x0=>.one (.ag 3 x0)) (fun x0=>j8 x0 ((-(r.y * q.x)))) (fun β η S w hS hs hw hG hd=>(kx (ah4 (p8 hd 13 : (j8 (η 13) ((r.y * q.x))).p S w)))) ?_
 refine S6 41 3 2 (fun x0=>H5 x0 [r.x * q.y,-(r.y * q.x)]) ⟨d6,hS,j6⟩ (fun η=>(by kernel_rfl)) (fun β η S w x0 w' hS hs hw hG hd hk hrow=>a64 ((p8 hd 6 : (j8 (η 6) ((r.x * q.y))).p S w).to hk) ((p8 hd 14 : (j8 (η 14) ((-(r.y * q.x)))).p S w).to hk) (kc hrow (by kernel_rfl))) ?_
 refine q6 (fun x0=>.one (.ag 3 x0)) (fun x0=>j8 x0 (((r.cross q).z))) (fun β η S w hS hs hw hG hd=>(kx (X7 (m:=m + m) (U5 _ _) hS (p8 hd 15 : (H5 (η 15) [r.x * q.y,-(r.y * q.x)]).p S w) (a35 (r7 hk.1 hn.2.1) (ae5 (r7 hk.2.1 hn.1))) (by simp only [List.length]; omega)))) ?_
 refine d7 3 ?_
 refine h_1 (fun x0=>pr (.ag 3 (J8 x0)) (.lit .i64 0)) (fun x0=>aa5 x0 (((r.cross q).z / (p.cross q).z)) 0) (fun η=>(by kernel_rfl)) (fun _ _ _ h=>S8 h) (fun β η S w hS hs hw hG hd=>(kx (aq6 hf1 (ak6 hS (p8 hd 16 : (j8 (η 16) (((r.cross q).z))).p S w) hG.1.2.2.2 (j7 (y6 hk hn).2.2) (j7 hc.2.2) (K0 h0))))) ?_
 refine d7 2 ?_
 refine q6 (fun x0=>.one (.ag 3 x0)) (fun x0=>j8 x0 (((r.cross q).z / (p.cross q).z))) (fun β η S w hS hs hw hG hd=>(kx (Y0 hS (p8 hd 20 : (aa5 (η 20) (((r.cross q).z / (p.cross q).z)) 0).p S w).2))) ?_
 refine n5 [true,false,false,false,false,false,false] ((S5 l ((p.cross q))).and ((j8 a1 p.x).and ((j8 b1 p.y).and ((j8 a3 r.x).and ((j8 b3 r.y).and (Gh.nil)))))) (by exact fun _ _ h=>⟨h.1,h.2.1,h.2.2.1,h.2.2.2.2.2.2.2.1,h.2.2.2.2.2.2.2.2.1,trivial⟩) (fun g η=>(j8 (η 23) (((r.cross q).z / (p.cross q).z))).and g) (fun g η=>(by kernel_rfl)) ?_
 intro η_1
 refine n9 24 ?_
 refine d7 6 ?_
 refine q6 (fun x0=>.one (.ag 3 x0)) (fun x0=>j8 x0 ((p.x * r.y))) (fun β η S w hS hs hw hG hd=>(kx (A1 hS hG.2.2.1 hG.2.2.2.2.2.1 hm.1 hk.2.1 (by omega)))) ?_
 refine d7 6 ?_
 refine q6 (fun x0=>.one (.ag 3 x0)) (fun x0=>j8 x0 ((p.y * r.x))) (fun β η S w hS hs hw hG hd=>(kx (A1 hS hG.2.2.2.1 hG.2.2.2.2.1 hm.2.1 hk.1 (by omega)))) ?_
 refine q6 (fun x0=>.one (.ag 3 x0)) (fun x0=>j8 x0 ((-(p.y * r.x)))) (fun β η S w hS hs hw hG hd=>(kx (ah4 (p8 hd 13 : (j8 (η 13) ((p.y * r.x))).p S w)))) ?_
 refine S6 41 3 2 (fun x0=>H5 x0 [p.x * r.y,-(p.y * r.x)]) ⟨d6,hS,j6⟩ (fun η=>(by kernel_rfl)) (fun β η S w x0 w' hS hs hw hG hd hk hrow=>a64 ((p8 hd 6 : (j8 (η 6) ((p.x * r.y))).p S w).to hk) ((p8 hd 14 : (j8 (η 14) ((-(p.y * r.x)))).p S w).to hk) (kc hrow (by kernel_rfl))) ?_
 refine q6 (fun x0=>.one (.ag 3 x0)) (fun x0=>j8 x0 (((p.cross r).z))) (fun β η S w hS hs hw hG hd=>(kx (X7 (m:=m + m) (U5 _ _) hS (p8 hd 15 : (H5 (η 15) [p.x * r.y,-(p.y * r.x)]).p S w) (a35 (r7 hm.1 hk.2.1) (ae5 (r7 hm.2.1 hk.1))) (by simp only [List.length]; omega)))) ?_
 refine d7 3 ?_
 refine h_1 (fun x0=>pr (.ag 3 (J8 x0)) (.lit .i64 0)) (fun x0=>aa5 x0 (((p.cross r).z / (p.cross q).z)) 0) (fun η=>(by kernel_rfl)) (fun _ _ _ h=>S8 h) (fun β η S w hS hs hw hG hd=>(kx (aq6 hf2 (ak6 hS (p8 hd 16 : (j8 (η 16) (((p.cross r).z))).p S w) hG.2.1.2.2.2 (j7 (y6 hm hk).2.2) (j7 hc.2.2) (K0 h0))))) ?_
 refine d7 2 ?_
 refine q6 (fun x0=>.one (.ag 3 x0)) (fun x0=>j8 x0 (((p.cross r).z / (p.cross q).z))) (fun β η S w hS hs hw hG hd=>(kx (Y0 hS (p8 hd 20 : (aa5 (η 20) (((p.cross r).z / (p.cross q).z)) 0).p S w).2))) ?_
 refine n5 [true,false,false,false,false,false,false] ((j8 (η_1 23) (((r.cross q).z / (p.cross q).z))).and (Gh.nil)) (by exact fun _ _ h=>⟨h.1,trivial⟩) (fun g η=>(j8 (η 23) (((p.cross r).z / (p.cross q).z))).and g) (fun g η=>(by kernel_rfl)) ?_
 intro η_2
 refine n9 4 ?_
 refine d7 2 ?_
 refine ap7 ⟨d6,hS,j6⟩ (fun η=>(by kernel_rfl)) (fun η=>(by kernel_rfl)) ?_
 refine ap7 ⟨d6,hS,j6⟩ (fun η=>(by kernel_rfl)) (fun η=>(by kernel_rfl)) ?_
 refine n5 [] ((j8 (η_2 23) (((p.cross r).z / (p.cross q).z))).and ((j8 (η_1 23) (((r.cross q).z / (p.cross q).z))).and (Gh.nil))) (by exact fun _ _ h=>⟨h.1,h.2.1,trivial⟩) (fun g η=>g) (fun g η=>(by kernel_rfl)) ?_
 intro η_3
 exact n8 (.tuple #[η_1 23,η_2 23]) rfl (fun S w hs hw hG=>⟨hw,rfl,hG.2.1.mono fun k _ hk=>hs k hk,hG.1.mono fun k _ hk=>hs k hk⟩)
theorem c21 {S : Nat → Prop} {w : World} {vp vq vr : Value} {p q r : T3} {m : Nat} (hS : Up S w) (hp : TripV S w vp p) (hq : TripV S w vq q) (hr : TripV S w vr r) (hm : tl p m) (hn : tl q m) (hk : tl r m) (hmm : m ≤ 400) (h0 : (p.cross q).x ≠ 0) :
  Gives prog 60 [vp,vq,vr] w fun v' w'=>Ext w w' ∧ (rrG v' ((r.cross q).x / (p.cross q).x) ((p.cross r).x / (p.cross q).x)).p S w':=by
 have hc:=y6 hm hn
 have hf1 : R1 ((r.cross q).x / (p.cross q).x):=Q7 (X1 (y6 hk hn).1 hc.1 (K0 h0)) (by omega)
 have hf2 : R1 ((p.cross r).x / (p.cross q).x):=Q7 (X1 (y6 hm hk).1 hc.1 (K0 h0)) (by omega)
 have hp0:=hp
 have hq0:=hq
 obtain ⟨a1,b1,c1,rfl,ha1,hb1,hc1⟩:=hp
 obtain ⟨a2,b2,c2,rfl,ha2,hb2,hc2⟩:=hq
 obtain ⟨a3,b3,c3,rfl,ha3,hb3,hc3⟩:=hr
 refine n7 (E:=env) (S0:=S) (G:=((j8 a1 p.x).and ((j8 b1 p.y).and ((j8 c1 p.z).and ((j8 a2 q.x).and ((j8 b2 q.y).and ((j8 c2 q.z).and ((j8 a3 r.x).and ((j8 b3 r.y).and (j8 c3 r.z)))))))))) (l:=[.agg [.ag 3 a1,.ag 3 b1,.ag 3 c1],.agg [.ag 3 a2,.ag 3 b2,.ag 3 c2],.agg [.ag 3 a3,.ag 3 b3,.ag 3 c3]]) func60 rfl rfl rfl ⟨F0 ⟨ha1.okc,hb1.okc,hc1.okc,trivial⟩,F0 ⟨ha2.okc,hb2.okc,hc2.okc,trivial⟩,F0 ⟨ha3.okc,hb3.okc,hc3.okc,trivial⟩,trivial⟩ rfl ⟨ha1,hb1,hc1,ha2,hb2,hc2,ha3,hb3,hc3⟩ ?_
 refine S4 (fun x0=>.agg [.ag 3 (cel x0 0 3),.ag 3 (cel x0 3 3),.ag 3 (cel x0 6 3)]) (fun x0=>S5 x0 ((p.cross q))) (fun _ _ _ h=>P5 h) (fun β S w hS hs hw hG=>(kx ((Q4 hS ⟨_,_,_,rfl,hG.1,hG.2.1,hG.2.2.1⟩ ⟨_,_,_,rfl,hG.2.2.2.1,hG.2.2.2.2.1,hG.2.2.2.2.2.1⟩ hm hn (by omega)).mono fun v' w' h=>⟨h.1,bi4 h.2⟩))) ?_
 intro l
 refine r4 ?_
 refine A3 (.one (.tp ((p.cross q).x = 0))) rfl (fun β S w hS hs hw hG=>(kx (D6 hS hG.1.2.1))) ?_
 refine Z8 (p:=(p.cross q).x = 0) (h0) ?_
 refine n9 24 ?_
 refine d7 6 ?_
 refine q6 (fun x0=>.one (.ag 3 x0)) (fun x0=>j8 x0 ((r.y * q.z))) (fun β η S w hS hs hw hG hd=>(kx (A1 hS hG.2.2.2.2.2.2.2.2.1 hG.2.2.2.2.2.2.1 hk.2.1 hn.2.2 (by omega)))) ?_
 refine d7 6 ?_
 refine q6 (fun x0=>.one (.ag 3 x0)) (fun x0=>j8 x0 ((r.z * q.y))) (fun β η S w hS hs hw hG hd=>(kx (A1 hS hG.2.2.2.2.2.2.2.2.2 hG.2.2.2.2.2.1 hk.2.2 hn.2.1 (by omega)))) ?_
 refine q6 (fun x0=>.one (.ag 3 x0)) (fun x0=>j8 x0 ((-(r.z * q.y)))) (fun β η S w hS hs hw hG hd=>(kx (ah4 (p8 hd 13 : (j8 (η 13) ((r.z * q.y))).p S w)))) ?_
 refine S6 41 3 2 (fun x0=>H5 x0 [r.y * q.z,-(r.z * q.y)]) ⟨d6,hS,j6⟩ (fun η=>(by kernel_rfl)) (fun β η S w x0 w' hS hs hw hG hd hk hrow=>a64 ((p8 hd 6 : (j8 (η 6) ((r.y * q.z))).p S w).to hk) ((p8 hd 14 : (j8 (η 14) ((-(r.z * q.y)))).p S w).to hk) (kc hrow (by kernel_rfl))) ?_
 refine q6 (fun x0=>.one (.ag 3 x0)) (fun x0=>j8 x0 (((r.cross q).x))) (fun β η S w hS hs hw hG hd=>(kx (X7 (m:=m + m) (U5 _ _) hS (p8 hd 15 : (H5 (η 15) [r.y * q.z,-(r.z * q.y)]).p S w) (a35 (r7 hk.2.1 hn.2.2) (ae5 (r7 hk.2.2 hn.2.1))) (by simp only [List.length]; omega)))) ?_
 refine d7 3 ?_
 refine h_1 (fun x0=>pr (.ag 3 (J8 x0)) (.lit .i64 0)) (fun x0=>aa5 x0 (((r.cross q).x / (p.cross q).x)) 0) (fun η=>(by kernel_rfl)) (fun _ _ _ h=>S8 h) (fun β η S w hS hs hw hG hd=>(kx (aq6 hf1 (ak6 hS (p8 hd 16 : (j8 (η 16) (((r.cross q).x))).p S w) hG.1.2.1 (j7 (y6 hk hn).1) (j7 hc.1) (K0 h0))))) ?_
 refine d7 2 ?_
 refine q6 (fun x0=>.one (.ag 3 x0)) (fun x0=>j8 x0 (((r.cross q).x / (p.cross q).x))) (fun β η S w hS hs hw hG hd=>(kx (Y0 hS (p8 hd 20 : (aa5 (η 20) (((r.cross q).x / (p.cross q).x)) 0).p S w).2))) ?_
 refine n5 [true,false,false,false,false,false,false] ((S5 l ((p.cross q))).and ((j8 b1 p.y).and ((j8 c1 p.z).and ((j8 b3 r.y).and ((j8 c3 r.z).and (Gh.nil)))))) (by exact fun _ _ h=>⟨h.1,h.2.2.1,h.2.2.2.1,h.2.2.2.2.2.2.2.2.1,h.2.2.2.2.2.2.2.2.2,trivial⟩) (fun g η=>(j8 (η 23) (((r.cross q).x / (p.cross q).x))).and g) (fun g η=>(by kernel_rfl)) ?_
 intro η_1
 refine n9 24 ?_
 refine d7 6 ?_
 refine q6 (fun x0=>.one (.ag 3 x0)) (fun x0=>j8 x0 ((p.y * r.z))) (fun β η S w hS hs hw hG hd=>(kx (A1 hS hG.2.2.1 hG.2.2.2.2.2.1 hm.2.1 hk.2.2 (by omega)))) ?_
 refine d7 6 ?_
 refine q6 (fun x0=>.one (.ag 3 x0)) (fun x0=>j8 x0 ((p.z * r.y))) (fun β η S w hS hs hw hG hd=>(kx (A1 hS hG.2.2.2.1 hG.2.2.2.2.1 hm.2.2 hk.2.1 (by omega)))) ?_
 refine q6 (fun x0=>.one (.ag 3 x0)) (fun x0=>j8 x0 ((-(p.z * r.y)))) (fun β η S w hS hs hw hG hd=>(kx (ah4 (p8 hd 13 : (j8 (η 13) ((p.z * r.y))).p S w)))) ?_
 refine S6 41 3 2 (fun x0=>H5 x0 [p.y * r.z,-(p.z * r.y)]) ⟨d6,hS,j6⟩ (fun η=>(by kernel_rfl)) (fun β η S w x0 w' hS hs hw hG hd hk hrow=>a64 ((p8 hd 6 : (j8 (η 6) ((p.y * r.z))).p S w).to hk) ((p8 hd 14 : (j8 (η 14) ((-(p.z * r.y)))).p S w).to hk) (kc hrow (by kernel_rfl))) ?_
 refine q6 (fun x0=>.one (.ag 3 x0)) (fun x0=>j8 x0 (((p.cross r).x))) (fun β η S w hS hs hw hG hd=>(kx (X7 (m:=m + m) (U5 _ _) hS (p8 hd 15 : (H5 (η 15) [p.y * r.z,-(p.z * r.y)]).p S w) (a35 (r7 hm.2.1 hk.2.2) (ae5 (r7 hm.2.2 hk.2.1))) (by simp only [List.length]; omega)))) ?_
 refine d7 3 ?_
 refine h_1 (fun x0=>pr (.ag 3 (J8 x0)) (.lit .i64 0)) (fun x0=>aa5 x0 (((p.cross r).x / (p.cross q).x)) 0) (fun η=>(by kernel_rfl)) (fun _ _ _ h=>S8 h) (fun β η S w hS hs hw hG hd=>(kx (aq6 hf2 (ak6 hS (p8 hd 16 : (j8 (η 16) (((p.cross r).x))).p S w) hG.2.1.2.1 (j7 (y6 hm hk).1) (j7 hc.1) (K0 h0))))) ?_
 refine d7 2 ?_
 refine q6 (fun x0=>.one (.ag 3 x0)) (fun x0=>j8 x0 (((p.cross r).x / (p.cross q).x))) (fun β η S w hS hs hw hG hd=>(kx (Y0 hS (p8 hd 20 : (aa5 (η 20) (((p.cross r).x / (p.cross q).x)) 0).p S w).2))) ?_
 refine n5 [true,false,false,false,false,false,false] ((j8 (η_1 23) (((r.cross q).x / (p.cross q).x))).and (Gh.nil)) (by exact fun _ _ h=>⟨h.1,trivial⟩) (fun g η=>(j8 (η 23) (((p.cross r).x / (p.cross q).x))).and g) (fun g η=>(by kernel_rfl)) ?_
 intro η_2
 refine n9 4 ?_
 refine d7 2 ?_
 refine ap7 ⟨d6,hS,j6⟩ (fun η=>(by kernel_rfl)) (fun η=>(by kernel_rfl)) ?_
 refine ap7 ⟨d6,hS,j6⟩ (fun η=>(by kernel_rfl)) (fun η=>(by kernel_rfl)) ?_
 refine n5 [] ((j8 (η_2 23) (((p.cross r).x / (p.cross q).x))).and ((j8 (η_1 23) (((r.cross q).x / (p.cross q).x))).and (Gh.nil))) (by exact fun _ _ h=>⟨h.1,h.2.1,trivial⟩) (fun g η=>g) (fun g η=>(by kernel_rfl)) ?_
 intro η_3
 exact n8 (.tuple #[η_1 23,η_2 23]) rfl (fun S w hs hw hG=>⟨hw,rfl,hG.2.1.mono fun k _ hk=>hs k hk,hG.1.mono fun k _ hk=>hs k hk⟩)
theorem c88 {S : Nat → Prop} {w : World} {vp vq vr : Value} {p q r : T3} {m : Nat} (hS : Up S w) (hp : TripV S w vp p) (hq : TripV S w vq q) (hr : TripV S w vr r) (hm : tl p m) (hn : tl q m) (hk : tl r m) (hmm : m ≤ 400) (h1 : (p.cross q).x = 0) (h0 : (p.cross q).y ≠ 0) :
  Gives prog 60 [vp,vq,vr] w fun v' w'=>Ext w w' ∧ (rrG v' ((r.cross q).y / (p.cross q).y) ((p.cross r).y / (p.cross q).y)).p S w':=by
 have hc:=y6 hm hn
 have hf1 : R1 ((r.cross q).y / (p.cross q).y):=Q7 (X1 (y6 hk hn).2.1 hc.2.1 (K0 h0)) (by omega)
 have hf2 : R1 ((p.cross r).y / (p.cross q).y):=Q7 (X1 (y6 hm hk).2.1 hc.2.1 (K0 h0)) (by omega)
 have hp0:=hp
 have hq0:=hq
 obtain ⟨a1,b1,c1,rfl,ha1,hb1,hc1⟩:=hp
 obtain ⟨a2,b2,c2,rfl,ha2,hb2,hc2⟩:=hq
 obtain ⟨a3,b3,c3,rfl,ha3,hb3,hc3⟩:=hr
 refine n7 (E:=env) (S0:=S) (G:=((j8 a1 p.x).and ((j8 b1 p.y).and ((j8 c1 p.z).and ((j8 a2 q.x).and ((j8 b2 q.y).and ((j8 c2 q.z).and ((j8 a3 r.x).and ((j8 b3 r.y).and (j8 c3 r.z)))))))))) (l:=[.agg [.ag 3 a1,.ag 3 b1,.ag 3 c1],.agg [.ag 3 a2,.ag 3 b2,.ag 3 c2],.agg [.ag 3 a3,.ag 3 b3,.ag 3 c3]]) func60 rfl rfl rfl ⟨F0 ⟨ha1.okc,hb1.okc,hc1.okc,trivial⟩,F0 ⟨ha2.okc,hb2.okc,hc2.okc,trivial⟩,F0 ⟨ha3.okc,hb3.okc,hc3.okc,trivial⟩,trivial⟩ rfl ⟨ha1,hb1,hc1,ha2,hb2,hc2,ha3,hb3,hc3⟩ ?_
 refine S4 (fun x0=>.agg [.ag 3 (cel x0 0 3),.ag 3 (cel x0 3 3),.ag 3 (cel x0 6 3)]) (fun x0=>S5 x0 ((p.cross q))) (fun _ _ _ h=>P5 h) (fun β S w hS hs hw hG=>(kx ((Q4 hS ⟨_,_,_,rfl,hG.1,hG.2.1,hG.2.2.1⟩ ⟨_,_,_,rfl,hG.2.2.2.1,hG.2.2.2.2.1,hG.2.2.2.2.2.1⟩ hm hn (by omega)).mono fun v' w' h=>⟨h.1,bi4 h.2⟩))) ?_
 intro l
 refine r4 ?_
 refine A3 (.one (.tp ((p.cross q).x = 0))) rfl (fun β S w hS hs hw hG=>(kx (D6 hS hG.1.2.1))) ?_
 refine U9 (p:=(p.cross q).x = 0) (h1) ?_
 refine A3 (.one (.tp ((p.cross q).y = 0))) rfl (fun β S w hS hs hw hG=>(kx (D6 hS hG.1.2.2.1))) ?_
 refine Z8 (p:=(p.cross q).y = 0) (h0) ?_
 refine n9 24 ?_
 refine d7 6 ?_
 refine q6 (fun x0=>.one (.ag 3 x0)) (fun x0=>j8 x0 ((r.z * q.x))) (fun β η S w hS hs hw hG hd=>(kx (A1 hS hG.2.2.2.2.2.2.2.2.2 hG.2.2.2.2.1 hk.2.2 hn.1 (by omega)))) ?_
 refine d7 6 ?_
 refine q6 (fun x0=>.one (.ag 3 x0)) (fun x0=>j8 x0 ((r.x * q.z))) (fun β η S w hS hs hw hG hd=>(kx (A1 hS hG.2.2.2.2.2.2.2.1 hG.2.2.2.2.2.2.1 hk.1 hn.2.2 (by omega)))) ?_
 refine q6 (fun x0=>.one (.ag 3 x0)) (fun x0=>j8 x0 ((-(r.x * q.z)))) (fun β η S w hS hs hw hG hd=>(kx (ah4 (p8 hd 13 : (j8 (η 13) ((r.x * q.z))).p S w)))) ?_
 refine S6 41 3 2 (fun x0=>H5 x0 [r.z * q.x,-(r.x * q.z)]) ⟨d6,hS,j6⟩ (fun η=>(by kernel_rfl)) (fun β η S w x0 w' hS hs hw hG hd hk hrow=>a64 ((p8 hd 6 : (j8 (η 6) ((r.z * q.x))).p S w).to hk) ((p8 hd 14 : (j8 (η 14) ((-(r.x * q.z)))).p S w).to hk) (kc hrow (by kernel_rfl))) ?_
 refine q6 (fun x0=>.one (.ag 3 x0)) (fun x0=>j8 x0 (((r.cross q).y))) (fun β η S w hS hs hw hG hd=>(kx (X7 (m:=m + m) (U5 _ _) hS (p8 hd 15 : (H5 (η 15) [r.z * q.x,-(r.x * q.z)]).p S w) (a35 (r7 hk.2.2 hn.1) (ae5 (r7 hk.1 hn.2.2))) (by simp only [List.length]; omega)))) ?_
 refine d7 3 ?_
 refine h_1 (fun x0=>pr (.ag 3 (J8 x0)) (.lit .i64 0)) (fun x0=>aa5 x0 (((r.cross q).y / (p.cross q).y)) 0) (fun η=>(by kernel_rfl)) (fun _ _ _ h=>S8 h) (fun β η S w hS hs hw hG hd=>(kx (aq6 hf1 (ak6 hS (p8 hd 16 : (j8 (η 16) (((r.cross q).y))).p S w) hG.1.2.2.1 (j7 (y6 hk hn).2.1) (j7 hc.2.1) (K0 h0))))) ?_
 refine d7 2 ?_
 refine q6 (fun x0=>.one (.ag 3 x0)) (fun x0=>j8 x0 (((r.cross q).y / (p.cross q).y))) (fun β η S w hS hs hw hG hd=>(kx (Y0 hS (p8 hd 20 : (aa5 (η 20) (((r.cross q).y / (p.cross q).y)) 0).p S w).2))) ?_
 refine n5 [true,false,false,false,false,false,false] ((S5 l ((p.cross q))).and ((j8 a1 p.x).and ((j8 c1 p.z).and ((j8 a3 r.x).and ((j8 c3 r.z).and (Gh.nil)))))) (by exact fun _ _ h=>⟨h.1,h.2.1,h.2.2.2.1,h.2.2.2.2.2.2.2.1,h.2.2.2.2.2.2.2.2.2,trivial⟩) (fun g η=>(j8 (η 23) (((r.cross q).y / (p.cross q).y))).and g) (fun g η=>(by kernel_rfl)) ?_
 intro η_1
 refine n9 24 ?_
 refine d7 6 ?_
 refine q6 (fun x0=>.one (.ag 3 x0)) (fun x0=>j8 x0 ((p.z * r.x))) (fun β η S w hS hs hw hG hd=>(kx (A1 hS hG.2.2.2.1 hG.2.2.2.2.1 hm.2.2 hk.1 (by omega)))) ?_
 refine d7 6 ?_
 refine q6 (fun x0=>.one (.ag 3 x0)) (fun x0=>j8 x0 ((p.x * r.z))) (fun β η S w hS hs hw hG hd=>(kx (A1 hS hG.2.2.1 hG.2.2.2.2.2.1 hm.1 hk.2.2 (by omega)))) ?_
 refine q6 (fun x0=>.one (.ag 3 x0)) (fun x0=>j8 x0 ((-(p.x * r.z)))) (fun β η S w hS hs hw hG hd=>(kx (ah4 (p8 hd 13 : (j8 (η 13) ((p.x * r.z))).p S w)))) ?_
 refine S6 41 3 2 (fun x0=>H5 x0 [p.z * r.x,-(p.x * r.z)]) ⟨d6,hS,j6⟩ (fun η=>(by kernel_rfl)) (fun β η S w x0 w' hS hs hw hG hd hk hrow=>a64 ((p8 hd 6 : (j8 (η 6) ((p.z * r.x))).p S w).to hk) ((p8 hd 14 : (j8 (η 14) ((-(p.x * r.z)))).p S w).to hk) (kc hrow (by kernel_rfl))) ?_
 refine q6 (fun x0=>.one (.ag 3 x0)) (fun x0=>j8 x0 (((p.cross r).y))) (fun β η S w hS hs hw hG hd=>(kx (X7 (m:=m + m) (U5 _ _) hS (p8 hd 15 : (H5 (η 15) [p.z * r.x,-(p.x * r.z)]).p S w) (a35 (r7 hm.2.2 hk.1) (ae5 (r7 hm.1 hk.2.2))) (by simp only [List.length]; omega)))) ?_
 refine d7 3 ?_
 refine h_1 (fun x0=>pr (.ag 3 (J8 x0)) (.lit .i64 0)) (fun x0=>aa5 x0 (((p.cross r).y / (p.cross q).y)) 0) (fun η=>(by kernel_rfl)) (fun _ _ _ h=>S8 h) (fun β η S w hS hs hw hG hd=>(kx (aq6 hf2 (ak6 hS (p8 hd 16 : (j8 (η 16) (((p.cross r).y))).p S w) hG.2.1.2.2.1 (j7 (y6 hm hk).2.1) (j7 hc.2.1) (K0 h0))))) ?_
 refine d7 2 ?_
 refine q6 (fun x0=>.one (.ag 3 x0)) (fun x0=>j8 x0 (((p.cross r).y / (p.cross q).y))) (fun β η S w hS hs hw hG hd=>(kx (Y0 hS (p8 hd 20 : (aa5 (η 20) (((p.cross r).y / (p.cross q).y)) 0).p S w).2))) ?_
 refine n5 [true,false,false,false,false,false,false] ((j8 (η_1 23) (((r.cross q).y / (p.cross q).y))).and (Gh.nil)) (by exact fun _ _ h=>⟨h.1,trivial⟩) (fun g η=>(j8 (η 23) (((p.cross r).y / (p.cross q).y))).and g) (fun g η=>(by kernel_rfl)) ?_
 intro η_2
 refine n9 4 ?_
 refine d7 2 ?_
 refine ap7 ⟨d6,hS,j6⟩ (fun η=>(by kernel_rfl)) (fun η=>(by kernel_rfl)) ?_
 refine ap7 ⟨d6,hS,j6⟩ (fun η=>(by kernel_rfl)) (fun η=>(by kernel_rfl)) ?_
 refine n5 [] ((j8 (η_2 23) (((p.cross r).y / (p.cross q).y))).and ((j8 (η_1 23) (((r.cross q).y / (p.cross q).y))).and (Gh.nil))) (by exact fun _ _ h=>⟨h.1,h.2.1,trivial⟩) (fun g η=>g) (fun g η=>(by kernel_rfl)) ?_
 intro η_3
 exact n8 (.tuple #[η_1 23,η_2 23]) rfl (fun S w hs hw hG=>⟨hw,rfl,hG.2.1.mono fun k _ hk=>hs k hk,hG.1.mono fun k _ hk=>hs k hk⟩)
def dm2 (p q : T3) : Prop:=∀ {S : Nat → Prop} {w : World} {vp vq vr : Value} {r : T3} {m : Nat},Up S w → TripV S w vp p → TripV S w vq q → TripV S w vr r → tl p m → tl q m → tl r m → m ≤ 400 →
  Gives prog 60 [vp,vq,vr] w fun v' w'=>Ext w w' ∧ (rrG v' (T3.mPart p q r) (T3.nPart p q r)).p S w'
theorem c45 {S : Nat → Prop} {w : World} {vp vq vr : Value} {p q r : T3} {m : Nat} (hS : Up S w) (hp : TripV S w vp p) (hq : TripV S w vq q) (hr : TripV S w vr r) (hm : tl p m) (hn : tl q m) (hk : tl r m) (hmm : m ≤ 400) (hs0 : ¬ T3.Same p q) :
  Gives prog 60 [vp,vq,vr] w fun v' w'=>Ext w w' ∧ (rrG v' (T3.mPart p q r) (T3.nPart p q r)).p S w':=by
 unfold T3.mPart T3.nPart T3.over1
 by_cases h1 : (p.cross q).x = 0
 ·by_cases h2 : (p.cross q).y = 0
  ·simp only [h1,h2,ne_eq,not_true_eq_false,if_false]
   exact c02 hS hp hq hr hm hn hk hmm h1 h2 fun h3=>hs0 ⟨h1,h2,h3⟩
  simp only [h1,h2,ne_eq,not_true_eq_false,not_false_eq_true,if_false,if_true]
  exact c88 hS hp hq hr hm hn hk hmm h1 h2
 simp only [h1,ne_eq,not_false_eq_true,if_true]
 exact c21 hS hp hq hr hm hn hk hmm h1
theorem ds8 {S : Nat → Prop} {w : World} {a b c d : Value} {p q r s : T3} (h1 : TripV S w a p) (h2 : TripV S w b q) (h3 : TripV S w c r) (h4 : TripV S w d s) : ElsV true 9 at5 S w [a,b,c,d] [p,q,r,s]:=by
 refine ⟨rfl,fun x hx=>?_,fun i t x hq hx=>?_⟩
 ·simp only [List.mem_cons,List.not_mem_nil,or_false] at hx
  rcases hx with rfl | rfl | rfl | rfl
  ·exact h1.lies
  ·exact h2.lies
  ·exact h3.lies
  exact h4.lies
 match i with
 | 0=>simp at hq hx; subst hq hx; exact h1
 | 1=>simp at hq hx; subst hq hx; exact h2
 | 2=>simp at hq hx; subst hq hx; exact h3
 | 3=>simp at hq hx; subst hq hx; exact h4
 | i + 4=>simp at hq
theorem cw3 {p q r s : T3} {P : T3 → Prop} (h1 : P p) (h2 : P q) (h3 : P r) (h4 : P s) : ∀ t ∈ [p,q,r,s],P t:=by
 intro t ht
 simp only [List.mem_cons,List.not_mem_nil,or_false] at ht
 rcases ht with rfl | rfl | rfl | rfl
 ·exact h1
 ·exact h2
 ·exact h3
 exact h4
namespace T3
def ratioQ (p q r s : T3) : Rat:=if nPart p q s = 0 then 0 else (mPart p q s * nPart p q r) / (mPart p q r * nPart p q s)
end T3
theorem du9 {a b : Rat} (ha : a ≠ 0) (hb : b ≠ 0) : a * b ≠ 0:=by
 intro h
 rcases Rat.mul_eq_zero.1 h with h | h
 ·exact ha h
 exact hb h
theorem ck9 {S : Nat → Prop} {w : World} {u1 u2 u3 u4 : Value} {p q r s : T3} {m : Nat} (hpt : dm2 p q) (ht : Tab w) (hS : Up S w) (o1 : u1.oneCell' = true) (o2 : u2.oneCell' = true) (o3 : u3.oneCell' = true) (o4 : u4.oneCell' = true) (h1 : (B3 u1 p).p S w) (h2 : (B3 u2 q).p S w) (h3 : (B3 u3 r).p S w) (h4 : (B3 u4 s).p S w)
  (k1 : tl p m) (k2 : tl q m) (k3 : tl r m) (k4 : tl s m) (hmm : m ≤ 100) (b1 : A6 p = 0) (b2 : A6 q = 0) (b3 : A6 r = 0) (b4 : A6 s = 0) (d1 : ¬ T3.Same p q) (d2 : ¬ T3.Same p r) (d3 : ¬ T3.Same q r) (d4 : T3.Flat p q r) (d5 : T3.Flat p q s) (hm0 : T3.mPart p q r ≠ 0) :
  Gives prog 56 [u1,u2,u3,u4] w fun v' w'=>Ext w w' ∧ RatioV S w' v' (T3.ratioQ p q r s) (T3.nPart p q s = 0):=by
 have rm1 : rl (T3.mPart p q r) (8 * m + 2):=j7 (ay7 (y6 k1 k2) (y6 k3 k2) d1)
 have rn1 : rl (T3.nPart p q r) (8 * m + 2):=j7 (ay7 (y6 k1 k2) (y6 k1 k3) d1)
 have rm2 : rl (T3.mPart p q s) (8 * m + 2):=j7 (ay7 (y6 k1 k2) (y6 k4 k2) d1)
 have rn2 : rl (T3.nPart p q s) (8 * m + 2):=j7 (ay7 (y6 k1 k2) (y6 k1 k4) d1)
 refine n7 (E:=env) (S0:=S) (G:=((B3 u1 p).and ((B3 u2 q).and ((B3 u3 r).and (B3 u4 s))))) (l:=[.one (.val u1),.one (.val u2),.one (.val u3),.one (.val u4)]) func56 rfl rfl rfl ⟨o1,o2,o3,o4,trivial⟩ rfl ⟨h1,h2,h3,h4⟩ ?_
 refine o5 (r6 u1 43 9 true (fun x0=>.one (.ag 9 x0)) (fun x0=>q7 x0 (p)) (fun β S w hM hw hG=>let ⟨y,e1,e2,e3⟩:=hG.1; ⟨S,y,e1,e2,e3⟩) ?_)
 intro y1
 refine o5 (r6 u2 43 9 true (fun x0=>.one (.ag 9 x0)) (fun x0=>q7 x0 (q)) (fun β S w hM hw hG=>let ⟨y,e1,e2,e3⟩:=hG.2.2.1; ⟨S,y,e1,e2,e3⟩) ?_)
 intro y2
 refine o5 (r6 u3 43 9 true (fun x0=>.one (.ag 9 x0)) (fun x0=>q7 x0 (r)) (fun β S w hM hw hG=>let ⟨y,e1,e2,e3⟩:=hG.2.2.2.2.1; ⟨S,y,e1,e2,e3⟩) ?_)
 intro y3
 refine o5 (r6 u4 43 9 true (fun x0=>.one (.ag 9 x0)) (fun x0=>q7 x0 (s)) (fun β S w hM hw hG=>let ⟨y,e1,e2,e3⟩:=hG.2.2.2.2.2.2; ⟨S,y,e1,e2,e3⟩) ?_)
 intro y4
 refine K7 (.und) rfl (fun β S w hS hM hs hw hG=>(kx (R8 (ht.to hw) (r5 hS) (D1 (l:=[p,q,r,s]) 1 43 [y1,y2,y3,y4] hM (by kernel_rfl) (ds8 hG.2.2.2.1 hG.2.2.1 hG.2.1 hG.1) (show 4 ≤ maxLen by decide)) (cw3 (G6 k1 (by omega)) (G6 k2 (by omega)) (G6 k3 (by omega)) (G6 k4 (by omega))) (cw3 b1 b2 b3 b4)))) ?_
 refine o5 (r6 u1 43 9 true (fun x0=>.one (.ag 9 x0)) (fun x0=>q7 x0 (p)) (fun β S w hM hw hG=>let ⟨y,e1,e2,e3⟩:=hG.2.2.2.2.1; ⟨S,y,e1,e2,e3⟩) ?_)
 intro t1
 refine o5 (r6 u2 43 9 true (fun x0=>.one (.ag 9 x0)) (fun x0=>q7 x0 (q)) (fun β S w hM hw hG=>let ⟨y,e1,e2,e3⟩:=hG.2.2.2.2.2.2.1; ⟨S,y,e1,e2,e3⟩) ?_)
 intro t2
 refine o5 (r6 u3 43 9 true (fun x0=>.one (.ag 9 x0)) (fun x0=>q7 x0 (r)) (fun β S w hM hw hG=>let ⟨y,e1,e2,e3⟩:=hG.2.2.2.2.2.2.2.2.1; ⟨S,y,e1,e2,e3⟩) ?_)
 intro t3
 refine A3 (.und) rfl (fun β S w hS hs hw hG=>(kx (b35 hS hG.2.2.1 hG.2.1 hG.1 k1 k2 k3 (by omega) d1 d2 d3 d4))) ?_
 refine o5 (r6 u1 43 9 true (fun x0=>.one (.ag 9 x0)) (fun x0=>q7 x0 (p)) (fun β S w hM hw hG=>let ⟨y,e1,e2,e3⟩:=hG.2.2.2.2.2.2.2.1; ⟨S,y,e1,e2,e3⟩) ?_)
 intro t4
 refine o5 (r6 u2 43 9 true (fun x0=>.one (.ag 9 x0)) (fun x0=>q7 x0 (q)) (fun β S w hM hw hG=>let ⟨y,e1,e2,e3⟩:=hG.2.2.2.2.2.2.2.2.2.1; ⟨S,y,e1,e2,e3⟩) ?_)
 intro t5
 refine o5 (r6 u4 43 9 true (fun x0=>.one (.ag 9 x0)) (fun x0=>q7 x0 (s)) (fun β S w hM hw hG=>let ⟨y,e1,e2,e3⟩:=hG.2.2.2.2.2.2.2.2.2.2.2.2; ⟨S,y,e1,e2,e3⟩) ?_)
 intro t6
 refine A3 (.one (.tp (T3.Flat p q s))) rfl (fun β S w hS hs hw hG=>(kx (a95 hS hG.2.2.1 hG.2.1 hG.1 k1 k2 k4 (by omega)))) ?_
 refine Z8 (p:=¬ T3.Flat p q s) (fun h=>h d5) ?_
 refine o5 (r6 u1 43 9 true (fun x0=>.one (.ag 9 x0)) (fun x0=>q7 x0 (p)) (fun β S w hM hw hG=>let ⟨y,e1,e2,e3⟩:=hG.2.2.2.2.2.2.2.2.2.2.1; ⟨S,y,e1,e2,e3⟩) ?_)
 intro t7
 refine o5 (r6 u2 43 9 true (fun x0=>.one (.ag 9 x0)) (fun x0=>q7 x0 (q)) (fun β S w hM hw hG=>let ⟨y,e1,e2,e3⟩:=hG.2.2.2.2.2.2.2.2.2.2.2.2.1; ⟨S,y,e1,e2,e3⟩) ?_)
 intro t8
 refine o5 (r6 u3 43 9 true (fun x0=>.one (.ag 9 x0)) (fun x0=>q7 x0 (r)) (fun β S w hM hw hG=>let ⟨y,e1,e2,e3⟩:=hG.2.2.2.2.2.2.2.2.2.2.2.2.2.2.1; ⟨S,y,e1,e2,e3⟩) ?_)
 intro t9
 refine S4 (fun x0=>pr (.ag 3 (K3 x0 0)) (.ag 3 (K3 x0 1))) (fun x0=>rrG x0 ((T3.mPart p q r)) ((T3.nPart p q r))) (fun _ _ _ h=>c35 h) (fun β S w hS hs hw hG=>(kx (hpt hS hG.2.2.1 hG.2.1 hG.1 k1 k2 k3 (by omega)))) ?_
 intro a1
 refine o5 (r6 u1 43 9 true (fun x0=>.one (.ag 9 x0)) (fun x0=>q7 x0 (p)) (fun β S w hM hw hG=>let ⟨y,e1,e2,e3⟩:=hG.2.2.2.2.2.2.2.2.2.2.2.2.2.2.1; ⟨S,y,e1,e2,e3⟩) ?_)
 intro ta
 refine o5 (r6 u2 43 9 true (fun x0=>.one (.ag 9 x0)) (fun x0=>q7 x0 (q)) (fun β S w hM hw hG=>let ⟨y,e1,e2,e3⟩:=hG.2.2.2.2.2.2.2.2.2.2.2.2.2.2.2.2.1; ⟨S,y,e1,e2,e3⟩) ?_)
 intro tb
 refine o5 (r6 u4 43 9 true (fun x0=>.one (.ag 9 x0)) (fun x0=>q7 x0 (s)) (fun β S w hM hw hG=>let ⟨y,e1,e2,e3⟩:=hG.2.2.2.2.2.2.2.2.2.2.2.2.2.2.2.2.2.2.2; ⟨S,y,e1,e2,e3⟩) ?_)
 intro tc
 refine S4 (fun x0=>pr (.ag 3 (K3 x0 0)) (.ag 3 (K3 x0 1))) (fun x0=>rrG x0 ((T3.mPart p q s)) ((T3.nPart p q s))) (fun _ _ _ h=>c35 h) (fun β S w hS hs hw hG=>(kx (hpt hS hG.2.2.1 hG.2.1 hG.1 k1 k2 k4 (by omega)))) ?_
 intro a2
 refine A3 (.one (.tp (T3.nPart p q s = 0))) rfl (fun β S w hS hs hw hG=>(kx (D6 hS hG.1.2.2))) ?_
 refine W0 (p:=T3.nPart p q s = 0) (fun hb=>?_) (fun hb=>?_)
 ·exact n8 (.agg #[.bool false,.slice none 0 0,.slice none 0 0,.bool true]) rfl (fun S w hs hw hG=>⟨hw,.agg #[.bool false,.slice none 0 0,.slice none 0 0],by rw [← l9 hb]; rfl,by unfold T3.ratioQ; rw [if_pos hb]; exact I9⟩)
 have hmb:=du9 hm0 hb
 have hf : R1 ((T3.mPart p q s * T3.nPart p q r) / (T3.mPart p q r * T3.nPart p q s)):=Q7 (X1 (r7 rm2 rn1) (r7 rm1 rn2) (K0 hmb)) (by omega)
 refine n9 10 ?_
 refine d7 2 ?_
 refine q6 (fun x0=>.one (.ag 3 x0)) (fun x0=>j8 x0 ((T3.mPart p q s * T3.nPart p q r))) (fun β η S w hS hs hw hG hd=>(kx (A1 hS hG.1.2.1 hG.2.2.2.2.1.2.2 rm2 rn1 (by omega)))) ?_
 refine d7 2 ?_
 refine q6 (fun x0=>.one (.ag 3 x0)) (fun x0=>j8 x0 ((T3.mPart p q r * T3.nPart p q s))) (fun β η S w hS hs hw hG hd=>(kx (A1 hS hG.2.2.2.2.1.2.1 hG.1.2.2 rm1 rn2 (by omega)))) ?_
 refine h_1 (fun x0=>pr (.ag 3 (J8 x0)) (.lit .i64 0)) (fun x0=>aa5 x0 (((T3.mPart p q s * T3.nPart p q r) / (T3.mPart p q r * T3.nPart p q s))) 0) (fun η=>(by kernel_rfl)) (fun _ _ _ h=>S8 h) (fun β η S w hS hs hw hG hd=>(kx (aq6 hf (ak6 hS (p8 hd 2 : (j8 (η 2) ((T3.mPart p q s * T3.nPart p q r))).p S w) (p8 hd 5 : (j8 (η 5) ((T3.mPart p q r * T3.nPart p q s))).p S w) (j7 (r7 rm2 rn1)) (j7 (r7 rm1 rn2)) (K0 hmb))))) ?_
 refine d7 2 ?_
 refine q6 (fun x0=>.one (.ag 3 x0)) (fun x0=>j8 x0 (((T3.mPart p q s * T3.nPart p q r) / (T3.mPart p q r * T3.nPart p q s)))) (fun β η S w hS hs hw hG hd=>(kx (Y0 hS (p8 hd 6 : (aa5 (η 6) (((T3.mPart p q s * T3.nPart p q r) / (T3.mPart p q r * T3.nPart p q s))) 0).p S w).2))) ?_
 refine n5 [true,false,false,false] (Gh.nil) (by exact fun _ _ h=>trivial) (fun g η=>(j8 (η 9) (((T3.mPart p q s * T3.nPart p q r) / (T3.mPart p q r * T3.nPart p q s)))).and g) (fun g η=>(by kernel_rfl)) ?_
 intro η_1
 exact n8 ((SV.agg [.ag 3 (η_1 9),.bb false]).den (fun _=>0)) rfl (fun S w hs hw hG=>⟨hw,η_1 9,by rw [← l6 hb]; rfl,by unfold T3.ratioQ; rw [if_neg hb]; exact hG.1.mono fun k _ hk=>hs k hk⟩)
theorem TripV.to {S : Nat → Prop} {w w' : World} {v : Value} {t : T3} (h : TripV S w v t) (k : Ext w w') : TripV S w' v t:=h.keep (.of k)
theorem au9 {S : Nat → Prop} {w : World} {g : Nat} {v : Value} {t : T3} {T : TypeId} {us : List Value} (hS : S g) (hb : Blk w g T us) (hv : TripV S w v t) (e : v = .agg us.toArray) : (B3 (.pointer (some ⟨g,0,none⟩)) t).p S w:=by
 refine ⟨v,hv.lies,⟨g,0,us.toArray,T,(0,0),rfl,hS,hb,by rw [e]; simp [Value.cells],?_⟩,hv⟩
 rw [e]
 simp [Value.cells]
theorem Gh.at' (G : Gh) {S S' : Nat → Prop} {w w' : World} (h : G.p S w) (hs : ∀ k,k < w.heap.size → S k → S' k) (k : Ext w w') : G.p S' w':=G.keep (G.mono h hs) (.of k)
theorem ad8 {n : Nat} {F : Value → Gh} {S : Nat → Prop} {w : World} {u v : Value} {T : TypeId} (h : (co5 u T (f5 (fun _=>0) [.ag n v])).p S w) (hl : K4 true n v) (hF : (F v).p S w) : (atG true n F u).p S w:=by
 obtain ⟨b,rfl,hs,hB⟩:=h
 rw [ab9] at hB
 exact ⟨v,hl,⟨b,0,v.cells.toList.toArray,T,(0,0),rfl,hs,hB,by simp,by rw [List.drop_zero]; exact List.take_of_length_le (Nat.le_refl _)⟩,hF⟩
abbrev a39 (S : Nat → Prop) (w : World) (Q : (Nat → Prop) → World → Prop) : Prop:=∀ S' w',Up S' w' → Ext w w' → (∀ k,S' k → S k) → (∀ k,k < w.heap.size → S k → S' k) → Q S' w'
namespace T3
def BadR (p q r s : T3) : Prop:=(Same p q ∨ Same p r ∨ Same q r ∨ ¬ Flat p q r) ∨ ¬ Flat p q s
theorem mPart_ne {p q r : T3} (h1 : ¬ Same p q) (h2 : ¬ Same q r) (h3 : Flat p q r) : mPart p q r ≠ 0:=by
 have key : (r.cross q).None → Same q r:=fun ⟨a,b,c⟩=>by
  simp only [cross] at a b c
  refine ⟨?_,?_,?_⟩ <;> simp only [cross] <;> grind
 have hf : (p.cross q).x * (r.cross q).y = (p.cross q).y * (r.cross q).x ∧ (p.cross q).y * (r.cross q).z = (p.cross q).z * (r.cross q).y ∧ (p.cross q).z * (r.cross q).x = (p.cross q).x * (r.cross q).z:=by
  unfold Flat dot at h3
  simp only [cross] at h3 ⊢
  refine ⟨?_,?_,?_⟩ <;> grind
 have dv : ∀ {a b : Rat},b ≠ 0 → a / b = 0 → a = 0:=fun {a b} hb h=>by
  have h4 : a / b * b = a:=Rat.div_mul_cancel hb
  rw [h] at h4
  rw [← h4,Rat.zero_mul]
 intro h
 unfold mPart over1 at h
 split at h
 ·rename_i hx
  have hx0:=dv hx h
  refine h2 (key ⟨hx0,?_,?_⟩)
  ·have e:=hf.1; rw [hx0,Rat.mul_zero] at e; exact (Rat.mul_eq_zero.1 e).resolve_left hx
  have e:=hf.2.2; rw [hx0,Rat.mul_zero] at e; exact (Rat.mul_eq_zero.1 e.symm).resolve_left hx
 rename_i hx
 have hx : (p.cross q).x = 0:=Classical.not_not.1 hx
 split at h
 ·rename_i hy
  have hy0:=dv hy h
  refine h2 (key ⟨?_,hy0,?_⟩)
  ·have e:=hf.1; rw [hx,Rat.zero_mul] at e; exact (Rat.mul_eq_zero.1 e.symm).resolve_left hy
  have e:=hf.2.1; rw [hy0,Rat.mul_zero] at e; exact (Rat.mul_eq_zero.1 e).resolve_left hy
 rename_i hy
 have hy : (p.cross q).y = 0:=Classical.not_not.1 hy
 have hz : (p.cross q).z ≠ 0:=fun hz=>h1 ⟨hx,hy,hz⟩
 have hz0:=dv hz h
 refine h2 (key ⟨?_,?_,hz0⟩)
 ·have e:=hf.2.2; rw [hx,Rat.zero_mul] at e; exact (Rat.mul_eq_zero.1 e).resolve_left hz
 have e:=hf.2.1; rw [hy,Rat.zero_mul] at e; exact (Rat.mul_eq_zero.1 e.symm).resolve_left hz
end T3
open Classical in
noncomputable def ac0 (p q r s : T3) : Int:=if B4 [p,q,r,s] = 0 then (if T3.BadR p q r s then 61 else 0) else B4 [p,q,r,s]
theorem dh5 {p q r s : T3} (h : ac0 p q r s = 0) : B4 [p,q,r,s] = 0 ∧ ¬ T3.BadR p q r s:=by
 unfold ac0 at h
 split at h
 ·split at h
  ·omega
  exact ⟨‹_›,‹_›⟩
 exact absurd h ‹_›
theorem cp7 {S : Nat → Prop} {w : World} {u1 u2 u3 u4 : Value} {p q r s : T3} {m : Nat} (ht : Tab w) (hS : Up S w) (o1 : u1.oneCell' = true) (o2 : u2.oneCell' = true) (o3 : u3.oneCell' = true) (o4 : u4.oneCell' = true) (h1 : (B3 u1 p).p S w) (h2 : (B3 u2 q).p S w) (h3 : (B3 u3 r).p S w) (h4 : (B3 u4 s).p S w)
  (k1 : tl p m) (k2 : tl q m) (k3 : tl r m) (k4 : tl s m) (hmm : m ≤ 100) (e0 : ¬ ac0 p q r s = 0) : Pan prog 56 [u1,u2,u3,u4] w (H0 (ac0 p q r s)):=by
 refine H2 (E:=env) (S0:=S) (G:=((B3 u1 p).and ((B3 u2 q).and ((B3 u3 r).and (B3 u4 s))))) (l:=[.one (.val u1),.one (.val u2),.one (.val u3),.one (.val u4)]) func56 rfl rfl rfl ⟨o1,o2,o3,o4,trivial⟩ rfl ⟨h1,h2,h3,h4⟩ ?_
 refine o5 (r6 u1 43 9 true (fun x0=>.one (.ag 9 x0)) (fun x0=>q7 x0 (p)) (fun β S w hM hw hG=>let ⟨y,e1,e2,e3⟩:=hG.1; ⟨S,y,e1,e2,e3⟩) ?_)
 intro y1
 refine o5 (r6 u2 43 9 true (fun x0=>.one (.ag 9 x0)) (fun x0=>q7 x0 (q)) (fun β S w hM hw hG=>let ⟨y,e1,e2,e3⟩:=hG.2.2.1; ⟨S,y,e1,e2,e3⟩) ?_)
 intro y2
 refine o5 (r6 u3 43 9 true (fun x0=>.one (.ag 9 x0)) (fun x0=>q7 x0 (r)) (fun β S w hM hw hG=>let ⟨y,e1,e2,e3⟩:=hG.2.2.2.2.1; ⟨S,y,e1,e2,e3⟩) ?_)
 intro y3
 refine o5 (r6 u4 43 9 true (fun x0=>.one (.ag 9 x0)) (fun x0=>q7 x0 (s)) (fun β S w hM hw hG=>let ⟨y,e1,e2,e3⟩:=hG.2.2.2.2.2.2; ⟨S,y,e1,e2,e3⟩) ?_)
 intro y4
 by_cases hb : B4 [p,q,r,s] = 0
 ·have e : ac0 p q r s = 61:=by
   unfold ac0 at e0 ⊢
   rw [if_pos hb] at e0 ⊢
   split
   ·rfl
   rename_i g
   rw [if_neg g] at e0
   exact absurd rfl e0
  have hB : T3.BadR p q r s:=Classical.byContradiction fun g=>e0 (by unfold ac0; rw [if_pos hb,if_neg g])
  rw [e]
  refine K7 (.und) rfl (fun β S w hS hM hs hw hG=>(kx (R8 (ht.to hw) (r5 hS) (D1 (l:=[p,q,r,s]) 1 43 [y1,y2,y3,y4] hM (by kernel_rfl) (ds8 hG.2.2.2.1 hG.2.2.1 hG.2.1 hG.1) (show 4 ≤ maxLen by decide)) (cw3 (G6 k1 (by omega)) (G6 k2 (by omega)) (G6 k3 (by omega)) (G6 k4 (by omega))) (bm2 hb)))) ?_
  refine o5 (r6 u1 43 9 true (fun x0=>.one (.ag 9 x0)) (fun x0=>q7 x0 (p)) (fun β S w hM hw hG=>let ⟨y,e1,e2,e3⟩:=hG.2.2.2.2.1; ⟨S,y,e1,e2,e3⟩) ?_)
  intro t1
  refine o5 (r6 u2 43 9 true (fun x0=>.one (.ag 9 x0)) (fun x0=>q7 x0 (q)) (fun β S w hM hw hG=>let ⟨y,e1,e2,e3⟩:=hG.2.2.2.2.2.2.1; ⟨S,y,e1,e2,e3⟩) ?_)
  intro t2
  refine o5 (r6 u3 43 9 true (fun x0=>.one (.ag 9 x0)) (fun x0=>q7 x0 (r)) (fun β S w hM hw hG=>let ⟨y,e1,e2,e3⟩:=hG.2.2.2.2.2.2.2.2.1; ⟨S,y,e1,e2,e3⟩) ?_)
  intro t3
  by_cases hL : T3.Same p q ∨ T3.Same p r ∨ T3.Same q r ∨ ¬ T3.Flat p q r
  ·exact a67 (fun β S w hS hs hw hG=>(kx (K5 (c18 hS hG.2.2.1 hG.2.1 hG.1 k1 k2 k3 (by omega) hL) hw)))
  have d1 : ¬ T3.Same p q:=fun g=>hL (.inl g)
  have d2 : ¬ T3.Same p r:=fun g=>hL (.inr (.inl g))
  have d3 : ¬ T3.Same q r:=fun g=>hL (.inr (.inr (.inl g)))
  have d4 : T3.Flat p q r:=Classical.byContradiction fun g=>hL (.inr (.inr (.inr g)))
  refine A3 (.und) rfl (fun β S w hS hs hw hG=>(kx (b35 hS hG.2.2.1 hG.2.1 hG.1 k1 k2 k3 (by omega) d1 d2 d3 d4))) ?_
  refine o5 (r6 u1 43 9 true (fun x0=>.one (.ag 9 x0)) (fun x0=>q7 x0 (p)) (fun β S w hM hw hG=>let ⟨y,e1,e2,e3⟩:=hG.2.2.2.2.2.2.2.1; ⟨S,y,e1,e2,e3⟩) ?_)
  intro t4
  refine o5 (r6 u2 43 9 true (fun x0=>.one (.ag 9 x0)) (fun x0=>q7 x0 (q)) (fun β S w hM hw hG=>let ⟨y,e1,e2,e3⟩:=hG.2.2.2.2.2.2.2.2.2.1; ⟨S,y,e1,e2,e3⟩) ?_)
  intro t5
  refine o5 (r6 u4 43 9 true (fun x0=>.one (.ag 9 x0)) (fun x0=>q7 x0 (s)) (fun β S w hM hw hG=>let ⟨y,e1,e2,e3⟩:=hG.2.2.2.2.2.2.2.2.2.2.2.2; ⟨S,y,e1,e2,e3⟩) ?_)
  intro t6
  refine A3 (.one (.tp (T3.Flat p q s))) rfl (fun β S w hS hs hw hG=>(kx (a95 hS hG.2.2.1 hG.2.1 hG.1 k1 k2 k4 (by omega)))) ?_
  refine U9 (p:=¬ T3.Flat p q s) (hB.resolve_left hL) ?_
  exact a67 (fun β S w hS hs hw hG=>(kx (K5 (aa0 (e:=61)) hw)))
 have e : ac0 p q r s = B4 [p,q,r,s]:=by unfold ac0; rw [if_neg hb]
 rw [e]
 exact a66 ⟨d6,hS,j6⟩ (by kernel_rfl) (by kernel_rfl) (fun β S w hS hM hs hw hG=>(kx (K5 (b66 (ht.to hw) (r5 hS) (D1 (l:=[p,q,r,s]) 1 43 [y1,y2,y3,y4] hM (by kernel_rfl) (ds8 hG.2.2.2.1 hG.2.2.1 hG.2.1 hG.1) (show 4 ≤ maxLen by decide)) (cw3 (G6 k1 (by omega)) (G6 k2 (by omega)) (G6 k3 (by omega)) (G6 k4 (by omega))) hb) hw)))
theorem d65 {S : Nat → Prop} {w : World} (F : FuncId) [ci : CallI prog F] (cap : List Value) {t : Rat} {p : Prop} {E : Int} (hS : Up S w) (h0 : E = 0 → a39 S w fun S' w'=>Gives prog F cap w' fun v w''=>Ext w' w'' ∧ RatioV S' w'' v t p) (h1 : ¬ E = 0 → a39 S w fun S' w'=>Pan prog F cap w' (H0 E)) :
  Gives prog 55 [.func (.func F) #[] cap.toArray] w fun v' w'=>Ext w w' ∧ ∃ x,v' = .tuple #[x,.int .i64 E] ∧ RatioV S w' x (if E = 0 then t else 0) (E = 0 ∧ p):=by
 by_cases e : E = 0
 ·refine (be1 (F:=F) (cap:=cap) (t:=t) (p:=p) (E:=0) (Y:=True) (Z:=False) hS fun S' w' hS' k' hs hs'=>Gives.toE ((h0 e S' w' hS' k' hs hs').mono fun v w'' h=>⟨h.1,h.2,trivial⟩)).mono ?_
  rintro v' w' ⟨k',h⟩
  obtain ⟨x,rfl,h,_⟩:=h.resolve_right fun h=>h.2
  refine ⟨k',x,by rw [e],?_⟩
  rw [if_pos e,show (E = 0 ∧ p) = p from propext ⟨fun h=>h.2,fun h=>⟨e,h⟩⟩]
  exact h
 refine (be1 (F:=F) (cap:=cap) (t:=t) (p:=p) (E:=E) (Y:=False) (Z:=True) hS fun S' w' hS' k' hs hs'=>(h1 e S' w' hS' k' hs hs').mono (fun _ _ h=>h.elim) fun ch w'' h=>⟨h.1,h.2,trivial⟩).mono ?_
 rintro v' w' ⟨k',⟨x,rfl,h,hf⟩ | ⟨rfl,_⟩⟩
 ·exact hf.elim
 refine ⟨k',_,rfl,?_⟩
 rw [if_neg e]
 refine ⟨.agg #[.bool false,.slice none 0 0,.slice none 0 0],?_,I9⟩
 have e2 : tst (E = 0 ∧ p) = false:=l6 fun h=>e h.1
 show (Value.agg U7.toArray) = _
 rw [show (SV.agg [.ag 3 (.agg #[.bool false,.slice none 0 0,.slice none 0 0]),.tp (E = 0 ∧ p)]).den (fun _=>0) = .agg #[.bool false,.slice none 0 0,.slice none 0 0,.bool (tst (E = 0 ∧ p))] from by simp [SV.den,f5,Ch.cells,Ch.den,Value.cells],e2]
 rfl
noncomputable def c48 (p q r s : T3) : Rat:=if ac0 p q r s = 0 then T3.ratioQ p q r s else 0
def a15 (p q r s : T3) : Prop:=ac0 p q r s = 0 ∧ T3.nPart p q s = 0
theorem bj4 {S : Nat → Prop} {w : World} {vp vq vr vs : Value} {p q r s : T3} {m : Nat} (ht : Tab w) (hS : Up S w) (hp : TripV S w vp p) (hq : TripV S w vq q) (hr : TripV S w vr r) (hs : TripV S w vs s)
  (k1 : tl p m) (k2 : tl q m) (k3 : tl r m) (k4 : tl s m) (hmm : m ≤ 100) :
  Gives prog 13 [vp,vq,vr,vs] w fun v' w'=>Ext w w' ∧ ∃ x,v' = .tuple #[x,.bool (tst (a15 p q r s)),.int .i64 (ac0 p q r s)] ∧ RatV S w' x (c48 p q r s):=by
 unfold a15
 obtain ⟨us1,e1,l1,n1⟩:=hp.ok
 obtain ⟨us2,e2,l2,n2⟩:=hq.ok
 obtain ⟨us3,e3,l3,n3⟩:=hr.ok
 obtain ⟨us4,e4,l4,n4⟩:=hs.ok
 refine l7 func13 rfl rfl rfl ?_
 repeat (first | refine b6 ?_ | refine b7 ?_)
 refine bj8 (v:=vp) (cs:=us1) rfl (by rw [e1]; rfl) ?_
 intro w1 g1 x1 hg1 hgs1
 have y1:=hg1.lt
 refine bj8 (v:=vq) (cs:=us2) rfl (by rw [e2]; rfl) ?_
 intro w2 g2 x2 hg2 hgs2
 have y2:=hg2.lt
 refine bj8 (v:=vr) (cs:=us3) rfl (by rw [e3]; rfl) ?_
 intro w3 g3 x3 hg3 hgs3
 have y3:=hg3.lt
 refine bj8 (v:=vs) (cs:=us4) rfl (by rw [e4]; rfl) ?_
 intro w4 g4 x4 hg4 hgs4
 have y4:=hg4.lt
 refine q8 (cs:=[.bool false,.slice none 0 0,.slice none 0 0]) rfl ?_
 intro w5 g5 x5 hg5 hgs5
 have z1:=x1.size
 have z2:=x2.size
 have z3:=x3.size
 have z4:=x4.size
 have z5:=x5.size
 have K:=(((x1.trans x2).trans x3).trans x4).trans x5
 have hl5:=hg5.lt
 replace hg1:=(((hg1.to x2).to x3).to x4).to x5
 replace hg2:=((hg2.to x3).to x4).to x5
 replace hg3:=(hg3.to x4).to x5
 replace hg4:=hg4.to x5
 have hS2 : Up (fun k=>S k ∧ k ≠ g5) w5:=fun i hi=>⟨hS i (by omega),by omega⟩
 have up : ∀ {v : Value} {t : T3},TripV S w v t → TripV (fun k=>S k ∧ k ≠ g5) w5 v t:=fun h=>(h.mono (S':=fun k=>S k ∧ k ≠ g5) fun i hi hs=>⟨hs,by omega⟩).to K
 have t1:=au9 (S:=fun k=>S k ∧ k ≠ g5) ⟨hS g1 hgs1,by omega⟩ hg1 (up hp) e1
 have t2:=au9 (S:=fun k=>S k ∧ k ≠ g5) ⟨hS g2 (by omega),by omega⟩ hg2 (up hq) e2
 have t3:=au9 (S:=fun k=>S k ∧ k ≠ g5) ⟨hS g3 (by omega),by omega⟩ hg3 (up hr) e3
 have t4:=au9 (S:=fun k=>S k ∧ k ≠ g5) ⟨hS g4 (by omega),by omega⟩ hg4 (up hs) e4
 have key0 : ac0 p q r s = 0 → a39 (fun k=>S k ∧ k ≠ g5) w5 fun S' w'=>Gives prog 56 [.pointer (some ⟨g1,0,none⟩),.pointer (some ⟨g2,0,none⟩),.pointer (some ⟨g3,0,none⟩),.pointer (some ⟨g4,0,none⟩)] w' fun v w''=>Ext w' w'' ∧ RatioV S' w'' v (T3.ratioQ p q r s) (T3.nPart p q s = 0):=by
  intro e S' w' hS' k' _ hs'
  obtain ⟨e1,e2⟩:=dh5 e
  have eb:=bm2 e1
  have d1 : ¬ T3.Same p q:=fun g=>e2 (.inl (.inl g))
  have d2 : ¬ T3.Same p r:=fun g=>e2 (.inl (.inr (.inl g)))
  have d3 : ¬ T3.Same q r:=fun g=>e2 (.inl (.inr (.inr (.inl g))))
  have d4 : T3.Flat p q r:=Classical.byContradiction fun g=>e2 (.inl (.inr (.inr (.inr g))))
  have d5 : T3.Flat p q s:=Classical.byContradiction fun g=>e2 (.inr g)
  exact ck9 (fun {S w vp vq vr r m} a1 a2 a3 a4 a5 a6 a7 a8=>c45 a1 a2 a3 a4 a5 a6 a7 a8 d1) (ht.to (K.trans k')) hS' rfl rfl rfl rfl ((B3 _ p).at' t1 hs' k') ((B3 _ q).at' t2 hs' k') ((B3 _ r).at' t3 hs' k') ((B3 _ s).at' t4 hs' k') k1 k2 k3 k4 hmm (eb p (by simp)) (eb q (by simp)) (eb r (by simp)) (eb s (by simp)) d1 d2 d3 d4 d5 (T3.mPart_ne d1 d3 d4)
 have key1 : ¬ ac0 p q r s = 0 → a39 (fun k=>S k ∧ k ≠ g5) w5 fun S' w'=>Pan prog 56 [.pointer (some ⟨g1,0,none⟩),.pointer (some ⟨g2,0,none⟩),.pointer (some ⟨g3,0,none⟩),.pointer (some ⟨g4,0,none⟩)] w' (H0 (ac0 p q r s)):=by
  intro e S' w' hS' k' _ hs'
  exact cp7 (ht.to (K.trans k')) hS' rfl rfl rfl rfl ((B3 _ p).at' t1 hs' k') ((B3 _ q).at' t2 hs' k') ((B3 _ r).at' t3 hs' k') ((B3 _ s).at' t4 hs' k') k1 k2 k3 k4 hmm e
 repeat (first | refine am5 ?_ | refine b6 ?_ | refine b7 ?_ | refine b9 ?_ | refine b8 ?_)
 refine i6 (d65 56 [.pointer (some ⟨g1,0,none⟩),.pointer (some ⟨g2,0,none⟩),.pointer (some ⟨g3,0,none⟩),.pointer (some ⟨g4,0,none⟩)] hS2 key0 key1) rfl ?_
 rintro v6 w6 ⟨x6,x,rfl,hx⟩
 obtain ⟨y,rfl,hy⟩:=hx
 obtain ⟨ys,ey,ly,ny⟩:=hy.ok
 subst ey
 obtain ⟨c1,c2,c3,rfl⟩ : ∃ c1 c2 c3,ys = [c1,c2,c3]:=by
  match ys,ly with
  | [c1,c2,c3],_=>exact ⟨c1,c2,c3,rfl⟩
 replace hg5:=hg5.to x6
 have z6:=x6.size
 repeat (first | refine c0 ?_ | refine B2 rfl rfl ?_)
 refine q8 (cs:=U7) rfl ?_
 intro w7 g7 x7 hg7 hgs7
 replace hg5:=hg5.to x7
 refine A9 (us:=[c1,c2,c3,.bool (tst (ac0 p q r s = 0 ∧ T3.nPart p q s = 0))]) rfl (by conv=>(lhs; whnf)) rfl rfl hg7 rfl (fun v hv=>by
  simp only [List.mem_cons,List.not_mem_nil,or_false] at hv
  rcases hv with rfl | rfl | rfl | rfl
  ·exact ny _ (by simp)
  ·exact ny _ (by simp)
  ·exact ny _ (by simp)
  rfl) ?_
 intro w8 x8 hg8
 have hne : g7 ≠ g5:=by omega
 replace hg5:=hg5.wr x8 (fun e=>hne e.symm)
 have hy6:=hy.mono (S':=fun k=>(S k ∧ k ≠ g5) ∧ k < w6.heap.size) (fun i hi h=>⟨h,hi⟩)
 have hy8 : RatV (fun k=>(S k ∧ k ≠ g5) ∧ k < w6.heap.size) w8 (.agg #[c1,c2,c3]) (c48 p q r s):=(hy6.keep (.of x7)).keep (x8.mono fun i hi=>by have:=hi.2; omega)
 repeat (first | refine b6 ?_ | refine b9 ?_ | refine b8 ?_)
 refine ap2 (R:=OneW g5 41 [.bool false,.slice none 0 0,.slice none 0 0] [c1,c2,c3]) 7 OneW.trans OneW.drew (by kernel_rfl) (by kernel_rfl) ?_
 apply F7
 ·intro x w1 k1 hd
  refine j5 rfl ?_
  refine b8 ?_
  exact R5 OneW.refl
 apply F7
 ·intro x w1 k1 hd
  refine o8 rfl (hg8.wr k1.1 hne) rfl rfl ?_
  refine b8 ?_
  exact R5 OneW.refl
 apply F7
 ·intro x w1 k1 hd
  refine j5 rfl ?_
  refine b8 ?_
  exact R5 OneW.refl
 apply F7
 ·intro x w1 k1 hd
  refine i1 rfl (hg8.wr k1.1 hne) rfl ?_
  refine b8 ?_
  exact R5 OneW.refl
 apply F7
 ·intro x w1 k1 hd
  refine cc8 rfl ?_
  refine b8 ?_
  exact R5 OneW.refl
 refine F7 (e:=EntR.of (fun v w=>Blk w g5 41 [c1,c2,c3]) (fun v w w' h k=>k.2.2 h)) ?_ ?_
 ·intro x w1 k1 hd
  rcases k1.2.1 (.inl hg5) with hgx | hgx
  ·refine A9 (us:=[c1,c2,c3]) rfl (by conv=>(lhs; whnf)) rfl rfl hgx rfl ny ?_
   intro w12 k12 hg12
   exact b8 (Y5 (OneW.wrote k12 hg12) hg12)
  refine A9 (us:=[c1,c2,c3]) rfl (by conv=>(lhs; whnf)) rfl rfl hgx rfl ny ?_
  intro w12 k12 hg12
  exact b8 (Y5 (OneW.wrote k12 hg12) hg12)
 apply F7
 ·intro x w1 k1 hd
  refine bu5 rfl ?_
  refine b8 ?_
  exact R5 OneW.refl
 refine a71 (a92 ?_)
 intro x w12 k12 hall
 have h14:=hall.2.1
 repeat (first | refine b9 ?_ | refine b8 ?_ | refine c8 ?_ | refine wp_ret ?_)
 refine c04 rfl (n6 h14 rfl) (B0 (by conv=>(lhs; whnf))) (B0 (by conv=>(lhs; whnf))) ⟨?_,_,rfl,?_⟩
 ·exact ((Keeps.past ((K.trans x6).trans x7) x8 (by omega)).past k12.1 (by omega))
 exact (hy8.keep (k12.1.mono fun i hi=>hi.1.2)).mono fun i _ hi=>hi.1.1
abbrev br4 (v : Value) (t : T3) : Gh:=⟨fun S w=>v = .tuple #[K3 v 0,.int .i64 0] ∧ (S5 (K3 v 0) t).p S w,fun h k=>⟨h.1,(S5 _ t).keep h.2 k⟩,fun h k=>⟨h.1,(S5 _ t).mono h.2 k⟩⟩
theorem cn6 {v : Value} {t : T3} {S : Nat → Prop} {w : World} (h : (br4 v t).p S w) : (SV.tup [(true,[.ag 3 (cel (K3 v 0) 0 3),.ag 3 (cel (K3 v 0) 3 3),.ag 3 (cel (K3 v 0) 6 3)]),(false,[.lit .i64 0])]).Ok 0 ∧ (SV.tup [(true,[.ag 3 (cel (K3 v 0) 0 3),.ag 3 (cel (K3 v 0) 3 3),.ag 3 (cel (K3 v 0) 6 3)]),(false,[.lit .i64 0])]).den (fun _=>0) = v:=by
 refine ⟨fun p hp c hc=>?_,?_⟩
 ·simp only [List.mem_cons,List.not_mem_nil,or_false] at hp
  rcases hp with rfl | rfl
  ·exact (P5 h.2).1 c hc
  simp only [List.mem_cons,List.not_mem_nil,or_false] at hc
  subst hc
  trivial
 conv=>rhs; rw [h.1,h.2.1]
 rfl
theorem cw8 {v : Value} {t : T3} {S : Nat → Prop} {w : World} (h : (O9 v t 0).p S w) : (br4 v t).p S w:=⟨h.1,bi4 h.2⟩
abbrev du4 (v : Value) (q : Rat) : Gh:=⟨fun S w=>v = .tuple #[K3 v 0,.bool false,.int .i64 0] ∧ RatV S w (K3 v 0) q,fun h k=>⟨h.1,h.2.keep k⟩,fun h k=>⟨h.1,h.2.mono k⟩⟩
theorem de7 {v : Value} {q : Rat} {S : Nat → Prop} {w : World} (h : (du4 v q).p S w) : (SV.tup [(true,[.ag 3 (K3 v 0)]),(false,[.bb false]),(false,[.lit .i64 0])]).Ok 0 ∧ (SV.tup [(true,[.ag 3 (K3 v 0)]),(false,[.bb false]),(false,[.lit .i64 0])]).den (fun _=>0) = v:=by
 refine ⟨fun p hp c hc=>?_,?_⟩
 ·simp only [List.mem_cons,List.not_mem_nil,or_false] at hp
  rcases hp with rfl | rfl | rfl <;> (simp only [List.mem_cons,List.not_mem_nil,or_false] at hc; subst hc)
  ·exact h.2.okc
  ·trivial
  trivial
 conv=>rhs; rw [h.1]
 obtain ⟨m,b,hv,_⟩:=h.2
 rw [hv]
 rfl
theorem a33 {t : T3} : Z6 t.list ↔ t.None:=by
 unfold Z6 T3.None T3.list
 simp only [List.mem_cons,List.not_mem_nil,or_false,not_exists,not_and,Classical.not_not,forall_eq_or_imp,forall_eq]
theorem bf2 {q : Rat} {k : Nat} (h : rl q k) (hk : k ≤ 4) : ¬ W9 q:=by
 have h2:=I4 q.num.natAbs (show dl q.num.natAbs ≤ k from h.1)
 have h3:=I4 q.den (show dl q.den ≤ k from h.2)
 unfold W9
 omega
theorem ax5 {t : T3} {k : Nat} (h : tl t k) (hk : k ≤ 4) (hn : ¬ t.None) : A6 t = 0:=by
 unfold A6
 rw [if_neg (fun e=>hn (a33.1 e)),if_neg]
 rintro ⟨x,hx,hl⟩
 exact bf2 (aa1 h x hx) hk hl
def P1 : T3:=⟨1,0,0⟩
def P2 : T3:=⟨0,2,0⟩
def P3 : T3:=⟨1,1,0⟩
def P4 : T3:=⟨1,2,0⟩
theorem N2 {q : Rat} (h1 : q.num.natAbs < 1000000000) (h2 : q.den < 1000000000) : rl q 1:=⟨K8 (k:=1) (by omega),K8 (k:=1) (by omega)⟩
theorem b08 : tl P1 1:=⟨N2 (by decide) (by decide),N2 (by decide) (by decide),N2 (by decide) (by decide)⟩
theorem cf5 : tl P2 1:=⟨N2 (by decide) (by decide),N2 (by decide) (by decide),N2 (by decide) (by decide)⟩
theorem cx1 : tl P3 1:=⟨N2 (by decide) (by decide),N2 (by decide) (by decide),N2 (by decide) (by decide)⟩
theorem c52 : tl P4 1:=⟨N2 (by decide) (by decide),N2 (by decide) (by decide),N2 (by decide) (by decide)⟩
theorem b85 : A6 P1 = 0:=ax5 b08 (by decide) (by decide +kernel)
theorem c60 : A6 P2 = 0:=ax5 cf5 (by decide) (by decide +kernel)
theorem ds1 : A6 P3 = 0:=ax5 cx1 (by decide) (by decide +kernel)
theorem dp7 : A6 P4 = 0:=ax5 c52 (by decide) (by decide +kernel)
theorem cf0 : ¬ T3.Same P1 P2:=by decide +kernel
theorem dd0 : ¬ T3.Same P1 P3:=by decide +kernel
theorem dc1 : ¬ T3.Same P2 P3:=by decide +kernel
theorem cx9 : T3.Flat P1 P2 P3:=by decide +kernel
theorem c34 : T3.Flat P1 P2 P4:=by decide +kernel
theorem ck1 : (P1.cross P2).normal = ⟨0,0,1⟩:=by
 have h : (P1.cross P2).normal.x = 0 ∧ (P1.cross P2).normal.y = 0 ∧ (P1.cross P2).normal.z = 1:=by decide +kernel
 exact T3.ext h.1 h.2.1 h.2.2
def L1 : T3:=⟨0,0,1⟩
theorem cj4 : tl L1 1:=⟨N2 (by decide) (by decide),N2 (by decide) (by decide),N2 (by decide) (by decide)⟩
theorem dt6 : A6 L1 = 0:=ax5 cj4 (by decide) (by decide +kernel)
theorem dl9 : M8 P1 P2 = 0:=by unfold M8; rw [if_pos b85,c60]
theorem bv3 : M2 P1 P2 = 0:=by unfold M2; rw [if_pos dl9,if_neg cf0]
theorem c51 : ac4 P1 P2 = L1:=by unfold ac4; rw [if_pos bv3,ck1]; rfl
theorem ct4 : M8 P1 L1 = 0:=by unfold M8; rw [if_pos b85,dt6]
theorem dz4 : OnP P1 L1:=⟨ct4,by decide +kernel⟩
theorem nP : ¬ T3.nPart P1 P2 P4 = 0:=by decide +kernel
theorem c16 : T3.ratioQ P1 P2 P3 P4 = 1 / 2:=by decide +kernel
theorem b46 : ac0 P1 P2 P3 P4 = 0:=by
 have h : B4 [P1,P2,P3,P4] = 0:=by
  unfold B4
  rw [if_pos b85]
  unfold B4
  rw [if_pos c60]
  unfold B4
  rw [if_pos ds1]
  unfold B4
  rw [if_pos dp7]
  rfl
 unfold ac0
 rw [if_pos h,if_neg]
 rintro ((g | g | g | g) | g)
 ·exact cf0 g
 ·exact dd0 g
 ·exact dc1 g
 ·exact g cx9
 exact g c34
theorem c47 : ¬ a15 P1 P2 P3 P4:=fun h=>nP h.2
theorem cp1 : c48 P1 P2 P3 P4 = 1 / 2:=by unfold c48; rw [if_pos b46,c16]
theorem cl0 : J6 (1 / 2 : Rat) = [49,47,50]:=by
 have h1 : (1 / 2 : Rat).num = 1:=by decide +kernel
 have h2 : (1 / 2 : Rat).den = 2:=by decide +kernel
 unfold J6 Lib.itoa
 rw [h1,h2,if_neg (by decide),if_neg (by decide),show (1 : Int).toNat = 1 from rfl,Lib.decDigits_one (by decide),Lib.decDigits_one (by decide)]
 rfl
theorem da8 : J6 (1 : Rat) = [49]:=by
 have h1 : (1 : Rat).num = 1:=rfl
 have h2 : (1 : Rat).den = 1:=rfl
 unfold J6 Lib.itoa
 rw [h1,h2,if_neg (by decide),if_pos rfl,show (1 : Int).toNat = 1 from rfl,Lib.decDigits_one (by decide)]
 rfl
theorem cg2 {S : Nat → Prop} {w : World} (hS : Up S w) : Gives prog 14 [.int .i64 1,.int .i64 1] w fun v' w'=>Ext w w' ∧ QV S w' v' (1 : Rat):=N1 (a:=1) hS (by decide) (by decide)
theorem dk2 {S : Nat → Prop} {w : World} (hS : Up S w) : Gives prog 14 [.int .i64 2,.int .i64 1] w fun v' w'=>Ext w w' ∧ QV S w' v' (2 : Rat):=N1 (a:=2) hS (by decide) (by decide)
theorem b02 {w : World} (ht : Tab w) : Gives prog 25 [] w fun v' w'=>v' = .bool true ∧ Ext w w':=by
 have hS : Up All w:=Up.all
 refine n7 (E:=env) (S0:=All) (G:=Gh.nil) (l:=[]) func25 rfl rfl rfl trivial rfl trivial ?_
 refine G3 (fun x0=>.one (.ag 4 x0)) (fun x0=>qG x0 ((1 : Rat))) (fun β S w hS hs hw hG=>(kx (cg2 hS))) ?_
 intro v1
 refine G3 (fun x0=>.one (.ag 4 x0)) (fun x0=>qG x0 ((0 : Rat))) (fun β S w hS hs hw hG=>(kx (b22 hS))) ?_
 intro v2
 refine G3 (fun x0=>.one (.ag 4 x0)) (fun x0=>qG x0 ((0 : Rat))) (fun β S w hS hs hw hG=>(kx (b22 hS))) ?_
 intro v3
 refine G3 (fun x0=>.one (.ag 9 x0)) (fun x0=>q7 x0 (P1)) (fun β S w hS hs hw hG=>(kx (D5 hS ⟨v1,v2,v3,rfl,hG.2.2.1,hG.2.1,hG.1⟩ b08 (by decide)))) ?_
 intro p
 refine G3 (fun x0=>.one (.ag 4 x0)) (fun x0=>qG x0 ((0 : Rat))) (fun β S w hS hs hw hG=>(kx (b22 hS))) ?_
 intro v4
 refine G3 (fun x0=>.one (.ag 4 x0)) (fun x0=>qG x0 ((2 : Rat))) (fun β S w hS hs hw hG=>(kx (dk2 hS))) ?_
 intro v5
 refine G3 (fun x0=>.one (.ag 4 x0)) (fun x0=>qG x0 ((0 : Rat))) (fun β S w hS hs hw hG=>(kx (b22 hS))) ?_
 intro v6
 refine G3 (fun x0=>.one (.ag 9 x0)) (fun x0=>q7 x0 (P2)) (fun β S w hS hs hw hG=>(kx (D5 hS ⟨v4,v5,v6,rfl,hG.2.2.1,hG.2.1,hG.1⟩ cf5 (by decide)))) ?_
 intro q
 refine S4 (fun x0=>.tup [(true,[.ag 3 (cel (K3 x0 0) 0 3),.ag 3 (cel (K3 x0 0) 3 3),.ag 3 (cel (K3 x0 0) 6 3)]),(false,[.lit .i64 0])]) (fun x0=>br4 x0 (L1)) (fun _ _ _ h=>cn6 h) (fun β S w hS hs hw hG=>(kx ((cf6 (k:=1) (ht.to hw) hS hG.2.2.2.2.1 hG.1 b08 cf5 (by decide) (by rw [ck1]; exact cj4) (by decide)).mono fun v' w' h=>⟨h.1,cw8 (by have h2:=h.2; rw [bv3,c51] at h2; exact h2)⟩))) ?_
 intro j
 refine A3 (pr (.bb true) (.lit .i64 0)) rfl (fun β S w hS hs hw hG=>(kx (gK (dl5 (ht.to hw) hS hG.2.2.2.2.2.1 ⟨_,_,_,rfl,hG.1.2.2.1,hG.1.2.2.2.1,hG.1.2.2.2.2⟩ b08 cj4 (by decide)) (by rw [l9 dz4,ct4]; rfl)))) ?_
 refine n9 20 ?_
 refine d7 2 ?_
 refine q6 (fun x0=>.one (.ag 4 x0)) (fun x0=>qG x0 ((1 : Rat))) (fun β η S w hS hs hw hG hd=>(kx (cg2 hS))) ?_
 refine q6 (fun x0=>.one (.ag 4 x0)) (fun x0=>qG x0 ((1 : Rat))) (fun β η S w hS hs hw hG hd=>(kx (cg2 hS))) ?_
 refine q6 (fun x0=>.one (.ag 4 x0)) (fun x0=>qG x0 ((0 : Rat))) (fun β η S w hS hs hw hG hd=>(kx (b22 hS))) ?_
 refine ce2 (fun x0=>.one (.ag 12 x0)) (fun x0=>o6 x0 (P3)) ⟨d6,hS,j6⟩ (fun η=>(by kernel_rfl)) (fun η=>(by kernel_rfl)) (fun β η S w hS hM hs hw hG hd=>have hF : (o6 (bc1 (η 2) (η 3) (η 4)) (P3)).p S w:=⟨_,_,_,rfl,(p8 hd 2 : (qG (η 2) ((1 : Rat))).p S w),(p8 hd 3 : (qG (η 3) ((1 : Rat))).p S w),(p8 hd 4 : (qG (η 4) ((0 : Rat))).p S w)⟩; have hK : ∀ (x0 : Value) (S : Nat → Prop) (w : World),(o6 x0 (P3)).p S w → (.one (.ag 12 x0) : SV).Ok 0 ∧ (.one (.ag 12 x0) : SV).den (fun _=>0) = x0:=(fun _ _ _ h=>⟨h.ok,rfl⟩); ⟨(bc1 (η 2) (η 3) (η 4)),(by kernel_rfl),(hK _ S w hF).2.symm,(hK _ S w hF).1,hF⟩) ?_
 refine q6 (fun x0=>.one (.ag 9 x0)) (fun x0=>q7 x0 (P3)) (fun β η S w hS hs hw hG hd=>(kx (D5 hS (p8 hd 5 : (o6 (η 5) (P3)).p S w) cx1 (by decide)))) ?_
 refine q6 (fun x0=>.one (.ag 4 x0)) (fun x0=>qG x0 ((1 : Rat))) (fun β η S w hS hs hw hG hd=>(kx (cg2 hS))) ?_
 refine q6 (fun x0=>.one (.ag 4 x0)) (fun x0=>qG x0 ((2 : Rat))) (fun β η S w hS hs hw hG hd=>(kx (dk2 hS))) ?_
 refine q6 (fun x0=>.one (.ag 4 x0)) (fun x0=>qG x0 ((0 : Rat))) (fun β η S w hS hs hw hG hd=>(kx (b22 hS))) ?_
 refine ce2 (fun x0=>.one (.ag 12 x0)) (fun x0=>o6 x0 (P4)) ⟨d6,hS,j6⟩ (fun η=>(by kernel_rfl)) (fun η=>(by kernel_rfl)) (fun β η S w hS hM hs hw hG hd=>have hF : (o6 (bc1 (η 7) (η 8) (η 9)) (P4)).p S w:=⟨_,_,_,rfl,(p8 hd 7 : (qG (η 7) ((1 : Rat))).p S w),(p8 hd 8 : (qG (η 8) ((2 : Rat))).p S w),(p8 hd 9 : (qG (η 9) ((0 : Rat))).p S w)⟩; have hK : ∀ (x0 : Value) (S : Nat → Prop) (w : World),(o6 x0 (P4)).p S w → (.one (.ag 12 x0) : SV).Ok 0 ∧ (.one (.ag 12 x0) : SV).den (fun _=>0) = x0:=(fun _ _ _ h=>⟨h.ok,rfl⟩); ⟨(bc1 (η 7) (η 8) (η 9)),(by kernel_rfl),(hK _ S w hF).2.symm,(hK _ S w hF).1,hF⟩) ?_
 refine q6 (fun x0=>.one (.ag 9 x0)) (fun x0=>q7 x0 (P4)) (fun β η S w hS hs hw hG hd=>(kx (D5 hS (p8 hd 10 : (o6 (η 10) (P4)).p S w) c52 (by decide)))) ?_
 refine h_1 (fun x0=>.tup [(true,[.ag 3 (K3 x0 0)]),(false,[.bb false]),(false,[.lit .i64 0])]) (fun x0=>du4 x0 ((1 / 2 : Rat))) (fun η=>(by kernel_rfl)) (fun _ _ _ h=>de7 h) (fun β η S w hS hs hw hG hd=>(kx ((bj4 (ht.to hw) hS hG.2.2.2.2.2.1 hG.2.1 (p8 hd 6 : (q7 (η 6) (P3)).p S w) (p8 hd 11 : (q7 (η 11) (P4)).p S w) b08 cf5 cx1 c52 (by decide)).mono fun v' w' h=>⟨h.1,let ⟨x,e,hx⟩:=h.2; ⟨by rw [e,l6 c47,b46]; rfl,by rw [e]; rw [cp1] at hx; exact hx⟩⟩))) ?_
 refine d7 7 ?_
 refine n5 [true,false,false,false,false,false,false,false,false,false,false] ((br4 j (L1)).and (Gh.nil)) (by exact fun _ _ h=>⟨h.1,trivial⟩) (fun g η=>(du4 (η 12) ((1 / 2 : Rat))).and g) (fun g η=>(by kernel_rfl)) ?_
 intro η_1
 refine A3 (.one (.str [49])) rfl (fun β S w hS hs hw hG=>(kx (gK (bf9 (ht.to hw) hG.2.1.2.2.2.2 (H9 cj4.2.2 (by decide))) (congrArg D9 da8)))) ?_
 refine I3 (p:=([49] : List UInt8) = [49]) 68 (rfl) ?_
 refine A3 (.one (.str [49,47,50])) rfl (fun β S w hS hs hw hG=>(kx (gK (bf9 (ht.to hw) hG.1.2 (H9 (N2 (by decide +kernel) (by decide +kernel)) (by decide))) (congrArg D9 cl0)))) ?_
 refine I3 (p:=([49,47,50] : List UInt8) = [49,47,50]) 73 (rfl) ?_
 exact n8 (.bool true) rfl (fun S w hs hw hG=>⟨rfl,hw⟩)
end Go.Proofs.YtmjbiocildkhnaaGreatDoor
end
section
namespace Go.Proofs.YtmjbiocildkhnaaGreatDoor
open Go Tryz
structure M3 where
 a : T3
 b : T3
 c : T3
namespace T3
def smul (k : Rat) (p : T3) : T3:=⟨k * p.x,k * p.y,k * p.z⟩
theorem bc6 (k l : Rat) (p q : T3) : (p.smul k).cross (q.smul l) = (p.cross q).smul (k * l):=by
 ext <;> simp only [smul,cross] <;> grind
theorem c44 (k l : Rat) (p q : T3) : (p.smul k).dot (q.smul l) = k * l * p.dot q:=by
 simp only [smul,dot]; grind
theorem smul_none {k : Rat} (hk : k ≠ 0) {p : T3} : (p.smul k).None ↔ p.None:=by
 unfold None smul
 simp only [Rat.mul_eq_zero,hk,false_or]
theorem co3 {k l m : Rat} (hk : k ≠ 0) (hl : l ≠ 0) (hm : m ≠ 0) {p q r : T3} : Flat (p.smul k) (q.smul l) (r.smul m) ↔ Flat p q r:=by
 unfold Flat
 rw [bc6,c44]
 constructor
 ·intro h
  rcases Rat.mul_eq_zero.1 h with h | h
  ·rcases Rat.mul_eq_zero.1 h with h | h
   ·rcases Rat.mul_eq_zero.1 h with h | h
    ·exact absurd h hk
    exact absurd h hl
   exact absurd h hm
  exact h
 intro h; rw [h,Rat.mul_zero]
def Like (p q : T3) : Prop:=∃ k,k ≠ 0 ∧ p = q.smul k
theorem cm2 (k l : Rat) (p : T3) : (p.smul k).smul l = p.smul (l * k):=by
 ext <;> simp only [smul] <;> grind
theorem c01 (p : T3) : p.smul 1 = p:=by
 ext <;> simp only [smul] <;> grind
theorem Like.rfl {p : T3} : Like p p:=⟨1,by decide,(c01 p).symm⟩
theorem Like.trans {p q r : T3} (h : Like p q) (k : Like q r) : Like p r:=by
 obtain ⟨a,ha,rfl⟩:=h
 obtain ⟨b,hb,rfl⟩:=k
 refine ⟨a * b,?_,cm2 _ _ _⟩
 intro h
 rcases Rat.mul_eq_zero.1 h with h | h
 ·exact ha h
 exact hb h
theorem Like.cross {p q p' q' : T3} (h : Like p p') (k : Like q q') : Like (p.cross q) (p'.cross q'):=by
 obtain ⟨a,ha,rfl⟩:=h
 obtain ⟨b,hb,rfl⟩:=k
 refine ⟨a * b,?_,bc6 _ _ _ _⟩
 intro h
 rcases Rat.mul_eq_zero.1 h with h | h
 ·exact ha h
 exact hb h
theorem Like.none {p p' : T3} (h : Like p p') : p.None ↔ p'.None:=by
 obtain ⟨a,ha,rfl⟩:=h
 exact smul_none ha
theorem Like.same {p q p' q' : T3} (h : Like p p') (k : Like q q') : Same p q ↔ Same p' q':=(h.cross k).none
theorem Like.flat {p q r p' q' r' : T3} (h : Like p p') (k : Like q q') (l : Like r r') : Flat p q r ↔ Flat p' q' r':=by
 obtain ⟨a,ha,rfl⟩:=h
 obtain ⟨b,hb,rfl⟩:=k
 obtain ⟨c,hc,rfl⟩:=l
 exact co3 ha hb hc
end T3
namespace M3
def det (m : M3) : Rat:=m.a.dot (m.b.cross m.c)
def apply (m : M3) (p : T3) : T3:=⟨m.a.dot p,m.b.dot p,m.c.dot p⟩
def cof (m : M3) : M3:=⟨m.b.cross m.c,m.c.cross m.a,m.a.cross m.b⟩
theorem cross_apply (m : M3) (p q : T3) : (m.apply p).cross (m.apply q) = m.cof.apply (p.cross q):=by
 ext <;> simp only [apply,cof,T3.cross,T3.dot] <;> grind
theorem cf9 (m : M3) (p : T3) : m.cof.cof.apply p = (m.apply p).smul m.det:=by
 ext <;> simp only [apply,cof,det,T3.cross,T3.dot,T3.smul] <;> grind
theorem d18 (m : M3) (v : T3) : m.det * v.x = m.a.x * (m.cof.apply v).x + m.b.x * (m.cof.apply v).y + m.c.x * (m.cof.apply v).z ∧
  m.det * v.y = m.a.y * (m.cof.apply v).x + m.b.y * (m.cof.apply v).y + m.c.y * (m.cof.apply v).z ∧ m.det * v.z = m.a.z * (m.cof.apply v).x + m.b.z * (m.cof.apply v).y + m.c.z * (m.cof.apply v).z:=by
 refine ⟨?_,?_,?_⟩ <;> simp only [apply,cof,det,T3.cross,T3.dot] <;> grind
theorem b13 {m : M3} (h : m.det ≠ 0) {v : T3} : (m.cof.apply v).None ↔ v.None:=by
 obtain ⟨h1,h2,h3⟩:=d18 m v
 constructor
 ·rintro ⟨e1,e2,e3⟩
  rw [e1,e2,e3] at h1 h2 h3
  have z : ∀ x : Rat,m.det * x = 0 → x = 0:=fun x hx=>(Rat.mul_eq_zero.1 hx).resolve_left h
  exact ⟨z _ (by rw [h1]; grind),z _ (by rw [h2]; grind),z _ (by rw [h3]; grind)⟩
 rintro ⟨e1,e2,e3⟩
 unfold T3.None apply T3.dot
 simp only [e1,e2,e3]
 refine ⟨?_,?_,?_⟩ <;> grind
theorem dh0 (m : M3) : m.cof.det = m.det * m.det:=by
 simp only [det,cof,T3.cross,T3.dot]; grind
theorem cu5 {m : M3} (h : m.det ≠ 0) : m.cof.det ≠ 0:=by
 rw [dh0]
 intro e
 rcases Rat.mul_eq_zero.1 e with e | e <;> exact h e
theorem cofcof_like {m : M3} (h : m.det ≠ 0) (v : T3) : T3.Like (m.cof.cof.apply v) (m.apply v):=by
 rw [cf9]
 exact ⟨m.det,h,rfl⟩
theorem same_apply {m : M3} (h : m.det ≠ 0) {p q : T3} : T3.Same (m.apply p) (m.apply q) ↔ T3.Same p q:=by
 unfold T3.Same
 rw [cross_apply]
 exact b13 h
theorem same_cof {m : M3} (h : m.det ≠ 0) {p q : T3} : T3.Same (m.cof.apply p) (m.cof.apply q) ↔ T3.Same p q:=same_apply (cu5 h)
theorem apply_none {m : M3} (h : m.det ≠ 0) {v : T3} : (m.apply v).None ↔ v.None:=by
 have h1:=b13 (cu5 h) (v:=v)
 rw [cf9,T3.smul_none h] at h1
 exact h1
theorem flat_apply {m : M3} (h : m.det ≠ 0) {p q r : T3} : T3.Flat (m.apply p) (m.apply q) (m.apply r) ↔ T3.Flat p q r:=by
 unfold T3.Flat
 have e : ((m.apply p).cross (m.apply q)).dot (m.apply r) = m.det * (p.cross q).dot r:=by
  simp only [apply,det,T3.cross,T3.dot]; grind
 rw [e]
 constructor
 ·intro h1; exact (Rat.mul_eq_zero.1 h1).resolve_left h
 intro h1; rw [h1,Rat.mul_zero]
end M3
structure Six6 where
 p0 : T3
 p1 : T3
 p2 : T3
 p3 : T3
 p4 : T3
 p5 : T3
namespace Six6
def l0 (s : Six6) : T3:=s.p0.cross s.p1
def l1 (s : Six6) : T3:=s.p1.cross s.p2
def l2 (s : Six6) : T3:=s.p2.cross s.p3
def l3 (s : Six6) : T3:=s.p3.cross s.p4
def l4 (s : Six6) : T3:=s.p4.cross s.p5
def l5 (s : Six6) : T3:=s.p5.cross s.p0
def m0 (s : Six6) : T3:=s.l0.cross s.l3
def m1 (s : Six6) : T3:=s.l1.cross s.l4
def m2 (s : Six6) : T3:=s.l2.cross s.l5
structure Ok (s : Six6) : Prop where
 d01 : ¬ T3.Same s.p1 s.p0
 d02 : ¬ T3.Same s.p2 s.p0
 d03 : ¬ T3.Same s.p3 s.p0
 d04 : ¬ T3.Same s.p4 s.p0
 d05 : ¬ T3.Same s.p5 s.p0
 d12 : ¬ T3.Same s.p2 s.p1
 d13 : ¬ T3.Same s.p3 s.p1
 d14 : ¬ T3.Same s.p4 s.p1
 d15 : ¬ T3.Same s.p5 s.p1
 d23 : ¬ T3.Same s.p3 s.p2
 d24 : ¬ T3.Same s.p4 s.p2
 d25 : ¬ T3.Same s.p5 s.p2
 d34 : ¬ T3.Same s.p4 s.p3
 d35 : ¬ T3.Same s.p5 s.p3
 d45 : ¬ T3.Same s.p5 s.p4
 o0 : ¬ T3.Same s.l0 s.l3
 o1 : ¬ T3.Same s.l1 s.l4
 o2 : ¬ T3.Same s.l2 s.l5
 fl : T3.Flat s.m0 s.m1 s.m2
 ns : ¬ (T3.Same s.m0 s.m1 ∧ T3.Same s.m0 s.m2)
def map (m : M3) (s : Six6) : Six6:=⟨m.apply s.p0,m.apply s.p1,m.apply s.p2,m.apply s.p3,m.apply s.p4,m.apply s.p5⟩
theorem Ok.map {m : M3} (h : m.det ≠ 0) {s : Six6} (k : s.Ok) : (s.map m).Ok:=by
 have e0 : T3.Like (s.map m).m0 (m.apply s.m0):=by unfold m0 l0 l3 Six6.map; simp only [M3.cross_apply]; exact M3.cofcof_like h _
 have e1 : T3.Like (s.map m).m1 (m.apply s.m1):=by unfold m1 l1 l4 Six6.map; simp only [M3.cross_apply]; exact M3.cofcof_like h _
 have e2 : T3.Like (s.map m).m2 (m.apply s.m2):=by unfold m2 l2 l5 Six6.map; simp only [M3.cross_apply]; exact M3.cofcof_like h _
 refine ⟨?_,?_,?_,?_,?_,?_,?_,?_,?_,?_,?_,?_,?_,?_,?_,?_,?_,?_,?_,?_⟩
 ·exact fun e=>k.d01 ((M3.same_apply h).1 e)
 ·exact fun e=>k.d02 ((M3.same_apply h).1 e)
 ·exact fun e=>k.d03 ((M3.same_apply h).1 e)
 ·exact fun e=>k.d04 ((M3.same_apply h).1 e)
 ·exact fun e=>k.d05 ((M3.same_apply h).1 e)
 ·exact fun e=>k.d12 ((M3.same_apply h).1 e)
 ·exact fun e=>k.d13 ((M3.same_apply h).1 e)
 ·exact fun e=>k.d14 ((M3.same_apply h).1 e)
 ·exact fun e=>k.d15 ((M3.same_apply h).1 e)
 ·exact fun e=>k.d23 ((M3.same_apply h).1 e)
 ·exact fun e=>k.d24 ((M3.same_apply h).1 e)
 ·exact fun e=>k.d25 ((M3.same_apply h).1 e)
 ·exact fun e=>k.d34 ((M3.same_apply h).1 e)
 ·exact fun e=>k.d35 ((M3.same_apply h).1 e)
 ·exact fun e=>k.d45 ((M3.same_apply h).1 e)
 ·exact fun e=>k.o0 ((M3.same_cof h).1 (by unfold l0 l3 Six6.map at e; simp only [M3.cross_apply] at e; exact e))
 ·exact fun e=>k.o1 ((M3.same_cof h).1 (by unfold l1 l4 Six6.map at e; simp only [M3.cross_apply] at e; exact e))
 ·exact fun e=>k.o2 ((M3.same_cof h).1 (by unfold l2 l5 Six6.map at e; simp only [M3.cross_apply] at e; exact e))
 ·exact (e0.flat e1 e2).2 ((M3.flat_apply h).2 k.fl)
 exact fun e=>k.ns ⟨(M3.same_apply h).1 ((e0.same e1).1 e.1),(M3.same_apply h).1 ((e0.same e2).1 e.2)⟩
end Six6
namespace T3
end T3
end Go.Proofs.YtmjbiocildkhnaaGreatDoor
end
section
namespace Go.Proofs.YtmjbiocildkhnaaGreatDoor
open Go Go.RowKit Tryz
section
variable {c : Cx} {st : St} {G : Gh} {all : List Oper} {K : List HRec → Prop} {acc : List HRec} {ops : List Oper}
def dg3 (c : Cx) (st : St) (acc : List HRec) (ops : List Oper) (η : Nat → Value) : Option (Value × Nat × Int × Nat):=match (opH ops).op with
 | .indexAddr T x ix=>match opd (frH st acc η) x,opd (frH st acc η) ix,B8 c.E T with
  | some (.one (.val v)),some (.one (.lit _ z)),.array n e=>(c.E.get e).map fun te=>(v,n,z,te.size)
  | _,_,_=>none
 | _=>none
theorem ai4 (u : Value) (n : Nat) (i : Int) (sz : Nat) (hc : c.Ok) (hok : ∀ η,aq7 all st acc ops η = true) (hq : ∀ η,dg3 c st acc ops η = some (u,n,i,sz)) (h0 : 0 ≤ i) (h1 : i < n)
  (h : ∀ β η S w,Mem c.bs st.hp β w → Keeps c.K c.w0 w → G.p S w → depsH acc (opH ops).after.toList η S w → ∃ b k,u = .pointer (some ⟨b,k,none⟩))
  (k : Hd c st G all K (.spec ((opH ops).dst.getD 0) (fun x=>.one (.val x)) (fun x=>G9 (x = A2 u (i.toNat * sz))) :: acc) (ops.drop 1)) : Hd c st G all K acc ops:=by
 refine bb4 (fun x=>.one (.val x)) (fun x=>G9 (x = A2 u (i.toNat * sz))) hok (fun β η S w F m ty hkn hup hM hS hw hG hd=>?_) k
 have hq:=hq η
 unfold dg3 at hq
 split at hq <;> first | (cases hq; done) | skip
 rename_i T x ix hop
 split at hq <;> first | (cases hq; done) | skip
 rename_i v kd z n' e hx hix hk
 cases hte : c.E.get e with
 | none=>rw [hte] at hq; cases hq
 | some te=>
  rw [hte] at hq
  simp only [Option.map_some,Option.some.injEq,Prod.mk.injEq] at hq
  obtain ⟨rfl,rfl,rfl,rfl⟩:=hq
  have hkd:=D2 (t:=T) hc.env
  rw [hk] at hkd
  have hkd' : c.P.underlying T = some (.array n' e):=hkd
  obtain ⟨zz,hty,_⟩:=(hc.env.get hte).ty
  obtain ⟨b,k',hu⟩:=h β η S w hM hw hG hd
  rw [hop] at hkn ⊢
  have g1 : ev F x = .pointer (some ⟨b,k',none⟩):=by rw [(hkn x (by simp [Op.operands]) _ hx).1]; exact hu
  have g2:=(hkn ix (by simp [Op.operands]) _ hix).1
  refine ⟨A2 v (z.toNat * te.size),?_,rfl,ar8 _ _,rfl⟩
  rw [hu]
  intro d pos aft g
  simp [execOp,g1,g2,SV.den,Ch.den,Instr.indexAt,asIntOf,run_underlying hkd',Instr.sureAddr,h0,h1,hty.runSize w,U1,A2]
end
theorem At.part {g : Bool} {s : Nat} {S : Nat → Prop} {w : World} {u : Value} {vs : List Value} (h : At S w u (z7 vs)) (hl : ∀ x ∈ vs,K4 g s x) {i : Nat} {x : Value} (hx : vs[i]? = some x) : At S w (A2 u (i * s)) x.cells.toList:=by
 obtain ⟨b,o,arr,T,fr,h1,h2,h3,h4,h5⟩:=h
 have hi:=(List.getElem?_eq_some_iff.1 hx).1
 have hx1:=(hl x (List.mem_of_getElem? hx)).1
 have hc:=L6 hl
 have h6:=aj1 hl hx
 have hle : (i + 1) * s ≤ vs.length * s:=Nat.mul_le_mul_right _ hi
 rw [Nat.add_mul,Nat.one_mul] at hle
 refine ⟨b,o + i * s,arr,T,fr,by rw [h1]; rfl,h2,h3,by rw [hx1]; omega,?_⟩
 rw [hx1,← h6]
 show ((arr.toList.drop (o + i * s)).take s) = ((z7 vs).drop (i * s)).take s
 rw [← h5,hc,List.drop_take,List.drop_drop,List.take_take]
 congr 1
 omega
section
variable {S : Nat → Prop} {w : World} {u : Value} {s : Six6}
end
namespace Six6
end Six6
def ac2 (l : Nat) : Value:=.func (.yield l) #[] #[]
structure SeqA (P : Program) (l : Nat) (X : Nat → List Value → Gh) (n : Nat) (B : Nat → Prop) (W : World) (T0 : Nat → Prop) (J : (Nat → Prop) → (Nat → Prop) → Nat → Bool → World → Prop) : Prop where
 stab : ∀ T V k f W1 W2,J T V k f W1 → W1.heap.size ≤ W2.heap.size → (∀ b,T b ∨ V b → W2.heap[b]? = W1.heap[b]?) → Keeps (fun b=>¬ T0 b) W W2 → J T V k f W2
 fits : ∀ T V k f W1,J T V k f W1 → ∀ b,T b → b < W1.heap.size
 t0 : ∀ T V k f W1,J T V k f W1 → ∀ b,T0 b → T b
 yld : ∀ T V V' k x W1,k < n → J T V k true W1 → Keeps (fun b=>¬ T0 b) W W1 → (∀ b,V b → V' b) → (∀ b,V' b → ¬ T b ∧ b < W1.heap.size ∧ B b) → (X k x).p V' W1 → YieldAt Fence.wide 0 P l x.toArray W1 fun e W'=>
  ∃ f T',e = .returned (.bool f) ∧ J T' V' (k + 1) f W' ∧ Keeps (fun b=>¬ T b) W1 W' ∧ ∀ b,T' b → T b ∨ W1.heap.size ≤ b
def du5 (P : Program) (gf : FuncId) (lb : List Value) (X : Nat → List Value → Gh) (n n0 : Nat) (S : Nat → Prop) (w : World) : Prop:=
 ∀ l W T0 J,Keeps S w W → (∀ b,b < w.heap.size → S b → ¬ T0 b) → SeqA P l X n (fun b=>(S b ∧ b < n0) ∨ n0 ≤ b) W T0 J → J T0 (fun _=>False) 0 true W →
  Gives P gf (ac2 l :: lb) W fun _ W'=>Keeps (fun b=>¬ T0 b) W W' ∧ ∃ T' V' k,(k = n ∧ J T' V' k true W') ∨ J T' V' k false W'
theorem SeqA.bound {P : Program} {l n : Nat} {X : Nat → List Value → Gh} {B B' : Nat → Prop} {W : World} {T0 : Nat → Prop} {J : (Nat → Prop) → (Nat → Prop) → Nat → Bool → World → Prop} (q : SeqA P l X n B W T0 J) (h : ∀ b,B' b → B b) : SeqA P l X n B' W T0 J:=
 ⟨q.stab,q.fits,q.t0,fun T V V' k x W1 hk hJ hkp h1 h2 h3=>q.yld T V V' k x W1 hk hJ hkp h1 (fun b hb=>⟨(h2 b hb).1,(h2 b hb).2.1,h b (h2 b hb).2.2⟩) h3⟩
abbrev dk7 (P : Program) (gf : FuncId) (lb : List Value) (X : Nat → List Value → Gh) (n n0 : Nat) : Gh:=⟨fun S w=>n0 ≤ w.heap.size ∧ du5 P gf lb X n n0 S w,
 fun h k=>⟨Nat.le_trans h.1 k.size,fun l W T0 J h1 h2 h3 h4=>h.2 l W T0 J (k.trans h1) (fun b hb hs=>h2 b (Nat.lt_of_lt_of_le hb k.size) hs) h3 h4⟩,
 fun h hs=>⟨h.1,fun l W T0 J h1 h2 h3 h4=>h.2 l W T0 J ⟨h1.os,h1.tape,h1.output,h1.size,fun k hk hk2=>h1.block k hk (hs k hk hk2)⟩ (fun b hb hb2=>h2 b hb (hs b hb hb2)) (h3.bound fun b hb=>hb.imp (fun hb=>⟨hs b (Nat.lt_of_lt_of_le hb.2 h.1) hb.1,hb.2⟩) id) h4⟩⟩
theorem b93 {w w' : World} {b : Nat} (h : b < w.heap.size) (e : w'.heap[b]? = w.heap[b]?) : b < w'.heap.size:=by
 rw [Array.getElem?_eq_getElem h] at e
 exact (Array.getElem?_eq_some_iff.1 e).1
def al7 (W : World) (T0 : Nat → Prop) (J : (Nat → Prop) → (Nat → Prop) → Nat → Bool → World → Prop) (T V : Nat → Prop) (C : Nat → Option Obj) (k : Nat) (f : Bool) : AbsE where
 Q:=T
 R:=fun w=>(∀ b,T b → b < w.heap.size) ∧ (∀ b,T0 b → T b) ∧ ∀ w2,w.heap.size ≤ w2.heap.size → (∀ b,T b → w2.heap[b]? = w.heap[b]?) → (∀ b,V b → w2.heap[b]? = C b) → Keeps (fun b=>¬ T0 b) W w2 → J T V k f w2
 frame:=fun w w' ⟨h1,h0,h2⟩ hz hs=>⟨fun b hb=>b93 (h1 b hb) (hs b hb),h0,fun w2 h0 h3 h4=>h2 w2 (Nat.le_trans hz h0) (fun b hb=>(h3 b hb).trans (hs b hb)) h4⟩
theorem SeqA.entry {P : Program} {l n : Nat} {X : Nat → List Value → Gh} {B : Nat → Prop} {W : World} {T0 : Nat → Prop} {J : (Nat → Prop) → (Nat → Prop) → Nat → Bool → World → Prop} (q : SeqA P l X n B W T0 J) {T V : Nat → Prop} {C : Nat → Option Obj} {k : Nat} {f : Bool} {w : World} (h : J T V k f w) (hC : ∀ b,V b → w.heap[b]? = C b) : (al7 W T0 J T V C k f).R w:=
 ⟨q.fits T V k f w h,q.t0 T V k f w h,fun w2 h0 h1 h2 h3=>q.stab T V k f w w2 h h0 (fun b hb=>hb.elim (h1 b) fun hv=>(h2 b hv).trans (hC b hv).symm) h3⟩
abbrev cb9 (V : Nat → Prop) (C : Nat → Option Obj) : Gh:=⟨fun S w=>∀ b,V b → S b ∧ b < w.heap.size ∧ w.heap[b]? = C b,
 fun h k b hb=>⟨(h b hb).1,Nat.lt_of_lt_of_le (h b hb).2.1 k.size,(k.block b (h b hb).2.1 (h b hb).1).trans (h b hb).2.2⟩,fun h hs b hb=>⟨hs b (h b hb).2.1 (h b hb).1,(h b hb).2⟩⟩
def a94 (st : St) : Cur → Option (Value × List SV × Nat)
 | .ops _ (o1 :: _)=>match o1.guard,o1.dst,o1.op with
  | none,some d,.call cl=>match cl.callee with
   | .value x=>match opd st.fr x with
    | some (.one (.val v))=>match au3 (cl.args.toList.map (opd st.fr)) with
     | some l=>some (v,l,d)
     | none=>none
    | _=>none
   | _=>none
  | _,_,_=>none
 | _=>none
def do4 (o : Out) : Option Value:=(a94 o.st o.cur).map (·.1)
def ch4 (o : Out) : List SV:=match a94 o.st o.cur with | some (_,l,_)=>l | none=>[]
def a77 (o : Out) (f : Bool) (b : Nat) (A : AbsE) : Out:=match F4 o (.one (.bb f)) with | ⟨cur,k,⟨fr,hp⟩,_⟩=>⟨cur,k,⟨fr,Y4 hp b (.abs A)⟩,[]⟩
section
variable {c : Cx} {o : Out} {G : Gh}
theorem cp4 [Rd] {l : Nat} {β : Nat → Nat} {ρ : Fr} {w : World} (hf : do4 o = some (ac2 l)) (hS : Sat c.bs o.st β ρ w) :
  ∃ all o1 r d,o.cur = .ops all (o1 :: r) ∧ o1.guard = none ∧ o1.dst = some d ∧ (∀ s,F4 o s = ⟨.ops all r,o.k,⟨(d,s) :: o.st.fr,o.st.hp⟩,[]⟩) ∧
   (execOp (ev ρ) o1).run c.P w = (Instr.yield l ((ch4 o).map (SV.den β)).toArray).run c.P w:=by
 unfold do4 at hf
 cases hco : a94 o.st o.cur with
 | none=>rw [hco] at hf; cases hf
 | some x=>
  obtain ⟨g,l',d⟩:=x
  rw [hco] at hf
  simp only [Option.map_some,Option.some.injEq] at hf
  subst hf
  have hargs : ch4 o = l':=by unfold ch4; rw [hco]
  unfold a94 at hco
  split at hco <;> first | (cases hco; done) | skip
  rename_i all o1 r hcur
  split at hco <;> first | (cases hco; done) | skip
  rename_i d' cl hg hd hop
  split at hco <;> first | (cases hco; done) | skip
  rename_i x hcl
  split at hco <;> first | (cases hco; done) | skip
  rename_i v hx
  split at hco <;> first | (cases hco; done) | skip
  rename_i l2 hl
  simp only [Option.some.injEq,Prod.mk.injEq] at hco
  obtain ⟨rfl,rfl,rfl⟩:=hco
  refine ⟨all,o1,r,d',hcur,hg,hd,fun s=>by unfold F4; rw [hcur]; simp only [hd,Option.getD_some],?_⟩
  have h1:=(ab1 (ρ:=ρ) (fun t _=>hS.fr t) _ hx).1
  have h2:=b18 hS.fr hl
  rw [hargs,← h2]
  obtain ⟨dst,op,ty,pos,aft,g⟩:=o1
  simp only at hop hg hd
  subst hop
  obtain ⟨callee,args,ts⟩:=cl
  simp only at hcl
  subst hcl
  have e : (List.map (ev ρ) args.toList).toArray = Array.map (ev ρ) args:=by rw [← Array.toList_map,Array.toArray_toList]
  show _ = (Instr.yield l (List.map (ev ρ) args.toList).toArray).run c.P w
  rw [e]
  simp [execOp,resolve,Deferred.ofValue,h1,SV.den,Ch.den,ac2,invoke]
theorem aa2 [Rd] {l n : Nat} {X : Nat → List Value → Gh} {B : Nat → Prop} {W : World} {T0 : Nat → Prop} {J : (Nat → Prop) → (Nat → Prop) → Nat → Bool → World → Prop} (q : SeqA c.P l X n B W T0 J) (b : Nat) (T V : Nat → Prop) (C : Nat → Option Obj) (k : Nat) (x : List Value) (hc : c.Ok) (hw0 : c.w0 = W) (hK : c.K = fun b=>¬ T0 b) (hB : ∀ b,c.S0 b → T0 b ∨ B b)
  (hx : k < n) (hb : nth o.st.hp b = some (.abs (al7 W T0 J T V C k true))) (hf : do4 o = some (ac2 l)) (ha : ∀ β S w,Keeps c.K c.w0 w → G.p S w → (ch4 o).map (SV.den β) = x ∧ (X k x).p S w ∧ (cb9 V C).p S w)
  (h1 : ∀ T' V' C',Run c (a77 o true b (al7 W T0 J T' V' C' (k + 1) true)) ((cb9 V' C').and G)) (h2 : ∀ T' V' C',Run c (a77 o false b (al7 W T0 J T' V' C' (k + 1) false)) ((cb9 V' C').and G)) : Run c o G:=by
 refine ⟨fun β ρ w hS hw hG=>?_⟩
 rw [M1] at hb
 obtain ⟨all,o1,r,d,hcur,hg,hd,hnx,hr⟩:=cp4 hf hS
 have hbl:=(List.getElem?_eq_some_iff.1 hb).1
 have hmb : ∀ g,m7 β o.st.hp b g ↔ T g:=fun g=>O6 hb
 have hkw : Keeps (fun b=>¬ T0 b) W w:=by have:=hw; rw [hK,hw0] at this; exact this
 obtain ⟨f1,f0,f2⟩:=hS.mem.abs b _ hb
 obtain ⟨a1,a2,a3⟩:=ha β _ w hw hG
 have hJ : J T V k true w:=f2 w (Nat.le_refl _) (fun _ _=>rfl) (fun b hb=>(a3 b hb).2.2) hkw
 let V' : Nat → Prop:=fun g=>Sof c.S0 β o.st.hp g ∧ g < w.heap.size
 have hVT : ∀ g,V' g → ¬ T g:=fun g hg ht=>hg.1.2 b ((hmb g).2 ht)
 obtain ⟨fn,tmps,assign,body,hy,hR⟩:=q.yld T V V' k x w hx hJ hkw (fun g hg=>⟨(a3 g hg).1,(a3 g hg).2.1⟩) (fun g hg=>⟨hVT g hg,hg.2,(hB g hg.1.1).resolve_left fun h0=>hVT g hg (f0 g h0)⟩) ((X k x).mono a2 fun g hg hs=>⟨hs,hg⟩)
 rw [a1] at hr
 rw [hcur]
 show WqR c.P c.n all (kQ c.P c.n c.Q o.k) (o1 :: r) ρ w
 refine c54 hg hd (hr.trans hy) hR fun e w' he=>?_
 obtain ⟨f,T',rfl,hJ',hkp,hT⟩:=he
 refine ⟨_,rfl,?_⟩
 let C' : Nat → Option Obj:=fun g=>w.heap[g]?
 have hC' : ∀ g,V' g → w'.heap[g]? = C' g:=fun g hg=>hkp.block g hg.2 (hVT g hg)
 have hlen : (o.st.hp.set b (.abs (al7 W T0 J T' V' C' (k + 1) f))).length = o.st.hp.length:=by simp
 have hget : ∀ i y,(o.st.hp.set b (.abs (al7 W T0 J T' V' C' (k + 1) f)))[i]? = some y → (i = b ∧ y = .abs (al7 W T0 J T' V' C' (k + 1) f)) ∨ (b ≠ i ∧ o.st.hp[i]? = some y):=by
  intro i y hy
  by_cases e : b = i
  ·subst e
   rw [List.getElem?_set_self hbl] at hy
   exact .inl ⟨rfl,(Option.some.inj hy).symm⟩
  rw [List.getElem?_set_ne e] at hy
  exact .inr ⟨e,hy⟩
 have hother : ∀ i g,b ≠ i → m7 β o.st.hp i g → ¬ T g:=fun i g hne hm ht=>hne (hS.mem.apart b i g ((hmb g).2 ht) hm)
 have hmine : ∀ i g,m7 β (o.st.hp.set b (.abs (al7 W T0 J T' V' C' (k + 1) f))) i g → (i = b ∧ T' g) ∨ (b ≠ i ∧ m7 β o.st.hp i g):=by
  rintro i g ⟨y,hy,hm⟩
  rcases hget i y hy with ⟨rfl,rfl⟩ | ⟨h3,h4⟩
  ·exact .inl ⟨rfl,hm⟩
  exact .inr ⟨h3,y,h4,hm⟩
 have hlow : ∀ i g,m7 β o.st.hp i g → g < w.heap.size:=fun i g hm=>(hS.mem.low i g hm).2
 have hSat : ∀ s : SV,s.Ok o.st.hp.length → Sat c.bs ⟨(d,s) :: o.st.fr,o.st.hp.set b (.abs (al7 W T0 J T' V' C' (k + 1) f))⟩ β (upd ρ d (s.den β)) w':=by
  intro s hs
  refine ⟨fun i s' hs'=>?_,⟨fun i T2 l2 hi=>?_,fun i T2 s2 v n cs hi=>?_,fun i A hi=>?_,fun i g hi=>?_,fun i j g hi hj=>?_⟩,by rw [hlen]; exact hS.agr.1,hS.agr.2⟩
  ·show _ ∧ s'.Ok (o.st.hp.set b (.abs (al7 W T0 J T' V' C' (k + 1) f))).length
   rw [hlen]
   exact ((hS.put (d:=d) (s:=s) (v:=s.den β) rfl hs).fr i) s' hs'
  ·rcases hget i _ hi with ⟨_,e⟩ | ⟨hne,e⟩
   ·cases e
   show _ ∧ ∀ c ∈ l2,c.Ok (o.st.hp.set b (.abs (al7 W T0 J T' V' C' (k + 1) f))).length
   rw [hlen]
   exact ⟨(hS.mem.blk i T2 l2 e).1.keep hkp (hother i _ hne ⟨_,e,rfl⟩),(hS.mem.blk i T2 l2 e).2⟩
  ·rcases hget i _ hi with ⟨_,e⟩ | ⟨hne,e⟩
   ·cases e
   exact Y6 (hS.mem.row i T2 s2 v n cs e) hkp fun g hg=>hother i g hne ⟨_,e,hg⟩
  ·rcases hget i _ hi with ⟨_,e⟩ | ⟨hne,e⟩
   ·cases e
    exact q.entry hJ' hC'
   exact A.keep (hS.mem.abs i A e) (fun k' hk=>hlow i k' ⟨_,e,hk⟩) hkp fun g hg=>hother i g hne ⟨_,e,hg⟩
  ·rcases hmine i g hi with ⟨rfl,ht⟩ | ⟨hne,hm⟩
   ·refine ⟨?_,q.fits _ _ _ _ _ hJ' g ht⟩
    rcases hT g ht with h3 | h3
    ·exact (hS.mem.low i g ((hmb g).2 h3)).1
    have:=hw.size
    exact .inl (Nat.le_trans this h3)
   exact ⟨(hS.mem.low i g hm).1,Nat.lt_of_lt_of_le (hlow i g hm) hkp.size⟩
  rcases hmine i g hi with ⟨rfl,ht⟩ | ⟨hne,hm⟩ <;> rcases hmine j g hj with ⟨e2,ht2⟩ | ⟨hne2,hm2⟩
  ·exact e2.symm
  ·rcases hT g ht with h3 | h3
   ·exact hS.mem.apart i j g ((hmb g).2 h3) hm2
   ·have:=hlow j g hm2
    omega
  ·subst e2
   rcases hT g ht2 with h3 | h3
   ·exact hS.mem.apart i j g hm ((hmb g).2 h3)
   ·have:=hlow i g hm
    omega
  exact hS.mem.apart i j g hm hm2
 have hw' : Keeps c.K c.w0 w':=Mem.grow hS.mem hw hkp b fun i hi=>(hmb i).2 (Classical.not_not.1 hi)
 have hsof : ∀ g,V' g → Sof c.S0 β (o.st.hp.set b (.abs (al7 W T0 J T' V' C' (k + 1) f))) g:=fun g hs=>⟨hs.1.1,fun i hi=>by
  rcases hmine i g hi with ⟨rfl,ht⟩ | ⟨_,hm⟩
  ·rcases hT g ht with h3 | h3
   ·exact hs.1.2 i ((hmb g).2 h3)
   ·have:=hs.2
    omega
  exact hs.1.2 i hm⟩
 have hG' : ((cb9 V' C').and G).p (Sof c.S0 β (o.st.hp.set b (.abs (al7 W T0 J T' V' C' (k + 1) f)))) w':=by
  have g1 : G.p V' w:=G.mono hG fun g hg hs=>⟨hs,hg⟩
  have g2:=G.keep g1 (hkp.mono fun g hg=>hVT g hg)
  exact ⟨fun g hg=>⟨hsof g hg,Nat.lt_of_lt_of_le hg.2 hkp.size,hC' g hg⟩,G.mono g2 fun g _ hs=>hsof g hs⟩
 cases f with
 | true=>
  have h3:=(h1 T' V' C').run
  unfold a77 at h3
  rw [hnx] at h3
  simp only [N5] at h3
  exact h3 β _ w' (hSat (.one (.bb true)) trivial) hw' hG'
 | false=>
  have h3:=(h2 T' V' C').run
  unfold a77 at h3
  rw [hnx] at h3
  simp only [N5] at h3
  exact h3 β _ w' (hSat (.one (.bb false)) trivial) hw' hG'
end
theorem dr1 {P : Program} {E : Env} {S : Nat → Prop} {f : FuncId} {fn : Func} {code : Code} {ls : List SV} {lb : List Value} {X : Nat → List Value → Gh} {n n0 : Nat} {w : World} {G : Gh} (hn0 : n0 ≤ w.heap.size) (hf : P.funcs[f]? = some fn) (hb : fn.body = some code) (hok : a62 fn code = true)
  (hn : Nat.ble (lb.length + 1) fn.ntmps = true) (hl : SVsOk ls) (ha : ls.map (SV.den fun _=>0) = lb) (hG : G.p S w)
  (h : ∀ l W T0 J (S0 : Nat → Prop),Up S0 W → (∀ k,¬ ¬ T0 k → S0 k) → SeqA P l X n (fun b=>(S b ∧ b < n0) ∨ n0 ≤ b) W T0 J → (∀ b,S0 b → T0 b ∨ ((S b ∧ b < n0) ∨ n0 ≤ b)) →
   Run (Cx.fnK P fn E W S0 (fun b=>¬ T0 b) fun _ W'=>Keeps (fun b=>¬ T0 b) W W' ∧ ∃ T' V' k,(k = n ∧ J T' V' k true W') ∨ J T' V' k false W') ⟨.code code,[],⟨bd0 0 (.one (.val (ac2 l)) :: ls),[.abs (al7 W T0 J T0 (fun _=>False) (fun _=>none) 0 true)]⟩,[]⟩ G) : du5 P f lb X n n0 S w:=by
 intro l W T0 J hW hT0 q hJ
 have hmine : ∀ i g,m7 (fun _=>0) [HE.abs (al7 W T0 J T0 (fun _=>False) (fun _=>none) 0 true)] i g → i = 0 ∧ T0 g:=by
  rintro i g ⟨y,hy,hm⟩
  cases i with
  | zero=>
   simp only [List.getElem?_cons_zero,Option.some.injEq] at hy
   subst hy
   exact ⟨rfl,hm⟩
  | succ i=>simp at hy
 refine b30 (S0:=fun k=>(S k ∧ k < w.heap.size) ∨ w.heap.size ≤ k ∨ T0 k) (K:=fun b=>¬ T0 b) (hp:=[.abs (al7 W T0 J T0 (fun _=>False) (fun _=>none) 0 true)]) (β:=fun _=>0) (l:=.one (.val (ac2 l)) :: ls) hf hb hok (by simpa using hn) ⟨rfl,?_⟩ (by rw [List.map_cons,ha]; rfl) ?_ ?_
  (h l W T0 J _ (fun k hk=>.inr (.inl (Nat.le_trans hW.size hk))) (fun k hk=>.inr (.inr (Classical.not_not.1 hk))) q (fun b hb=>?_))
 ·have aux : ∀ {r : List SV},SVsOk r → SVsOkM 1 r:=by
   intro r
   induction r with
   | nil=>intro _; trivial
   | cons s r ih=>intro h; exact ⟨h.1.le (Nat.zero_le _),ih h.2⟩
  exact aux hl
 ·refine ⟨fun i T l hi=>?_,fun i T s v n cs hi=>?_,fun i A hi=>?_,fun i g hi=>?_,fun i j g hi hj=>?_⟩
  ·cases i <;> simp at hi
  ·cases i <;> simp at hi
  ·cases i with
   | zero=>
    simp only [List.getElem?_cons_zero,Option.some.injEq,HE.abs.injEq] at hi
    subst hi
    exact q.entry hJ fun _ hb=>hb.elim
   | succ i=>simp at hi
  ·obtain ⟨rfl,h1⟩:=hmine i g hi
   exact ⟨.inr fun h2=>h2 h1,q.fits _ _ _ _ _ hJ g h1⟩
  rw [(hmine i g hi).1,(hmine j g hj).1]
 ·have g1 : G.p (fun k=>S k ∧ k < w.heap.size) w:=G.mono hG fun k hk hs=>⟨hs,hk⟩
  have g2:=G.keep g1 (hW.mono fun k hk=>hk.1)
  exact G.mono g2 fun k _ hk=>⟨.inl hk,fun i hi=>hT0 k hk.2 hk.1 (hmine i k hi).2⟩
 rcases hb with ⟨h1,h2⟩ | h1 | h1
 ·rcases Nat.lt_or_ge b n0 with h3 | h3
  ·exact .inr (.inl ⟨h1,h3⟩)
  exact .inr (.inr h3)
 ·exact .inr (.inr (Nat.le_trans hn0 h1))
 exact .inl h1
theorem X8 {W w : World} {T0 T V : Nat → Prop} {C : Nat → Option Obj} {J : (Nat → Prop) → (Nat → Prop) → Nat → Bool → World → Prop} {k b : Nat} {f : Bool} {base : Bs} {hp : List HE} {β : Nat → Nat} {n : Nat} {S : Nat → Prop} (hM : Mem base hp β w) (hb : nth hp b = some (.abs (al7 W T0 J T V C k f))) (hz : (cb9 V C).p S w) (hw : Keeps (fun b=>¬ T0 b) W w) (hk : f = true → k = n) :
  Keeps (fun b=>¬ T0 b) W w ∧ ∃ T' V' k,(k = n ∧ J T' V' k true w) ∨ J T' V' k false w:=by
 rw [M1] at hb
 have h:=(hM.abs b _ hb).2.2 w (Nat.le_refl _) (fun _ _=>rfl) (fun b hb=>(hz b hb).2.2) hw
 refine ⟨hw,T,V,k,?_⟩
 cases f with
 | true=>exact .inl ⟨hk rfl,h⟩
 | false=>exact .inr h
theorem c25 [Rd] {P : Program} {n : Nat} {x : Code} {Q : E4} {ρ : Fr} {w : World} (h : E8 n x = true → ∀ D a,MtI n D a ρ → x.wpIn RF 0 P (aq3 n D Q) a w) : WqC P n x Q ρ w:=by unfold WqC; exact h
theorem ch8 [Rd] {P : Program} {n : Nat} {x : Code} {Q : E4} {ρ : Fr} {w : World} (h : WqC P n x Q ρ w) : E8 n x = true → ∀ D a,MtI n D a ρ → x.wpIn RF 0 P (aq3 n D Q) a w:=by unfold WqC at h; exact h
theorem Mem.keepS {base : Bs} {hp : List HE} {β : Nat → Nat} {w w' : World} {S : Nat → Prop} (h : Mem base hp β w) (k : Keeps S w w') (hs : ∀ i b,m7 β hp i b → S b) : Mem base hp β w':=
 ⟨fun i T l hi=>⟨(h.blk i T l hi).1.keep k (hs i _ ⟨_,hi,rfl⟩),(h.blk i T l hi).2⟩,fun i T s v n cs hi=>Y6 (h.row i T s v n cs hi) k fun g hg=>hs i g ⟨_,hi,hg⟩,
  fun i A hi=>A.keep (h.abs i A hi) (fun k' hk=>(h.low i k' ⟨_,hi,hk⟩).2) k fun g hg=>hs i g ⟨_,hi,hg⟩,
  fun i k' hk=>⟨(h.low i k' hk).1,Nat.lt_of_lt_of_le (h.low i k' hk).2 k.size⟩,h.apart⟩
theorem Mem.rebase {base base' : Bs} {hp : List HE} {β : Nat → Nat} {w : World} (h : Mem base hp β w) (hl : ∀ i k,m7 β hp i k → base'.n ≤ k ∨ ¬ base'.K k) : Mem base' hp β w:=
 ⟨h.blk,h.row,h.abs,fun i k hk=>⟨hl i k hk,(h.low i k hk).2⟩,h.apart⟩
theorem ao3 {β : Nat → Nat} {hp : List HE} {e : HE} {i k : Nat} (h : m7 β (hp ++ [e]) i k) : m7 β hp i k ∨ (i = hp.length ∧ e.mine (β i) k):=by
 obtain ⟨y,hy,hm⟩:=h
 rcases Nat.lt_or_ge i hp.length with hi | hi
 ·rw [List.getElem?_append_left hi] at hy
  exact .inl ⟨y,hy,hm⟩
 rw [List.getElem?_append_right hi] at hy
 have : i - hp.length = 0:=by
  cases h0 : i - hp.length with
  | zero=>rfl
  | succ n=>rw [h0] at hy; simp at hy
 rw [this] at hy
 simp only [List.getElem?_cons_zero,Option.some.injEq] at hy
 subst hy
 exact .inr ⟨by omega,hm⟩
theorem Mem.snoc {base : Bs} {hp : List HE} {β : Nat → Nat} {w : World} {A : AbsE} (h : Mem base hp β w) (hA : A.R w) (hl : ∀ k,A.Q k → (base.n ≤ k ∨ ¬ base.K k) ∧ k < w.heap.size) (ho : ∀ i k,m7 β hp i k → ¬ A.Q k) : Mem base (hp ++ [.abs A]) β w:=by
 have get : ∀ {i : Nat} {e : HE},(hp ++ [.abs A])[i]? = some e → hp[i]? = some e ∨ (i = hp.length ∧ e = .abs A):=by
  intro i e hi
  rcases Nat.lt_or_ge i hp.length with h1 | h1
  ·rw [List.getElem?_append_left h1] at hi
   exact .inl hi
  rw [List.getElem?_append_right h1] at hi
  have : i - hp.length = 0:=by
   cases h0 : i - hp.length with
   | zero=>rfl
   | succ n=>rw [h0] at hi; simp at hi
  rw [this] at hi
  simp only [List.getElem?_cons_zero,Option.some.injEq] at hi
  exact .inr ⟨by omega,hi.symm⟩
 refine ⟨fun i T l hi=>?_,fun i T s v n cs hi=>?_,fun i B hi=>?_,fun i k hk=>?_,fun i j k hi hj=>?_⟩
 ·rcases get hi with h1 | ⟨_,h1⟩
  ·exact ⟨(h.blk i T l h1).1,fun c hc=>((h.blk i T l h1).2 c hc).le (by simp)⟩
  cases h1
 ·rcases get hi with h1 | ⟨_,h1⟩
  ·exact h.row i T s v n cs h1
  cases h1
 ·rcases get hi with h1 | ⟨_,h1⟩
  ·exact h.abs i B h1
  cases h1; exact hA
 ·rcases ao3 hk with h1 | ⟨_,h1⟩
  ·exact h.low i k h1
  exact hl k h1
 rcases ao3 hi with h1 | ⟨h0,h1⟩ <;> rcases ao3 hj with h2 | ⟨h3,h2⟩
 ·exact h.apart i j k h1 h2
 ·exact absurd h2 (ho i k h1)
 ·exact absurd h1 (ho j k h2)
 rw [h0,h3]
def dfE (D : Nat) : AbsE where
 Q:=fun k=>k = D
 R:=fun w=>w.heap[D]? = some (.deferred (some []))
 frame:=fun w w' h _ hs=>(hs D rfl).trans h
def c63 (D : Nat) : Value:=.pointer (some ⟨D,0,none⟩)
def mkS : List Nat → SV
 | []=>.und
 | D :: ms=>.tup ((D :: ms).map fun D=>(false,[.val (c63 D)]))
def mkD (D : Nat) : Deferred:={ target:=.collected D,args:=#[] }
theorem du0 {m : Nat} (ms : List Nat) : (mkS ms).Ok m:=by
 cases ms with
 | nil=>trivial
 | cons D ms=>
  intro p hp
  obtain ⟨D',_,rfl⟩:=List.mem_map.1 hp
  intro c hc
  simp only [List.mem_singleton] at hc
  subst hc
  rfl
theorem a14 (β : Nat → Nat) (ms : List Nat) : bb5 ((mkS ms).den β) = ms.map mkD:=by
 have key : ∀ l : List Nat,(l.map c63).flatMap c36 = l.map mkD:=by
  intro l
  induction l with
  | nil=>rfl
  | cons D l ih=>rw [List.map_cons,List.flatMap_cons,ih]; rfl
 cases ms with
 | nil=>rfl
 | cons D ms=>
  have e : (mkS (D :: ms)).den β = .tuple ((D :: ms).map c63).toArray:=by
   show Value.tuple (((D :: ms).map fun D=>(false,[Ch.val (c63 D)])).map (ao0 β)).toArray = _
   rw [List.map_map]
   rfl
  rw [e]
  show (((D :: ms).map c63).toArray.toList).flatMap c36 = _
  rw [List.toList_toArray]
  exact key _
def aj4 (ps : List Nat) (ls : List SV) (fr : List (Nat × SV)) : List (Nat × SV):=(ps.zip ls).foldl (fun fr p=>p :: fr) fr
def bx9 (ps : List Nat) (vs : List Value) (ρ : Fr) : Fr:=(ps.zip vs).foldl (fun ρ p=>upd ρ p.1 p.2) ρ
theorem c30 {β : Nat → Nat} {m : Nat} : ∀ {ps : List Nat} {ls : List SV} {fr : List (Nat × SV)} {ρ : Fr},(∀ d,Kn β m (H4 fr d) (ρ d)) → (∀ s ∈ ls,s.Ok m) → ∀ d,Kn β m (H4 (aj4 ps ls fr) d) (bx9 ps (ls.map (SV.den β)) ρ d):=by
 intro ps
 induction ps with
 | nil=>intro ls fr ρ h _; simpa [aj4,bx9] using h
 | cons p ps ih=>
  intro ls fr ρ h hl
  cases ls with
  | nil=>simpa [aj4,bx9] using h
  | cons s ls=>
   have h2:=ih (ls:=ls) (fr:=(p,s) :: fr) (ρ:=upd ρ p (s.den β)) (fun d s' hs=>?_) (fun s' hs=>hl s' (List.mem_cons_of_mem _ hs))
   ·simpa [aj4,bx9] using h2
   rw [F8] at hs
   rw [ab7]
   split at hs
   ·rename_i e
    simp only [Option.some.injEq] at hs
    subst hs
    rw [if_pos e]
    exact ⟨rfl,hl s (List.mem_cons_self ..)⟩
   rename_i e
   rw [if_neg e]
   exact h d s' hs
theorem dg1 [Rd] {n : Nat} {D : List Deferred} : ∀ {ps : List Nat} {vs : List Value} {a : Act} {ρ : Fr},MtI n D a ρ → ps.all (fun d=>Nat.blt d n) = true → MtI n D { tmps:=(ps.zip vs).foldl (fun t p=>t.setIfInBounds p.1 p.2) a.tmps,defers:=a.defers } (bx9 ps vs ρ):=by
 intro ps
 induction ps with
 | nil=>intro vs a ρ h _; simpa [bx9] using h
 | cons p ps ih=>
  intro vs a ρ h hp
  simp only [List.all_cons,Bool.and_eq_true] at hp
  cases vs with
  | nil=>simpa [bx9] using h
  | cons v vs=>exact ih (vs:=vs) (a:=a.put (some p) v) (ρ:=upd ρ p v) (h.put hp.1 v) hp.2
section
variable {ι : Type}
def d58 (c : Cx) (hpI : ι → List HE) (GI : ι → Gh) (pN : ι → Prop) (pX : Exit → ι → Prop) : E4:=fun e ρ w=>match e with
 | .normal=>∃ j,pN j ∧ RelI c (fun j=>⟨[],hpI j⟩) GI j ρ w
 | .exit id=>∃ j,pX (.exit id) j ∧ RelI c (fun j=>⟨[],hpI j⟩) GI j ρ w
 | .ret=>∃ j,pX .ret j ∧ RelI c (fun j=>⟨[],hpI j⟩) GI j ρ w
 | _=>False
abbrev Cx.rnd (c : Cx) (hpI : ι → List HE) (GI : ι → Gh) (pN : ι → Prop) (pX : Exit → ι → Prop) : Cx:=⟨c.P,c.n,c.E,c.w0,c.S0,c.K,d58 c hpI GI pN pX,c.m,c.b⟩
def dw1 (o : Out) : Exit:=match o.cur with | .ex e=>e | _=>.normal
def cs9 (o : Out) : Bool:=match o.cur,o.k with | .ex (.exit _),[]=>true | .ex .ret,[]=>true | _,_=>false
theorem b86 [Rd] {c : Cx} {o : Out} {G : Gh} {hpI : ι → List HE} {GI : ι → Gh} {pN : ι → Prop} {pX : Exit → ι → Prop} (j : ι) (he : am2 o = true) (hp : pN j) (hsub : bu1 o.st ⟨[],hpI j⟩) (hok : ∀ S w,Keeps c.K c.w0 w → G.p S w → aj7 ⟨[],hpI j⟩) (hg : ∀ S w,Keeps c.K c.w0 w → G.p S w → (GI j).p S w) :
  Run (c.rnd hpI GI pN pX) o G:=by
 refine ⟨fun β ρ w hS hw hG=>?_⟩
 obtain ⟨h1,h2⟩:=a10 he
 rw [h1,h2]
 exact ⟨j,hp,ba7 (c:=c) (st':=fun j=>⟨[],hpI j⟩) j hS hw hG hsub hok hg⟩
theorem dq1 [Rd] {c : Cx} {o : Out} {G : Gh} {hpI : ι → List HE} {GI : ι → Gh} {pN : ι → Prop} {pX : Exit → ι → Prop} (j : ι) (he : cs9 o = true) (hp : pX (dw1 o) j) (hsub : bu1 o.st ⟨[],hpI j⟩) (hok : ∀ S w,Keeps c.K c.w0 w → G.p S w → aj7 ⟨[],hpI j⟩) (hg : ∀ S w,Keeps c.K c.w0 w → G.p S w → (GI j).p S w) :
  Run (c.rnd hpI GI pN pX) o G:=by
 refine ⟨fun β ρ w hS hw hG=>?_⟩
 have hr:=ba7 (c:=c) (st':=fun j=>⟨[],hpI j⟩) j hS hw hG hsub hok hg
 unfold dw1 at hp
 unfold cs9 at he
 split at he <;> first | (cases he; done) | skip
 ·rename_i id e1 e2
  rw [e1] at hp ⊢
  rw [e2]
  exact ⟨j,hp,hr⟩
 rename_i e1 e2
 rw [e1] at hp ⊢
 rw [e2]
 exact ⟨j,hp,hr⟩
structure RngJ (c : Cx) (N0 : Nat) (β0 : Nat → Nat) (W : World) (l D : Nat) (T0 : Nat → Prop) (hpI : ι → List HE) (GI : ι → Gh) (j : ι) (β : Nat → Nat) (T V : Nat → Prop) (W1 : World) : Prop where
 mem : Mem c.bs (hpI j) β W1
 agr : ∀ i,i < N0 → β i = β0 i
 k0 : Keeps (fun b=>¬ T0 b) W W1
 own : ∀ i b,m7 β (hpI j) i b → T b ∧ b ≠ l ∧ b ≠ D
 facts : (GI j).p (fun b=>Sof c.S0 β (hpI j) b ∧ ((b < W.heap.size ∧ ¬ T0 b) ∨ (T b ∧ b ≠ l ∧ b ≠ D) ∨ V b)) W1
 dfr : W1.heap[D]? = some (.deferred (some []))
 tl : T l
 td : T D
 t0 : ∀ b,T0 b → T b
 vt : ∀ b,V b → ¬ T b
 lo : ∀ b,T b → b < W1.heap.size
 nw : ∀ b,T b → T0 b ∨ W.heap.size ≤ b
theorem RngJ.stab {c : Cx} {N0 : Nat} {β0 : Nat → Nat} {W : World} {l D : Nat} {T0 : Nat → Prop} {hpI : ι → List HE} {GI : ι → Gh} {j : ι} {β : Nat → Nat} {T V : Nat → Prop} {W1 W2 : World} (h : RngJ c N0 β0 W l D T0 hpI GI j β T V W1)
  (hz : W1.heap.size ≤ W2.heap.size) (hT : ∀ b,T b ∨ V b → W2.heap[b]? = W1.heap[b]?) (hk : Keeps (fun b=>¬ T0 b) W W2) : RngJ c N0 β0 W l D T0 hpI GI j β T V W2:=by
 have k : Keeps (fun b=>(b < W.heap.size ∧ ¬ T0 b) ∨ T b ∨ V b) W1 W2:=by
  refine ⟨hk.os.trans h.k0.os.symm,hk.tape.trans h.k0.tape.symm,hk.output.trans h.k0.output.symm,hz,fun b _ hb=>?_⟩
  rcases hb with ⟨h1,h2⟩ | h1
  ·exact (hk.block b h1 h2).trans (h.k0.block b h1 h2).symm
  exact hT b h1
 refine ⟨h.mem.keepS k fun i b hb=>.inr (.inl (h.own i b hb).1),h.agr,hk,h.own,?_,(hT D (.inl h.td)).trans h.dfr,h.tl,h.td,h.t0,h.vt,fun b hb=>Nat.lt_of_lt_of_le (h.lo b hb) hz,h.nw⟩
 refine (GI j).keep h.facts (k.mono fun b hb=>?_)
 rcases hb.2 with h1 | h1 | h1
 ·exact .inl h1
 ·exact .inr (.inl h1.1)
 exact .inr (.inr h1)
def rfQ (o : Out) : Option (Operand × List Nat × Code × Code):=match o.cur with | .code (.rangeFunc g ps a b)=>some (g,ps.toList,a,b) | _=>none
def de6 (o : Out) : List Nat:=match rfQ o with | some (_,ps,_,_)=>ps | none=>[]
def rfA (o : Out) : Code:=match rfQ o with | some (_,_,a,_)=>a | none=>.skip
def rfB (o : Out) : Code:=match rfQ o with | some (_,_,_,b)=>b | none=>.skip
def rfF (o : Out) : Option Value:=match rfQ o with | some (g,_,_,_)=>(match opd o.st.fr g with | some (.one (.val v))=>some v | _=>none) | none=>none
noncomputable def rfO (E : Env) (N : Nat) (o : Out) (ls : List SV) (hp : List HE) : Out:=exec E false N ⟨.code (rfA o),[],⟨aj4 (de6 o) ls o.st.fr,hp⟩,[]⟩
def a93 (o : Out) : Bool:=match o.cur,o.k,o.vc with | .ex .normal,[],[]=>true | _,_,_=>false
end
abbrev M7 (fn : FuncId) (tmps : Array Value) (ps : Array Tmp) (A B : Code) (D : Nat) (st : LoopState) (pe : Option Code) : Loop:={ state:=st,pending:=pe,fn:=fn,tmps:=tmps,params:=ps,assign:=A,body:=B,defers:=D }
theorem G7 {w : World} {l : Nat} {x : Obj} : Keeps (fun b=>b ≠ l) w (w.putObj l x):=
 ⟨rfl,rfl,rfl,by rw [World.putObj_size]; exact Nat.le_refl _,fun k _ hk=>World.putObj_heap_other hk⟩
section
variable {ι : Type} {c : Cx} {hpI : ι → List HE} {GI : ι → Gh} {pN : ι → Prop} {pX : Exit → ι → Prop} {W W1 : World} {l D N0 : Nat} {T0 T V : Nat → Prop} {β β0 : Nat → Nat} {j : ι}
def dv5 (c : Cx) (N0 : Nat) (β0 : Nat → Nat) (W : World) (l D : Nat) (T0 : Nat → Prop) (hpI : ι → List HE) (GI : ι → Gh) (pN : ι → Prop) (pX : Exit → ι → Prop) (R : LoopState → Option Code → Loop) (f : Bool) (T V : Nat → Prop) (W1 : World) : Prop:=
 ∃ j β,RngJ c N0 β0 W l D T0 hpI GI j β T V W1 ∧ match f with
  | true=>pN j ∧ W1.heap[l]? = some (.loop (R .ready none))
  | false=>(pX .ret j ∧ W1.heap[l]? = some (.loop (R .done (some .ret)))) ∨ ∃ id,pX (.exit id) j ∧ W1.heap[l]? = some (.loop (R .done (some (.exit id))))
theorem ca4 {o : Out} (h : a93 o = true) : o.cur = .ex .normal ∧ o.k = [] ∧ o.vc = []:=by
 unfold a93 at h
 split at h
 ·rename_i h1 h2 h3; exact ⟨h1,h2,h3⟩
 cases h
theorem bs3 {oA : St} {V' : Nat → Prop} {β2 : Nat → Nat} {w1 w3 : World} {j' : ι} {ρ3 : Fr} (hc : c.Ok) (h : RngJ c N0 β0 W l D T0 hpI GI j β T V W1) (hlD : l ≠ D) (hT0l : T0 l) (hW : c.w0.heap.size ≤ W1.heap.size) (hN0 : N0 ≤ (hpI j).length) (hV' : ∀ b,V' b → ¬ T b ∧ b < W1.heap.size)
  (R : LoopState → Option Code → Loop) (hS2 : (hpI j).length ≤ oA.hp.length ∧ ∀ i,i < (hpI j).length → β2 i = β i) (hlow2 : ∀ i k,m7 β2 oA.hp i k → W1.heap.size ≤ k ∨ ∃ i',m7 β (hpI j) i' k)
  (hw2 : Keeps (fun b=>∀ i,¬ m7 β (hpI j) i b) W1 w1)
  (hr : RelI ⟨c.P,c.n,c.E,w1.putObj l (.loop (R .busy none)),fun b=>c.S0 b ∧ ((b < W.heap.size ∧ ¬ T0 b) ∨ (T b ∧ b ≠ l ∧ b ≠ D) ∨ V' b ∨ W1.heap.size ≤ b),fun b=>∀ i,¬ m7 β2 oA.hp i b,fun _ _ _=>False,oA.hp.length,β2⟩ (fun j=>⟨[],hpI j⟩) GI j' ρ3 w3) :
  w3.heap[l]? = some (.loop (R .busy none)) ∧ ∀ x : Obj,∃ β3 T',RngJ c N0 β0 W l D T0 hpI GI j' β3 T' V' (w3.putObj l x) ∧ Keeps (fun b=>¬ T b) W1 (w3.putObj l x) ∧ (∀ b,T' b → T b ∨ W1.heap.size ≤ b) ∧ (w3.putObj l x).heap[l]? = some x:=by
 obtain ⟨β3,⟨hS3,hag3⟩,hw3,hG3⟩:=hr
 simp only at hS3 hag3 hw3 hG3
 have hl1 : l < W1.heap.size:=h.lo l h.tl
 have hD1 : D < W1.heap.size:=h.lo D h.td
 have hl2 : l < w1.heap.size:=Nat.lt_of_lt_of_le hl1 hw2.size
 have hz2 : (w1.putObj l (.loop (R .busy none))).heap.size = w1.heap.size:=World.putObj_size
 have hne2 : ∀ i b,m7 β2 oA.hp i b → b ≠ l ∧ b ≠ D:=by
  intro i b hb
  rcases hlow2 i b hb with h1 | ⟨i',h1⟩
  ·exact ⟨by omega,by omega⟩
  exact (h.own i' b h1).2
 have hrec2 : (w1.putObj l (.loop (R .busy none))).heap[l]? = some (.loop (R .busy none)):=World.putObj_heap_same hl2
 have hrec3 : w3.heap[l]? = some (.loop (R .busy none)):=(hw3.block l (by rw [hz2]; exact hl2) fun i hi=>(hne2 i l hi).1 rfl).trans hrec2
 have hl3 : l < w3.heap.size:=(Array.getElem?_eq_some_iff.1 hrec3).1
 refine ⟨hrec3,fun x=>?_⟩
 have hk4 : Keeps (fun b=>(∀ i,¬ m7 β (hpI j) i b) ∧ b ≠ l) W1 (w3.putObj l x):=by
  refine Keeps.behind (Keeps.behind (Keeps.behind (hw2.mono fun b hb=>hb.1) (G7 (x:=.loop (R .busy none))) fun b _ hb=>hb.2) hw3 ?_) (G7 (x:=x)) fun b _ hb=>hb.2
  intro b hb hb2 i hi
  rcases hlow2 i b hi with h1 | ⟨i',h1⟩
  ·omega
  exact hb2.1 i' h1
 have hz4 : w3.heap.size = (w3.putObj l x).heap.size:=World.putObj_size.symm
 have hmine3 : ∀ i b,m7 β3 (hpI j') i b → W1.heap.size ≤ b ∨ ∃ i',m7 β (hpI j) i' b:=by
  intro i b hb
  rcases (hS3.mem.low i b hb).1 with h1 | h1
  ·have h2 : (w1.putObj l (.loop (R .busy none))).heap.size ≤ b:=h1
   rw [hz2] at h2
   exact .inl (Nat.le_trans hw2.size h2)
  obtain ⟨i',h2⟩:=Classical.not_forall.1 h1
  exact hlow2 i' b (Classical.not_not.1 h2)
 have hne3 : ∀ i b,m7 β3 (hpI j') i b → b ≠ l ∧ b ≠ D:=by
  intro i b hb
  rcases hmine3 i b hb with h1 | ⟨i',h1⟩
  ·exact ⟨by omega,by omega⟩
  exact (h.own i' b h1).2
 have hlow3 : ∀ i b,m7 β3 (hpI j') i b → b < (w3.putObj l x).heap.size:=fun i b hb=>by rw [← hz4]; exact (hS3.mem.low i b hb).2
 have hSl : ∀ b,(c.S0 b ∧ ((b < W.heap.size ∧ ¬ T0 b) ∨ (T b ∧ b ≠ l ∧ b ≠ D) ∨ V' b ∨ W1.heap.size ≤ b)) → b ≠ l:=by
  rintro b ⟨_,h1 | h1 | h1 | h1⟩
  ·exact fun e=>h1.2 (e ▸ hT0l)
  ·exact h1.2.1
  ·exact fun e=>(hV' b h1).1 (e ▸ h.tl)
  omega
 refine ⟨β3,fun b=>T b ∨ (W1.heap.size ≤ b ∧ b < (w3.putObj l x).heap.size),⟨?_,?_,?_,?_,?_,?_,.inl h.tl,.inl h.td,fun b hb=>.inl (h.t0 b hb),?_,?_,?_⟩,hk4.mono fun b hb=>⟨fun i hi=>hb (h.own i b hi).1,fun e=>hb (e ▸ h.tl)⟩,?_,World.putObj_heap_same hl3⟩
 ·refine (hS3.mem.keepS (G7 (x:=x)) fun i b hb=>(hne3 i b hb).1).rebase fun i b hb=>?_
  rcases hmine3 i b hb with h1 | ⟨i',h1⟩
  ·exact .inl (Nat.le_trans hW h1)
  exact (h.mem.low i' b h1).1
 ·intro i hi
  have h1 : i < (hpI j).length:=Nat.lt_of_lt_of_le hi hN0
  exact ((hag3 i (Nat.lt_of_lt_of_le h1 hS2.1)).trans (hS2.2 i h1)).trans (h.agr i hi)
 ·refine Keeps.behind h.k0 hk4 fun b hb hb2=>⟨fun i hi=>?_,fun e=>hb2 (e ▸ hT0l)⟩
  rcases h.nw b (h.own i b hi).1 with h1 | h1
  ·exact hb2 h1
  omega
 ·intro i b hb
  refine ⟨?_,hne3 i b hb⟩
  rcases hmine3 i b hb with h1 | ⟨i',h1⟩
  ·exact .inr ⟨h1,hlow3 i b hb⟩
  exact .inl (h.own i' b h1).1
 ·have g1:=(GI j').keep hG3 ((G7 (w:=w3) (l:=l) (x:=x)).mono fun b hb=>hSl b hb.1)
  refine (GI j').mono g1 fun b hb hs=>⟨⟨hs.1.1,hs.2⟩,?_⟩
  rcases hs.1.2 with h1 | h1 | h1 | h1
  ·exact .inl h1
  ·exact .inr (.inl ⟨.inl h1.1,h1.2⟩)
  ·exact .inr (.inr h1)
  exact .inr (.inl ⟨.inr ⟨h1,hb⟩,by omega,by omega⟩)
 ·exact (hk4.block D hD1 ⟨fun i hi=>(h.own i D hi).2.2 rfl,fun e=>hlD e.symm⟩).trans h.dfr
 ·rintro b hb (h1 | h1)
  ·exact (hV' b hb).1 h1
  have:=(hV' b hb).2
  omega
 ·rintro b (h1 | h1)
  ·exact Nat.lt_of_lt_of_le (h.lo b h1) hk4.size
  exact h1.2
 ·rintro b (h1 | h1)
  ·exact h.nw b h1
  exact .inr (Nat.le_trans h.k0.size h1.1)
 rintro b (h1 | h1)
 ·exact .inl h1
 exact .inr h1.1
theorem cq1 {fr : List (Nat × SV)} {fn : FuncId} {tmps : Array Value} {ps : Array Tmp} {A B : Code} {ρ : Fr} {x : List Value} {ls : List SV} {N : Nat} {V' : Nat → Prop} {F : Gh} (hc : c.Ok) (h : RngJ c N0 β0 W l D T0 hpI GI j β T V W1)
  (hrec : W1.heap[l]? = some (.loop (M7 fn tmps ps A B D .ready none))) (hlD : l ≠ D) (hT0l : T0 l) (hW : c.w0.heap.size ≤ W1.heap.size) (hm : @MtI ⟨some l,false⟩ c.n [] { tmps:=tmps,defers:=[] } ρ) (hfr : ∀ d,Kn β0 N0 (H4 fr d) (ρ d)) (hN0 : N0 ≤ (hpI j).length)
  (hokA : E8 c.n A = true) (hokB : E8 c.n B = true) (hps : ps.toList.all (fun d=>Nat.blt d c.n) = true) (hx : ls.map (SV.den fun _=>0) = x) (hls : ∀ s ∈ ls,s.Ok 0) (hlen : x.length = ps.size)
  (hVV : ∀ b,V b → V' b) (hV' : ∀ b,V' b → ¬ T b ∧ b < W1.heap.size ∧ c.S0 b) (hF : F.p V' W1)
  (hnA : a93 (exec c.E false N ⟨.code A,[],⟨aj4 ps.toList ls fr,hpI j⟩,[]⟩) = true)
  (hB : ∀ (i : Rd) (w1 : World) (S K : Nat → Prop) (m : Nat) (b : Nat → Nat),(Cx.rnd ⟨c.P,c.n,c.E,w1,S,K,fun _ _ _=>False,m,b⟩ hpI GI pN pX).Ok →
   Run (Cx.rnd ⟨c.P,c.n,c.E,w1,S,K,fun _ _ _=>False,m,b⟩ hpI GI pN pX) ⟨.code B,[],(exec c.E false N ⟨.code A,[],⟨aj4 ps.toList ls fr,hpI j⟩,[]⟩).st,[]⟩ (F.and (GI j))) :
  YieldAt Fence.wide 0 c.P l x.toArray W1 fun e W'=>∃ f T',e = .returned (.bool f) ∧ dv5 c N0 β0 W l D T0 hpI GI pN pX (M7 fn tmps ps A B D) f T' V' W' ∧ Keeps (fun b=>¬ T b) W1 W' ∧ ∀ b,T' b → T b ∨ W1.heap.size ≤ b:=by
 letI i0 : Rd:=⟨some l,false⟩
 obtain ⟨oA,hoA⟩ : ∃ oA,exec c.E false N ⟨.code A,[],⟨aj4 ps.toList ls fr,hpI j⟩,[]⟩ = oA:=⟨_,rfl⟩
 rw [hoA] at hnA hB
 obtain ⟨hn1,hn2,hn3⟩:=ca4 hnA
 have hl1 : l < W1.heap.size:=h.lo l h.tl
 have hD1 : D < W1.heap.size:=h.lo D h.td
 have hmS : ∀ i k,m7 β (hpI j) i k → c.S0 k:=fun i k hk=>by
  rcases (h.mem.low i k hk).1 with h1 | h1
  ·exact hc.up k h1
  exact hc.lent k h1
 let SA : Nat → Prop:=fun b=>c.S0 b ∧ ((b < W.heap.size ∧ ¬ T0 b) ∨ (T b ∧ b ≠ l ∧ b ≠ D) ∨ V' b ∨ W1.heap.size ≤ b)
 let KA : Nat → Prop:=fun b=>∀ i,¬ m7 β (hpI j) i b
 have hup : Up SA W1:=fun k hk=>⟨hc.up k (Nat.le_trans hW hk),.inr (.inr (.inr hk))⟩
 have hlA : ∀ k,¬ KA k → ∃ i,m7 β (hpI j) i k:=fun k hk=>by
  obtain ⟨i,hi⟩:=Classical.not_forall.1 hk
  exact ⟨i,Classical.not_not.1 hi⟩
 have hSA : ∀ i k,m7 β (hpI j) i k → SA k:=fun i k hk=>⟨hmS i k hk,.inr (.inl (h.own i k hk))⟩
 let cA : Cx:=⟨c.P,c.n,c.E,W1,SA,KA,fun e ρ w=>e = .normal ∧ ∃ β',Sat ⟨W1.heap.size,KA,(hpI j).length,β⟩ oA.st β' ρ w ∧ Keeps KA W1 w ∧ (F.and (GI j)).p (Sof SA β' oA.st.hp) w,(hpI j).length,β⟩
 have hcA : cA.Ok:=⟨hc.env,hup,fun k hk=>by obtain ⟨i,hi⟩:=hlA k hk; exact hSA i k hi⟩
 have hA : Run cA ⟨.code A,[],⟨aj4 ps.toList ls fr,hpI j⟩,[]⟩ (F.and (GI j)):=by
  refine cg0 (un:=false) hcA (N:=N) ?_ ?_
  ·show L5 (exec c.E false N ⟨.code A,[],⟨aj4 ps.toList ls fr,hpI j⟩,[]⟩).vc
   rw [hoA,hn3]
   trivial
  show Run cA (exec c.E false N ⟨.code A,[],⟨aj4 ps.toList ls fr,hpI j⟩,[]⟩) (F.and (GI j))
  rw [hoA]
  refine ⟨fun β' ρ' w' hS hw hG=>?_⟩
  rw [hn1,hn2]
  exact ⟨rfl,β',hS,hw,hG⟩
 have hxβ : ls.map (SV.den β) = x:=by
  rw [← hx]
  exact List.map_congr_left fun s hs=>SV.den_congr (m:=0) (fun i hi=>absurd hi (Nat.not_lt_zero i)) (hls s hs)
 have hS1 : Sat cA.bs ⟨aj4 ps.toList ls fr,hpI j⟩ β (bx9 ps.toList x ρ) W1:=by
  refine ⟨fun d=>?_,h.mem.rebase fun i k hk=>.inr fun h2=>h2 i hk,Nat.le_refl _,fun _ _=>rfl⟩
  rw [← hxβ]
  refine c30 (fun d s hs=>?_) (fun s hs=>(hls s hs).le (Nat.zero_le _)) d
  obtain ⟨h1,h2⟩:=hfr d s hs
  exact ⟨h1.trans (SV.den_congr (fun i hi=>(h.agr i hi).symm) h2),h2.le hN0⟩
 have hG1 : (F.and (GI j)).p (Sof SA β (hpI j)) W1:=⟨F.mono hF fun b _ hb=>⟨⟨(hV' b hb).2.2,.inr (.inr (.inl hb))⟩,fun i hi=>(hV' b hb).1 (h.own i b hi).1⟩,(GI j).mono h.facts fun b _ hb=>⟨⟨hb.1.1,hb.2.elim .inl fun h1=>h1.elim (fun h1=>.inr (.inl h1)) fun h1=>.inr (.inr (.inl (hVV b h1)))⟩,hb.1.2⟩⟩
 have hmt:=dg1 (vs:=x) hm hps
 have h1:=ch8 (hA.run β _ W1 hS1 .refl hG1) hokA [] _ hmt
 refine ⟨fn,_,A,B,run_yield hrec (by simpa using hlen),roundIn_of_wpIn trivial ?_⟩
 have ht : (ps.zip x.toArray).foldl (fun tmps (t,a)=>tmps.setIfInBounds t a) tmps = (ps.toList.zip x).foldl (fun t p=>t.setIfInBounds p.1 p.2) tmps:=by
  rw [← Array.foldl_toList,Array.toList_zip]
 show A.wpIn (Fence.wide.inRound l) 0 c.P _ { tmps:=(ps.zip x.toArray).foldl (fun tmps (t,a)=>tmps.setIfInBounds t a) tmps,defers:=[] } W1
 rw [ht]
 refine Go.wpIn_mono h1 ?_
 rintro e a1 w1 ⟨ρ2,hm2,rfl,β2,hS2,hw2,hG2⟩
 have hrec1 : w1.heap[l]? = some (.loop (M7 fn tmps ps A B D .ready none)):=(hw2.block l hl1 fun i hi=>(h.own i l hi).2.1 rfl).trans hrec
 refine ⟨_,run_beginRound hrec1 rfl,?_⟩
 have hl2 : l < w1.heap.size:=Nat.lt_of_lt_of_le hl1 hw2.size
 have hz2 : (w1.putObj l (.loop (M7 fn tmps ps A B D .busy none))).heap.size = w1.heap.size:=World.putObj_size
 have hlow2 : ∀ i k,m7 β2 oA.st.hp i k → W1.heap.size ≤ k ∨ ∃ i',m7 β (hpI j) i' k:=by
  intro i k hk
  rcases (hS2.mem.low i k hk).1 with h1 | h1
  ·exact .inl h1
  exact .inr (hlA k h1)
 have hne2 : ∀ i b,m7 β2 oA.st.hp i b → b ≠ l:=by
  intro i b hb
  rcases hlow2 i b hb with h1 | ⟨i',h1⟩
  ·omega
  exact (h.own i' b h1).2.1
 have hSl : ∀ b,SA b → b ≠ l:=by
  rintro b ⟨_,h1 | h1 | h1 | h1⟩
  ·exact fun e=>h1.2 (e ▸ hT0l)
  ·exact h1.2.1
  ·exact fun e=>(hV' b h1).1 (e ▸ h.tl)
  omega
 let w2:=w1.putObj l (.loop (M7 fn tmps ps A B D .busy none))
 let KB : Nat → Prop:=fun b=>∀ i,¬ m7 β2 oA.st.hp i b
 have hcB : (Cx.rnd ⟨c.P,c.n,c.E,w2,SA,KB,fun _ _ _=>False,oA.st.hp.length,β2⟩ hpI GI pN pX).Ok:=by
  refine ⟨hc.env,fun k hk=>hup k ?_,fun k hk=>?_⟩
  ·have : w2.heap.size ≤ k:=hk
   rw [hz2] at this
   exact Nat.le_trans hw2.size this
  obtain ⟨i,hi⟩:=Classical.not_forall.1 hk
  rcases hlow2 i k (Classical.not_not.1 hi) with h1 | ⟨i',h1⟩
  ·exact hup k h1
  exact hSA i' k h1
 have hS2' : Sat ⟨w2.heap.size,KB,oA.st.hp.length,β2⟩ oA.st β2 ρ2 w2:=
  ⟨hS2.fr,(hS2.mem.keepS G7 hne2).rebase fun i k hk=>.inr fun h2=>h2 i hk,Nat.le_refl _,fun _ _=>rfl⟩
 have hG2' : (F.and (GI j)).p (Sof SA β2 oA.st.hp) w2:=(F.and (GI j)).keep hG2 (G7.mono fun b hb=>hSl b hb.1)
 have h2:=ch8 ((hB i0 w2 SA KB oA.st.hp.length β2 hcB).run β2 ρ2 w2 hS2' .refl hG2') hokB [] a1 hm2
 refine Go.wpIn_mono h2 ?_
 rintro e a3 w3 ⟨ρ3,hm3,hq⟩
 cases e with
 | normal=>
  obtain ⟨j',hp,hr⟩:=hq
  obtain ⟨h3,h4⟩:=bs3 hc h hlD hT0l hW hN0 (fun b hb=>⟨(hV' b hb).1,(hV' b hb).2.1⟩) (M7 fn tmps ps A B D) hS2.agr hlow2 hw2 hr
  obtain ⟨β3,T',h5,h6,h7,h8⟩:=h4 (.loop (M7 fn tmps ps A B D .ready none))
  exact ⟨_,_,run_endRound none h3,true,T',rfl,⟨j',β3,h5,hp,h8⟩,h6,h7⟩
 | ret=>
  obtain ⟨j',hp,hr⟩:=hq
  obtain ⟨h3,h4⟩:=bs3 hc h hlD hT0l hW hN0 (fun b hb=>⟨(hV' b hb).1,(hV' b hb).2.1⟩) (M7 fn tmps ps A B D) hS2.agr hlow2 hw2 hr
  obtain ⟨β3,T',h5,h6,h7,h8⟩:=h4 (.loop (M7 fn tmps ps A B D .done (some .ret)))
  exact ⟨_,_,run_endRound (some .ret) h3,false,T',rfl,⟨j',β3,h5,.inl ⟨hp,h8⟩⟩,h6,h7⟩
 | exit id=>
  obtain ⟨j',hp,hr⟩:=hq
  obtain ⟨h3,h4⟩:=bs3 hc h hlD hT0l hW hN0 (fun b hb=>⟨(hV' b hb).1,(hV' b hb).2.1⟩) (M7 fn tmps ps A B D) hS2.agr hlow2 hw2 hr
  obtain ⟨β3,T',h5,h6,h7,h8⟩:=h4 (.loop (M7 fn tmps ps A B D .done (some (.exit id))))
  exact ⟨_,_,run_endRound (some (.exit id)) h3,false,T',rfl,⟨j',β3,h5,.inr ⟨id,hp,h8⟩⟩,h6,h7⟩
 | _=>exact hq.elim
end
def dw7 (o : Out) : Bool:=(rfQ o).isSome
def rfN (o : Out) : Nat:=(de6 o).length
theorem bt0 {w : World} {x y : Obj} : Ext w ((w.alloc x).alloc y):=(M6 w x).trans (M6 _ y)
section
variable {ι : Type}
theorem da3 {c : Cx} {o : Out} {G : Gh} [i : Rd] (gf : FuncId) (lb : List Value) (X : Nat → List Value → Gh) (n n0 : Nat) (hpI : ι → List HE) (GI : ι → Gh) (pre : ι → Prop) (kk : ι → Nat) (prx : Exit → ι → Prop) (ls : ι → List Value → List SV) (N : Nat) (ms : List Nat) (j0 : ι) (hr : i.r = none) (hdm : i.dm = true) (hc : c.Ok) [hcl : CallI c.P gf]
  (hq : dw7 o = true) (hF : rfF o = some (.func (.func gf) #[] lb.toArray)) (hms : H4 o.st.fr c.n = some (mkS ms)) (hn0 : c.w0.heap.size ≤ n0) (hseq : ∀ S w,Keeps c.K c.w0 w → G.p S w → (dk7 c.P gf lb X n n0).p S w)
  (hl : ∀ j,o.st.hp.length ≤ (hpI j).length) (hp0 : pre j0) (hk0 : kk j0 = 0) (hsub : bu1 o.st ⟨[],hpI j0⟩) (hok : ∀ S w,Keeps c.K c.w0 w → G.p S w → aj7 ⟨[],hpI j0⟩) (hg : ∀ S w,Keeps c.K c.w0 w → G.p S w → (GI j0).p S w)
  (hx : ∀ j x S w,pre j → kk j < n → (X (kk j) x).p S w → (ls j x).map (SV.den fun _=>0) = x ∧ SVsOk (ls j x) ∧ (ls j x).length = rfN o)
  (hA : ∀ j x,pre j → kk j < n → a93 (rfO c.E N o (ls j x) (hpI j)) = true)
  (hB : ∀ j x (i' : Rd) (w1 : World) (S K : Nat → Prop) (m : Nat) (b : Nat → Nat),pre j → kk j < n → (Cx.rnd ⟨c.P,c.n,c.E,w1,S,K,fun _ _ _=>False,m,b⟩ hpI GI (fun j'=>pre j' ∧ kk j' = kk j + 1) prx).Ok →
   Run (Cx.rnd ⟨c.P,c.n,c.E,w1,S,K,fun _ _ _=>False,m,b⟩ hpI GI (fun j'=>pre j' ∧ kk j' = kk j + 1) prx) ⟨.code (rfB o),[],(rfO c.E N o (ls j x) (hpI j)).st,[]⟩ ((X (kk j) x).and (GI j)))
  (h1 : ∀ D j,pre j → kk j = n → Run c ⟨.ex .normal,o.k,⟨(c.n,mkS (D :: ms)) :: o.st.fr,hpI j ++ [.abs (dfE D)]⟩,[]⟩ (GI j))
  (h2 : ∀ D j e,prx e j → (e = .ret ∨ ∃ id,e = .exit id) → Run c ⟨.ex e,o.k,⟨(c.n,mkS (D :: ms)) :: o.st.fr,hpI j ++ [.abs (dfE D)]⟩,[]⟩ (GI j)) : Run c o G:=by
 refine ⟨fun β0 ρ w hS hw hG=>?_⟩
 obtain ⟨hS0,hsof⟩:=hS.sub hsub (hok _ _ hw hG)
 have hg0:=hg _ _ hw hG
 obtain ⟨hsz,hsq⟩:=hseq _ _ hw hG
 unfold rfF at hF
 unfold dw7 at hq
 unfold rfN de6 at hx
 unfold rfO de6 rfA at hA hB
 unfold rfB at hB
 cases hQ : rfQ o with
 | none=>rw [hQ] at hq; cases hq
 | some y=>
 obtain ⟨g,psl,A,B⟩:=y
 rw [hQ] at hF hx hA hB
 simp only at hF hx hA hB
 have hcur : ∃ ps : Array Tmp,o.cur = .code (.rangeFunc g ps A B) ∧ psl = ps.toList:=by
  unfold rfQ at hQ
  split at hQ
  ·rename_i g' ps' a' b' e
   simp only [Option.some.injEq,Prod.mk.injEq] at hQ
   obtain ⟨rfl,rfl,rfl,rfl⟩:=hQ
   exact ⟨ps',e,rfl⟩
  cases hQ
 obtain ⟨ps,hcur,rfl⟩:=hcur
 have hgo : opd o.st.fr g = some (.one (.val (.func (.func gf) #[] lb.toArray))):=by
  split at hF
  ·rename_i v e
   simp only [Option.some.injEq] at hF
   subst hF
   exact e
  cases hF
 rw [hcur]
 show WqC c.P c.n (.rangeFunc g ps A B) (kQ c.P c.n c.Q o.k) ρ w
 refine c25 fun hcok D0 a hm=>?_
 simp only [E8,Bool.and_eq_true] at hcok
 obtain ⟨⟨⟨hg1,hps⟩,hokA⟩,hokB⟩:=hcok
 refine wpIn_rangeFunc fun fn _=>?_
 rw [cw1,hr]
 have hgv : a.eval g = .func (.func gf) #[] lb.toArray:=(hm.opd hg1).trans ((ab1 (fun t _=>hS.fr t)) _ hgo).1
 obtain ⟨W,hW⟩ : ∃ W,(w.alloc (.deferred (some []))).alloc (.loop (M7 fn a.tmps ps A B w.heap.size .ready none)) = W:=⟨_,rfl⟩
 have hzW : W.heap.size = w.heap.size + 2:=by rw [← hW]; simp
 have hxW : Ext w W:=by rw [← hW]; exact bt0
 have hWl : W.heap[w.heap.size + 1]? = some (.loop (M7 fn a.tmps ps A B w.heap.size .ready none)):=by
  rw [← hW]; have:=World.alloc_heap_new (w.alloc (.deferred (some []))) (.loop (M7 fn a.tmps ps A B w.heap.size .ready none)); rwa [World.size_alloc] at this
 have hWD : W.heap[w.heap.size]? = some (.deferred (some [])):=by
  rw [← hW]; exact (Below.heap_alloc _ _ _ (by simp)).trans (World.alloc_heap_new w _)
 let T0 : Nat → Prop:=fun b=>(∃ i,m7 β0 (hpI j0) i b) ∨ b = w.heap.size ∨ b = w.heap.size + 1
 have hT0w : ∀ b,b < w.heap.size → T0 b → ∃ i,m7 β0 (hpI j0) i b:=by
  rintro b hb (h3 | h3 | h3)
  ·exact h3
  ·omega
  omega
 have hw0 : c.w0.heap.size ≤ w.heap.size:=hw.size
 let J : (Nat → Prop) → (Nat → Prop) → Nat → Bool → World → Prop:=fun T V k f W1=>dv5 c o.st.hp.length β0 W (w.heap.size + 1) w.heap.size T0 hpI GI (fun j=>pre j ∧ kk j = k) prx (M7 fn a.tmps ps A B w.heap.size) f T V W1
 have hJ0 : J T0 (fun _=>False) 0 true W:=by
  refine ⟨j0,β0,⟨?_,fun _ _=>rfl,.refl,?_,?_,hWD,.inr (.inr rfl),.inr (.inl rfl),fun _ hb=>hb,fun _ hb=>hb.elim,?_,fun b hb=>.inl hb⟩,⟨hp0,hk0⟩,hWl⟩
  ·exact (hS0.mem.rebase (base':=c.bs) fun i k hk=>(hS0.mem.low i k hk).1).to hxW
  ·intro i b hb
   have:=(hS0.mem.low i b hb).2
   exact ⟨.inl ⟨i,hb⟩,by omega,by omega⟩
  ·have g1:=(GI j0).mono hg0 (S':=fun b=>Sof c.S0 β0 o.st.hp b ∧ b < w.heap.size) fun b hb hs=>⟨hs,hb⟩
   refine (GI j0).mono ((GI j0).keep g1 (Keeps.of hxW)) fun b _ hb=>⟨hsof _ _ hb.1,.inl ⟨by omega,fun h3=>?_⟩⟩
   obtain ⟨i,h4⟩:=hT0w b hb.2 h3
   exact (hsof _ _ hb.1).2 i h4
  ·rintro b (⟨i,h3⟩ | h3 | h3)
   ·have:=(hS0.mem.low i b h3).2
    omega
   ·omega
   omega
 have hA' : SeqA c.P (w.heap.size + 1) X n (fun b=>(Sof c.S0 β0 o.st.hp b ∧ b < n0) ∨ n0 ≤ b) W T0 J:=by
  refine ⟨?_,?_,?_,?_⟩
  ·rintro T V k f W1 W2 ⟨j,β,h3,h4⟩ hz hT hk
   refine ⟨j,β,h3.stab hz hT hk,?_⟩
   cases f with
   | true=>exact ⟨h4.1,(hT _ (.inl h3.tl)).trans h4.2⟩
   | false=>exact h4.imp (fun h5=>⟨h5.1,(hT _ (.inl h3.tl)).trans h5.2⟩) fun ⟨id,h5⟩=>⟨id,h5.1,(hT _ (.inl h3.tl)).trans h5.2⟩
  ·rintro T V k f W1 ⟨j,β,h3,_⟩
   exact h3.lo
  ·rintro T V k f W1 ⟨j,β,h3,_⟩
   exact h3.t0
  rintro T V V' k x W1 hlt ⟨j,β,h3,⟨hp,rfl⟩,hrec⟩ hk hVV hV' hF'
  obtain ⟨x1,x2,x3⟩:=hx j x _ _ hp hlt hF'
  have hmr : @MtI ⟨some (w.heap.size + 1),false⟩ c.n [] { tmps:=a.tmps,defers:=[] } ρ:=@MtI.mk ⟨some (w.heap.size + 1),false⟩ c.n [] { tmps:=a.tmps,defers:=[] } ρ hm.size rfl hm.get
  refine cq1 (fr:=o.st.fr) (ρ:=ρ) (N:=N) hc h3 hrec (by omega) (.inr (.inr rfl)) (Nat.le_trans hw0 (Nat.le_trans hxW.size hk.size)) hmr hS.fr (hl j) hokA hokB hps x1 (SVsOk.all x2) ?_ hVV (fun b hb=>⟨(hV' b hb).1,(hV' b hb).2.1,?_⟩) hF' (hA j x hp hlt) (fun i' w1 S K m b h4=>hB j x i' w1 S K m b hp hlt h4)
  ·rw [← x1,List.length_map,x3]
   simp
  rcases (hV' b hb).2.2 with h4 | h4
  ·exact h4.1.1
  exact hc.up b (Nat.le_trans hn0 h4)
 have hkw : ∀ W3 x,Keeps (fun b=>¬ T0 b) W W3 → Keeps c.K c.w0 (W3.putObj (w.heap.size + 1) x):=by
  intro W3 x hk
  have h3 : Keeps (fun b=>¬ T0 b) w (W3.putObj (w.heap.size + 1) x):=Keeps.behind (Keeps.behind (Keeps.of hxW) hk fun b _ hb=>hb) (G7 (x:=x)) fun b hb hb2=>by omega
  refine Keeps.behind hw h3 fun b hb hb2 hT=>?_
  obtain ⟨i,h4⟩:=hT0w b (by omega) hT
  rcases (hS0.mem.low i b h4).1 with h5 | h5
  ·have h6 : c.w0.heap.size ≤ b:=h5
   omega
  exact h5 hb2
 have fin : ∀ j β T V W3 x,RngJ c o.st.hp.length β0 W (w.heap.size + 1) w.heap.size T0 hpI GI j β T V W3 →
   Sat c.bs ⟨(c.n,mkS (w.heap.size :: ms)) :: o.st.fr,hpI j ++ [.abs (dfE w.heap.size)]⟩ β (upd ρ c.n ((mkS (w.heap.size :: ms)).den β)) (W3.putObj (w.heap.size + 1) x) ∧
   (GI j).p (Sof c.S0 β (hpI j ++ [.abs (dfE w.heap.size)])) (W3.putObj (w.heap.size + 1) x) ∧
   MtI c.n D0 { a with defers:=[mkD w.heap.size] ++ a.defers } (upd ρ c.n ((mkS (w.heap.size :: ms)).den β)):=by
  intro j β T V W3 x h3
  have hD3:=h3.lo _ h3.td
  have hlen : o.st.hp.length ≤ (hpI j ++ [HE.abs (dfE w.heap.size)]).length:=by
   have:=hl j
   simp
   omega
  refine ⟨⟨fun d s hs=>?_,?_,Nat.le_trans hS.agr.1 hlen,fun i hi=>(h3.agr i (Nat.lt_of_lt_of_le hi hS.agr.1)).trans (hS.agr.2 i hi)⟩,?_,?_,?_,?_⟩
  ·rw [F8] at hs
   rw [ab7]
   split at hs
   ·rename_i e
    simp only [Option.some.injEq] at hs
    subst hs
    rw [if_pos e]
    exact ⟨rfl,du0 _⟩
   rename_i e
   rw [if_neg e]
   obtain ⟨h4,h5⟩:=hS.fr d s hs
   exact ⟨h4.trans (SV.den_congr (fun i hi=>(h3.agr i hi).symm) h5),h5.le hlen⟩
  ·refine Mem.snoc (h3.mem.keepS G7 fun i b hb=>(h3.own i b hb).2.1) ?_ ?_ ?_
   ·exact (World.putObj_heap_other (by omega)).trans h3.dfr
   ·rintro k rfl
    exact ⟨.inl hw0,by rw [World.putObj_size]; exact hD3⟩
   rintro i k hk rfl
   exact (h3.own i _ hk).2.2 rfl
  ·have g1:=(GI j).keep h3.facts ((G7 (w:=W3) (l:=w.heap.size + 1) (x:=x)).mono fun b hb=>?_)
   ·refine (GI j).mono g1 fun b _ hb=>⟨hb.1.1,fun i hi=>?_⟩
    rcases ao3 hi with h4 | ⟨_,h4⟩
    ·exact hb.1.2 i h4
    have h5 : b = w.heap.size:=h4
    rcases hb.2 with h6 | h6 | h6
    ·exact h6.2 (.inr (.inl h5))
    ·exact h6.2.2 h5
    exact h3.vt b h6 (h5 ▸ h3.td)
   rcases hb.2 with h6 | h6 | h6
   ·exact fun e=>h6.2 (.inr (.inr e))
   ·exact h6.2.1
   exact fun e=>h3.vt b h6 (e ▸ h3.tl)
  ·exact hm.size
  ·show [mkD w.heap.size] ++ a.defers = bl4 (upd ρ c.n ((mkS (w.heap.size :: ms)).den β) c.n) ++ D0
   have h4:=hm.defers
   have h5 : ρ c.n = (mkS ms).den β0:=((hS.fr c.n) _ hms).1
   unfold bl4 at h4 ⊢
   rw [B1,hdm,cond_true,a14]
   rw [h5,hdm,cond_true,a14] at h4
   rw [h4]
   rfl
  intro t ht
  rw [ab7,if_neg (show c.n ≠ t by omega)]
  exact hm.get t ht
 refine ⟨w.heap.size + 1,[mkD w.heap.size],W,{ target:=.fn (.func gf) lb.toArray,args:=#[ac2 (w.heap.size + 1)] },W,gf,#[ac2 (w.heap.size + 1)] ++ lb.toArray,W,?_,?_,fun f' _=>Y3 f',?_,al3,ai9 ?_⟩
 ·rw [← hW]; exact run_enterLoop_outer _ _ _ _ _
 ·simp only [resolve,hgv]
  simp [go_sem,ac2]
 ·simp [invoke,go_sem,hcl.run]
 have h3:=hsq (w.heap.size + 1) W T0 J (Keeps.of hxW) (fun b hb hs hT=>by obtain ⟨i,h4⟩:=hT0w b hb hT; exact (hsof _ _ hs).2 i h4) hA' hJ0
 unfold Gives at h3
 have e : (ac2 (w.heap.size + 1) :: lb).toArray = #[ac2 (w.heap.size + 1)] ++ lb.toArray:=by simp
 rw [e] at h3
 refine Calls.mono h3 ?_
 rintro e W3 ⟨v,rfl,hk3,T',V',k,hJ⟩
 rcases hJ with ⟨rfl,j,β,h4,⟨hp,hkj⟩,hrec⟩ | ⟨j,β,h4,h5⟩
 ·obtain ⟨f1,f2,f3⟩:=fin j β T' V' W3 (.loop (M7 fn a.tmps ps A B w.heap.size .exhausted none)) h4
  exact ⟨none,_,run_endLoop hrec (by simp),⟨_,f3,(h1 w.heap.size j hp hkj).run β _ _ f1 (hkw W3 _ hk3) f2⟩⟩
 rcases h5 with ⟨hp,hrec⟩ | ⟨id,hp,hrec⟩
 ·obtain ⟨f1,f2,f3⟩:=fin j β T' V' W3 (.loop (M7 fn a.tmps ps A B w.heap.size .exhausted (some .ret))) h4
  exact ⟨some .ret,_,run_endLoop hrec (by simp),Go.wpIn_ret ⟨_,f3,(h2 w.heap.size j _ hp (.inl rfl)).run β _ _ f1 (hkw W3 _ hk3) f2⟩⟩
 obtain ⟨f1,f2,f3⟩:=fin j β T' V' W3 (.loop (M7 fn a.tmps ps A B w.heap.size .exhausted (some (.exit id)))) h4
 exact ⟨some (.exit id),_,run_endLoop hrec (by simp),Go.wpIn_exit ⟨_,f3,(h2 w.heap.size j _ hp (.inr ⟨id,rfl⟩)).run β _ _ f1 (hkw W3 _ hk3) f2⟩⟩
end
abbrev Cx.fnD (P : Program) (fn : Func) (E : Env) (w0 : World) (S0 K : Nat → Prop) (Ψ : Value → World → Prop) : Cx:=⟨P,fn.ntmps,E,w0,S0,K,b43 P fn Ψ,0,fun _=>0⟩
theorem c91 {P : Program} {E : Env} {S0 K : Nat → Prop} {f : FuncId} {fn : Func} {code : Code} {l : List SV} {hp : List HE} {β : Nat → Nat} {args : List Value} {w : World} {Ψ : Value → World → Prop} {G : Gh} (hf : P.funcs[f]? = some fn) (hb : fn.body = some code) (hok : a62 fn code = true)
  (hn : Nat.ble args.length fn.ntmps = true) (hl : SVsOkM hp.length l) (ha : l.map (SV.den β) = args) (hM : Mem (Bs.of w.heap.size K) hp β w) (hG : G.p (Sof S0 β hp) w)
  (h : ∀ i : Rd,i.dm = true → i.r = none → Run (Cx.fnD P fn E w S0 K Ψ) ⟨.code code,[],⟨(fn.ntmps,mkS []) :: bd0 0 l,hp⟩,[]⟩ G) : Gives P f args w Ψ:=by
 refine cl4 hf hb hok hn fun i h1 h2=>?_
 subst ha
 have h0:=bh4 (base:=Bs.of w.heap.size K) hl hM rfl
 refine (h i h1 h2).run β _ w ⟨fun d s hs=>?_,h0.mem,h0.agr⟩ .refl hG
 rw [F8] at hs
 split at hs
 ·rename_i e
  simp only [Option.some.injEq] at hs
  subst hs
  refine ⟨?_,trivial⟩
  have h3 : (l.map (SV.den β)).length ≤ d:=by rw [← e]; exact Nat.le_of_ble_eq_true hn
  show (l.map (SV.den β)).getD d undef = undef
  simp [List.getD_eq_getElem?_getD,List.getElem?_eq_none h3]
 exact h0.fr d s hs
theorem cx0 {P : Program} {E : Env} {S0 : Nat → Prop} {f : FuncId} {fn : Func} {code : Code} {l : List SV} {args : List Value} {w : World} {Ψ : Value → World → Prop} {G : Gh} (hf : P.funcs[f]? = some fn) (hb : fn.body = some code) (hok : a62 fn code = true)
  (hn : Nat.ble args.length fn.ntmps = true) (hl : SVsOk l) (ha : l.map (SV.den fun _=>0) = args) (hG : G.p S0 w)
  (h : ∀ i : Rd,i.r = none → i.dm = true → Run (Cx.fnD P fn E w S0 All Ψ) ⟨.code code,[],⟨(fn.ntmps,mkS []) :: bd0 0 l,[]⟩,[]⟩ G) : Gives P f args w Ψ:=by
 have aux : ∀ {r : List SV},SVsOk r → SVsOkM 0 r:=by
  intro r
  induction r with
  | nil=>intro _; trivial
  | cons s r ih=>intro h; exact ⟨h.1,ih h.2⟩
 exact c91 (hp:=[]) (β:=fun _=>0) hf hb hok hn (aux hl) ha (a29 (base:=Bs.of w.heap.size All) hl rfl).mem (G.mono hG fun k _ hk=>⟨hk,fun i hi=>by simp [m7] at hi⟩) fun i h1 h2=>h i h2 h1
theorem bw2 {m : Nat} {hp : List HE} (hm : hp.length = m) (h : hp.foldr (fun p q=>HE.Ok m p ∧ q) True) : aj7 ⟨[],hp⟩:=by
 subst hm
 have key : ∀ {m : Nat} {l : List HE},l.foldr (fun p q=>HE.Ok m p ∧ q) True → ∀ p ∈ l,HE.Ok m p:=by
  intro m l
  induction l with
  | nil=>intro _ p hp; cases hp
  | cons x r ih=>
   intro h p hp
   rcases List.mem_cons.1 hp with rfl | hp
   ·exact h.1
   exact ih h.2 p hp
 exact ⟨fun d s hs=>(by cases hs),key h⟩
def dg4 : List HE → List Nat → List Nat → Prop
 | _,[],[]=>True
 | hp,b :: bs,D :: ms=>nth hp b = some (.abs (dfE D)) ∧ dg4 (Y4 hp b .gone) bs ms
 | _,_,_=>False
def aq2 : List HE → List Nat → List HE
 | hp,[]=>hp
 | hp,b :: bs=>aq2 (Y4 hp b .gone) bs
theorem cw0 {base : Bs} {hp : List HE} {β : Nat → Nat} {w w' : World} {b : Nat} {A : AbsE} (h : Mem base hp β w) (hb : hp[b]? = some (.abs A)) (k : Keeps (fun g=>¬ A.Q g) w w') : Mem base (hp.set b .gone) β w' ∧ ∀ i g,m7 β (hp.set b .gone) i g → m7 β hp i g:=by
 have get : ∀ {i : Nat} {e : HE},(hp.set b .gone)[i]? = some e → (b ≠ i ∧ hp[i]? = some e) ∨ e = .gone:=by
  intro i e hi
  by_cases e0 : b = i
  ·subst e0
   rw [List.getElem?_set_self (List.getElem?_eq_some_iff.1 hb).1] at hi
   exact .inr (Option.some.inj hi).symm
  rw [List.getElem?_set_ne e0] at hi
  exact .inl ⟨e0,hi⟩
 have hm : ∀ i g,m7 β (hp.set b .gone) i g → b ≠ i ∧ m7 β hp i g:=by
  rintro i g ⟨e,he,hg⟩
  rcases get he with ⟨h1,h2⟩ | rfl
  ·exact ⟨h1,e,h2,hg⟩
  exact hg.elim
 have hA : ∀ i g,b ≠ i → m7 β hp i g → ¬ A.Q g:=fun i g hne hg hq=>hne (h.apart b i g ⟨_,hb,hq⟩ hg)
 refine ⟨⟨fun i T l hi=>?_,fun i T s v n cs hi=>?_,fun i B hi=>?_,fun i g hi=>?_,fun i j g hi hj=>h.apart i j g (hm i g hi).2 (hm j g hj).2⟩,fun i g hi=>(hm i g hi).2⟩
 ·rcases get hi with ⟨h1,h2⟩ | h1
  ·exact ⟨(h.blk i T l h2).1.keep k (hA i _ h1 ⟨_,h2,rfl⟩),fun c hc=>by rw [List.length_set]; exact (h.blk i T l h2).2 c hc⟩
  cases h1
 ·rcases get hi with ⟨h1,h2⟩ | h1
  ·exact Y6 (h.row i T s v n cs h2) k fun g hg=>hA i g h1 ⟨_,h2,hg⟩
  cases h1
 ·rcases get hi with ⟨h1,h2⟩ | h1
  ·exact B.keep (h.abs i B h2) (fun g hg=>(h.low i g ⟨_,h2,hg⟩).2) k fun g hg=>hA i g h1 ⟨_,h2,hg⟩
  cases h1
 exact ⟨(h.low i g (hm i g hi).2).1,Nat.lt_of_lt_of_le (h.low i g (hm i g hi).2).2 k.size⟩
theorem dj4 {c : Cx} {G : Gh} {β : Nat → Nat} {S : Nat → Prop} {K : World → Prop} : ∀ {ms bs : List Nat} {hp : List HE} {w : World},dg4 hp bs ms → Mem c.bs hp β w → Keeps c.K c.w0 w → (∀ k,S k → ∀ i,¬ m7 β hp i k) → G.p S w →
  (∀ w',Mem c.bs (aq2 hp bs) β w' → Keeps c.K c.w0 w' → G.p S w' → K w') → aw6 c.P (ms.map mkD) w K:=by
 intro ms
 induction ms with
 | nil=>
  intro bs hp w hd hM hw hS hG hK
  cases bs with
  | nil=>exact hK w hM hw hG
  | cons b bs=>exact hd.elim
 | cons D ms ih=>
  intro bs hp w hd hM hw hS hG hK
  cases bs with
  | nil=>exact hd.elim
  | cons b bs=>
   obtain ⟨h1,h2⟩:=hd
   rw [M1] at h1
   have h3 : w.heap[D]? = some (.deferred (some [])):=hM.abs b _ h1
   have hk : Keeps (fun g=>g ≠ D) w (w.putObj D (.deferred none)):=G7
   obtain ⟨h4,h5⟩:=cw0 hM h1 (w':=w.putObj D (.deferred none)) (hk.mono fun g hg=>hg)
   refine ⟨D,_,rfl,run_takeDeferred h3,ih (hp:=Y4 hp b .gone) h2 ?_ ?_ ?_ ?_ hK⟩
   ·rw [N5]; exact h4
   ·exact Mem.grow hM hw hk b fun i hi=>⟨_,h1,Classical.not_not.1 hi⟩
   ·intro k hk i hi
    rw [N5] at hi
    exact hS k hk i (h5 i k hi)
   refine G.keep hG (hk.mono fun g hg e=>hS g hg b ⟨_,h1,e⟩)
theorem bm3 : ∀ {bs : List Nat} {hp : List HE},(aq2 hp bs).length = hp.length:=by
 intro bs
 induction bs with
 | nil=>intro hp; rfl
 | cons b bs ih=>intro hp; simp only [aq2]; rw [ih,N5,List.length_set]
theorem dt8 [Rd] {c : Cx} {fn : Func} {Ψ : Value → World → Prop} {rs : List ResultVar} {o : Out} {G : Gh} (v : Value) (ms bs : List Nat) (hc : c.Ok) (hQ : c.Q = b43 c.P fn Ψ) (hn : c.n = fn.ntmps) (hrs : fn.results.toList = rs) (he : am6 o = true)
  (hms : H4 o.st.fr c.n = some (mkS ms)) (hbs : dg4 o.st.hp bs ms) (hv : ∀ β,am7 c.E rs ⟨o.st.fr,aq2 o.st.hp bs⟩ β = some v)
  (h : ∀ β S w,Mem c.bs (aq2 o.st.hp bs) β w → (∀ k,S k → Sof c.S0 β o.st.hp k) → Keeps c.K c.w0 w → G.p S w → Ψ v w) : Run c o G:=by
 refine ⟨fun β ρ w hS hw hG=>?_⟩
 have hend : ∀ e,e = Exit.ret ∨ e = Exit.normal → b43 c.P fn Ψ e ρ w:=by
  have h0 : aw6 c.P (bb5 (ρ fn.ntmps)) w fun w'=>∃ vs,N6 c.P ρ w' fn.results.toList vs ∧ Ψ (a60 vs) w':=by
   rw [← hn,((hS.fr c.n) _ hms).1,a14]
   refine dj4 (S:=Sof c.S0 β o.st.hp) hbs hS.mem hw (fun k hk=>hk.2) hG fun w' hM' hw' hG'=>?_
   have h1:=hv β
   unfold am7 at h1
   cases hl : ar0 c.E ⟨o.st.fr,aq2 o.st.hp bs⟩ rs with
   | none=>rw [hl] at h1; cases h1
   | some l=>
    rw [hl] at h1
    simp only [Option.map_some,Option.some.injEq] at h1
    have hS' : Sat c.bs ⟨o.st.fr,aq2 o.st.hp bs⟩ β ρ w':=⟨fun d s hs=>by rw [bm3]; exact hS.fr d s hs,hM',by rw [bm3]; exact hS.agr.1,hS.agr.2⟩
    have h2:=bf6 hc.env hS' hl
    exact ⟨_,hrs ▸ h2,h1 ▸ h β _ w' hM' (fun k hk=>hk) hw' hG'⟩
  rintro e (rfl | rfl) <;> exact h0
 unfold am6 at he
 split at he <;> first | (cases he; done) | skip
 ·rename_i e1 e2
  rw [e1,e2]
  show c.Q .ret ρ w
  rw [hQ]
  exact hend _ (.inl rfl)
 rename_i e1 e2
 rw [e1,e2]
 show c.Q .normal ρ w
 rw [hQ]
 exact hend _ (.inr rfl)
theorem dt5 [Rd] {P : Program} {fn : Func} {E : Env} {w0 : World} {S0 K : Nat → Prop} {Ψ : Value → World → Prop} {rs : List ResultVar} {o : Out} {G : Gh} (v : Value) (ms bs : List Nat) (hc : (Cx.fnD P fn E w0 S0 K Ψ).Ok) (hv0 : (ex (Cx.fnD P fn E w0 S0 K Ψ) o).vc = []) (hrs : fn.results.toList = rs) (he : am6 (ex (Cx.fnD P fn E w0 S0 K Ψ) o) = true)
  (hms : H4 (ex (Cx.fnD P fn E w0 S0 K Ψ) o).st.fr fn.ntmps = some (mkS ms)) (hbs : dg4 (ex (Cx.fnD P fn E w0 S0 K Ψ) o).st.hp bs ms) (hv : ∀ β,am7 E rs ⟨(ex (Cx.fnD P fn E w0 S0 K Ψ) o).st.fr,aq2 (ex (Cx.fnD P fn E w0 S0 K Ψ) o).st.hp bs⟩ β = some v)
  (h : ∀ β S w,Mem (Bs.of w0.heap.size K) (aq2 (ex (Cx.fnD P fn E w0 S0 K Ψ) o).st.hp bs) β w → (∀ k,S k → Sof S0 β (ex (Cx.fnD P fn E w0 S0 K Ψ) o).st.hp k) → Keeps K w0 w → G.p S w → Ψ v w) : Run (Cx.fnD P fn E w0 S0 K Ψ) o G:=
 L7 hc hv0 (dt8 v ms bs hc rfl rfl hrs he hms hbs hv h)
def ml (m : M3) (n : Nat) : Prop:=tl m.a n ∧ tl m.b n ∧ tl m.c n
noncomputable def dv7 (a1 a2 a3 b1 b2 b3 c1 c2 c3 : Value) : Value:=(SV.agg [.ag 4 a1,.ag 4 a2,.ag 4 a3,.ag 4 b1,.ag 4 b2,.ag 4 b3,.ag 4 c1,.ag 4 c2,.ag 4 c3]).den fun _=>0
structure QMapC (S : Nat → Prop) (w : World) (m : M3) (a1 a2 a3 b1 b2 b3 c1 c2 c3 : Value) : Prop where
 a1 : QV S w a1 m.a.x
 a2 : QV S w a2 m.a.y
 a3 : QV S w a3 m.a.z
 b1 : QV S w b1 m.b.x
 b2 : QV S w b2 m.b.y
 b3 : QV S w b3 m.b.z
 c1 : QV S w c1 m.c.x
 c2 : QV S w c2 m.c.y
 c3 : QV S w c3 m.c.z
def bv6 (S : Nat → Prop) (w : World) (v : Value) (m : M3) : Prop:=∃ a1 a2 a3 b1 b2 b3 c1 c2 c3,v = dv7 a1 a2 a3 b1 b2 b3 c1 c2 c3 ∧ QMapC S w m a1 a2 a3 b1 b2 b3 c1 c2 c3
section
variable {S S' : Nat → Prop} {w w' : World} {v : Value} {m : M3}
theorem QMapC.ok (n : Nat) {a1 a2 a3 b1 b2 b3 c1 c2 c3 : Value} (h : QMapC S w m a1 a2 a3 b1 b2 b3 c1 c2 c3) : (SV.agg [.ag 4 a1,.ag 4 a2,.ag 4 a3,.ag 4 b1,.ag 4 b2,.ag 4 b3,.ag 4 c1,.ag 4 c2,.ag 4 c3]).Ok n:=
 F0 ⟨h.a1.okc,h.a2.okc,h.a3.okc,h.b1.okc,h.b2.okc,h.b3.okc,h.c1.okc,h.c2.okc,h.c3.okc,trivial⟩
end
theorem bo4 {α : Type} {base : Bs} {hp : List HE} {β : Nat → Nat} {g : Bool} {s : Nat} {F : Value → α → Gh} {S : Nat → Prop} {w : World} {l : List α} (i k n : Nat) (T : TypeId) (vs : List Value) (hM : Mem base hp β w) (hb : nth hp i = some (.blk T (vs.map (Ch.ag s)))) (hl : ∀ x ∈ vs,K4 g s x) (h : ElsV g s F S w ((vs.drop k).take n) l) (hn : l.length = n) (hkn : k + n ≤ vs.length) (hm : n ≤ maxLen) :
  SeqV g s F (fun k=>S k ∨ some k = Value.ownBlock (.slice (some ⟨β i,0,none⟩) 0 0)) w (.slice (some ⟨β i,k * s,none⟩) n n) l:=by
 rw [M1] at hb
 have hB:=(hM.blk i T _ hb).1
 rw [af7] at hB
 have hc:=L6 hl
 have hle : (k + n) * s ≤ vs.length * s:=Nat.mul_le_mul_right _ hkn
 rw [Nat.add_mul] at hle
 refine ⟨T,(vs.drop k).take n,h.len,h.lies,⟨?_,.inr ⟨β i,k * s,n,(z7 vs).toArray,(0,0),by rw [hn],by rw [hn]; exact Nat.le_refl _,hm,.inr rfl,hB,?_,?_⟩⟩,fun j a x ha hx=>((F x a).mono (h.el j a x ha hx) fun k _ hk=>.inl hk)⟩
 ·have h1:=L6 h.lies
  rw [h.len] at h1
  exact h1
 ·simp only [List.size_toArray,hc]
  omega
 rw [hn]
 have e1:=bm1 (g:=g) (s:=s) (vs:=vs.drop k) (fun x hx=>hl x (List.mem_of_mem_drop hx)) n
 have e2 : (z7 vs).drop (k * s) = z7 (vs.drop k):=by
  have h3 : z7 vs = z7 (vs.take k) ++ z7 (vs.drop k):=by unfold z7; rw [← List.flatMap_append,List.take_append_drop]
  have h4:=L6 (g:=g) (s:=s) (vs:=vs.take k) (fun x hx=>hl x (List.mem_of_mem_take hx))
  rw [List.length_take,Nat.min_eq_left (by omega)] at h4
  rw [h3,← h4,List.drop_left]
 show ((z7 vs).drop (k * s)).take (n * s) = _
 rw [e2,e1]
 rfl
theorem ds2 {S : Nat → Prop} {w : World} {a b c : Value} {t : T3} (h1 : QV S w a t.x) (h2 : QV S w b t.y) (h3 : QV S w c t.z) : ElsV true 4 qF S w [a,b,c] t.list:=by
 refine ⟨rfl,fun x hx=>?_,fun i q x hq hx=>?_⟩
 ·simp only [List.mem_cons,List.not_mem_nil,or_false] at hx
  rcases hx with rfl | rfl | rfl
  ·exact h1.lies
  ·exact h2.lies
  exact h3.lies
 match i with
 | 0=>simp [T3.list] at hq hx; subst hq hx; exact h1
 | 1=>simp [T3.list] at hq hx; subst hq hx; exact h2
 | 2=>simp [T3.list] at hq hx; subst hq hx; exact h3
 | i + 3=>simp [T3.list] at hq
theorem dv3 {S : Nat → Prop} {w : World} {v : Value} {m : M3} {n : Nat} (hS : Up S w) (hv : bv6 S w v m) (hl : ml m n) (hn : n ≤ 100000) :
  Gives prog 68 [v] w fun v' w'=>Ext w w' ∧ QV S w' v' m.det:=by
 obtain ⟨a1,a2,a3,b1,b2,b3,c1,c2,c3,rfl,hm⟩:=hv
 refine n7 (E:=env) (S0:=S) (G:=((qG a1 m.a.x).and ((qG a2 m.a.y).and ((qG a3 m.a.z).and ((qG b1 m.b.x).and ((qG b2 m.b.y).and ((qG b3 m.b.z).and ((qG c1 m.c.x).and ((qG c2 m.c.y).and (qG c3 m.c.z)))))))))) (l:=[.agg [.ag 4 a1,.ag 4 a2,.ag 4 a3,.ag 4 b1,.ag 4 b2,.ag 4 b3,.ag 4 c1,.ag 4 c2,.ag 4 c3]]) func68 rfl rfl rfl ⟨hm.ok _,trivial⟩ rfl ⟨hm.a1,hm.a2,hm.a3,hm.b1,hm.b2,hm.b3,hm.c1,hm.c2,hm.c3⟩ ?_
 refine n9 8 ?_
 refine d7 6 ?_
 refine q6 (fun x0=>.one (.ag 12 x0)) (fun x0=>o6 x0 ((m.b.cross m.c))) (fun β η S w hS hs hw hG hd=>(kx (c20 hS ⟨_,_,_,rfl,hG.2.2.2.1,hG.2.2.2.2.1,hG.2.2.2.2.2.1⟩ ⟨_,_,_,rfl,hG.2.2.2.2.2.2.1,hG.2.2.2.2.2.2.2.1,hG.2.2.2.2.2.2.2.2⟩ hl.2.1 hl.2.2 (by omega)))) ?_
 refine q6 (fun x0=>.one (.ag 4 x0)) (fun x0=>qG x0 (m.det)) (fun β η S w hS hs hw hG hd=>(kx (bn2 hS ⟨_,_,_,rfl,hG.1,hG.2.1,hG.2.2.1⟩ (p8 hd 6 : (o6 (η 6) ((m.b.cross m.c))).p S w) hl.1 (y6 hl.2.1 hl.2.2) (by omega)))) ?_
 refine n5 [true,false] (Gh.nil) (by exact fun _ _ h=>trivial) (fun g η=>(qG (η 7) (m.det)).and g) (fun g η=>(by kernel_rfl)) ?_
 intro η_1
 exact n8 ((η_1 7)) rfl (fun S w hs hw hG=>⟨hw,hG.1.mono fun k _ hk=>hs k hk⟩)
theorem cx2 {S : Nat → Prop} {w : World} {v vp : Value} {m : M3} {p : T3} {n k : Nat} (hS : Up S w) (hv : bv6 S w v m) (hp : QTripV S w vp p) (hl : ml m n) (hk : tl p k) (hn : n + k ≤ 100000) :
  Gives prog 19 [v,vp] w fun v' w'=>Ext w w' ∧ QTripV S w' v' (m.apply p):=by
 obtain ⟨a1,a2,a3,b1,b2,b3,c1,c2,c3,rfl,hm⟩:=hv
 refine n7 (E:=env) (S0:=S) (G:=((o6 vp (p)).and ((qG a1 m.a.x).and ((qG a2 m.a.y).and ((qG a3 m.a.z).and ((qG b1 m.b.x).and ((qG b2 m.b.y).and ((qG b3 m.b.z).and ((qG c1 m.c.x).and ((qG c2 m.c.y).and (qG c3 m.c.z))))))))))) (l:=[.agg [.ag 4 a1,.ag 4 a2,.ag 4 a3,.ag 4 b1,.ag 4 b2,.ag 4 b3,.ag 4 c1,.ag 4 c2,.ag 4 c3],.one (.ag 12 vp)]) func19 rfl rfl rfl ⟨hm.ok _,hp.ok,trivial⟩ rfl ⟨hp,hm.a1,hm.a2,hm.a3,hm.b1,hm.b2,hm.b3,hm.c1,hm.c2,hm.c3⟩ ?_
 refine r4 ?_
 refine n9 7 ?_
 refine d7 5 ?_
 refine q6 (fun x0=>.one (.ag 4 x0)) (fun x0=>qG x0 ((m.a.dot p))) (fun β η S w hS hs hw hG hd=>(kx (bn2 hS ⟨_,_,_,rfl,hG.2.1,hG.2.2.1,hG.2.2.2.1⟩ hG.1 hl.1 hk (by omega)))) ?_
 refine d7 1 ?_
 refine n5 [true] ((o6 vp (p)).and ((qG b1 m.b.x).and ((qG b2 m.b.y).and ((qG b3 m.b.z).and ((qG c1 m.c.x).and ((qG c2 m.c.y).and ((qG c3 m.c.z).and (Gh.nil)))))))) (by exact fun _ _ h=>⟨h.1,h.2.2.2.2.1,h.2.2.2.2.2.1,h.2.2.2.2.2.2.1,h.2.2.2.2.2.2.2.1,h.2.2.2.2.2.2.2.2.1,h.2.2.2.2.2.2.2.2.2,trivial⟩) (fun g η=>(qG (η 5) ((m.a.dot p))).and g) (fun g η=>(by kernel_rfl)) ?_
 intro η_1
 refine n9 7 ?_
 refine d7 5 ?_
 refine q6 (fun x0=>.one (.ag 4 x0)) (fun x0=>qG x0 ((m.b.dot p))) (fun β η S w hS hs hw hG hd=>(kx (bn2 hS ⟨_,_,_,rfl,hG.2.2.1,hG.2.2.2.1,hG.2.2.2.2.1⟩ hG.2.1 hl.2.1 hk (by omega)))) ?_
 refine d7 1 ?_
 refine n5 [true] ((qG (η_1 5) ((m.a.dot p))).and ((o6 vp (p)).and ((qG c1 m.c.x).and ((qG c2 m.c.y).and ((qG c3 m.c.z).and (Gh.nil)))))) (by exact fun _ _ h=>⟨h.1,h.2.1,h.2.2.2.2.2.1,h.2.2.2.2.2.2.1,h.2.2.2.2.2.2.2.1,trivial⟩) (fun g η=>(qG (η 5) ((m.b.dot p))).and g) (fun g η=>(by kernel_rfl)) ?_
 intro η_2
 refine n9 7 ?_
 refine d7 5 ?_
 refine q6 (fun x0=>.one (.ag 4 x0)) (fun x0=>qG x0 ((m.c.dot p))) (fun β η S w hS hs hw hG hd=>(kx (bn2 hS ⟨_,_,_,rfl,hG.2.2.2.1,hG.2.2.2.2.1,hG.2.2.2.2.2.1⟩ hG.2.2.1 hl.2.2 hk (by omega)))) ?_
 refine d7 1 ?_
 refine n5 [true] ((qG (η_2 5) ((m.b.dot p))).and ((qG (η_1 5) ((m.a.dot p))).and (Gh.nil))) (by exact fun _ _ h=>⟨h.1,h.2.1,trivial⟩) (fun g η=>(qG (η 5) ((m.c.dot p))).and g) (fun g η=>(by kernel_rfl)) ?_
 intro η_3
 exact n8 (bc1 (η_1 5) (η_2 5) (η_3 5)) rfl (fun S w hs hw hG=>⟨hw,_,_,_,rfl,hG.2.2.1.mono fun k _ hk=>hs k hk,hG.2.1.mono fun k _ hk=>hs k hk,hG.1.mono fun k _ hk=>hs k hk⟩)
theorem bd1 {t : T3} {k : Nat} (h : tl t k) (hk : k ≤ 4) : ¬ Z7 t.list:=by
 rintro ⟨x,hx,hl⟩
 exact bf2 (aa1 h x hx) hk hl
theorem bd3 {m : M3} (h : m.a.None) : m.det = 0:=by
 obtain ⟨h1,h2,h3⟩:=h
 unfold M3.det T3.dot
 rw [h1,h2,h3]
 grind
theorem b11 {S : Nat → Prop} {w : World} {v : Value} {m : M3} {n : Nat} (hS : Up S w) (hv : bv6 S w v m) (hl : ml m n) (hn : n ≤ 4) :
  Gives prog 15 [v] w fun v' w'=>v' = .int .i64 (if m.det = 0 then 60 else 0) ∧ Ext w w':=by
 have n1:=bd1 hl.1 hn
 have n2:=bd1 hl.2.1 hn
 have n3:=bd1 hl.2.2 hn
 obtain ⟨a1,a2,a3,b1,b2,b3,c1,c2,c3,rfl,hm⟩:=hv
 have hlies : ∀ x ∈ [a1,a2,a3,b1,b2,b3,c1,c2,c3],K4 true 4 x:=by
  intro x hx
  simp only [List.mem_cons,List.not_mem_nil,or_false] at hx
  rcases hx with rfl | rfl | rfl | rfl | rfl | rfl | rfl | rfl | rfl
  ·exact hm.a1.lies
  ·exact hm.a2.lies
  ·exact hm.a3.lies
  ·exact hm.b1.lies
  ·exact hm.b2.lies
  ·exact hm.b3.lies
  ·exact hm.c1.lies
  ·exact hm.c2.lies
  exact hm.c3.lies
 refine n7 (E:=env) (S0:=S) (G:=((qG a1 m.a.x).and ((qG a2 m.a.y).and ((qG a3 m.a.z).and ((qG b1 m.b.x).and ((qG b2 m.b.y).and ((qG b3 m.b.z).and ((qG c1 m.c.x).and ((qG c2 m.c.y).and (qG c3 m.c.z)))))))))) (l:=[.agg [.ag 4 a1,.ag 4 a2,.ag 4 a3,.ag 4 b1,.ag 4 b2,.ag 4 b3,.ag 4 c1,.ag 4 c2,.ag 4 c3]]) func15 rfl rfl rfl ⟨hm.ok _,trivial⟩ rfl ⟨hm.a1,hm.a2,hm.a3,hm.b1,hm.b2,hm.b3,hm.c1,hm.c2,hm.c3⟩ ?_
 by_cases hall : m.a.None ∧ m.b.None ∧ m.c.None
 ·refine A3 (.one (.bb true)) rfl (fun β S w hS hs hw hG=>(kx ((ad2 hS ⟨_,_,_,rfl,hG.1,hG.2.1,hG.2.2.1⟩).mono fun v' w' h=>⟨by rw [h.1,l9 hall.1]; rfl,h.2⟩))) ?_
  refine A3 (.one (.bb true)) rfl (fun β S w hS hs hw hG=>(kx ((ad2 hS ⟨_,_,_,rfl,hG.2.2.2.1,hG.2.2.2.2.1,hG.2.2.2.2.2.1⟩).mono fun v' w' h=>⟨by rw [h.1,l9 hall.2.1]; rfl,h.2⟩))) ?_
  refine A3 (.one (.bb true)) rfl (fun β S w hS hs hw hG=>(kx ((ad2 hS ⟨_,_,_,rfl,hG.2.2.2.2.2.2.1,hG.2.2.2.2.2.2.2.1,hG.2.2.2.2.2.2.2.2⟩).mono fun v' w' h=>⟨by rw [h.1,l9 hall.2.2]; rfl,h.2⟩))) ?_
  exact n8 (.int .i64 60) rfl (fun S w hs hw hG=>⟨by rw [if_pos (bd3 hall.1)],hw⟩)
 refine a59 (ι:=Unit) [(4,16)] (fun x=>[(16,.one (.bb false))]) (fun _=>[]) (fun x=>((qG a1 m.a.x).and ((qG a2 m.a.y).and ((qG a3 m.a.z).and ((qG b1 m.b.x).and ((qG b2 m.b.y).and ((qG b3 m.b.z).and ((qG c1 m.c.x).and ((qG c2 m.c.y).and (qG c3 m.c.z)))))))))) (fun x=>True) ⟨d6,hS,j6⟩ (by kernel_rfl) (fun hso=>?_) (fun x hx=>?_)
 ·by_cases h1 : m.a.None
  ·refine A3 (.one (.bb true)) rfl (fun β S w hS hs hw hG=>(kx ((ad2 hS ⟨_,_,_,rfl,hG.1,hG.2.1,hG.2.2.1⟩).mono fun v' w' h=>⟨by rw [h.1,l9 h1]; rfl,h.2⟩))) ?_
   by_cases h2 : m.b.None
   ·refine A3 (.one (.bb true)) rfl (fun β S w hS hs hw hG=>(kx ((ad2 hS ⟨_,_,_,rfl,hG.2.2.2.1,hG.2.2.2.2.1,hG.2.2.2.2.2.1⟩).mono fun v' w' h=>⟨by rw [h.1,l9 h2]; rfl,h.2⟩))) ?_
    refine A3 (.one (.bb false)) rfl (fun β S w hS hs hw hG=>(kx ((ad2 hS ⟨_,_,_,rfl,hG.2.2.2.2.2.2.1,hG.2.2.2.2.2.2.2.1,hG.2.2.2.2.2.2.2.2⟩).mono fun v' w' h=>⟨by rw [h.1,l6 fun h3=>hall ⟨h1,h2,h3⟩]; rfl,h.2⟩))) ?_
    exact J5 (()) hso (trivial) (fun S w hw hG=>⟨x9 rfl,fun p hp=>by cases hp⟩) (fun S w hw hG=>hG)
   refine A3 (.one (.bb false)) rfl (fun β S w hS hs hw hG=>(kx ((ad2 hS ⟨_,_,_,rfl,hG.2.2.2.1,hG.2.2.2.2.1,hG.2.2.2.2.2.1⟩).mono fun v' w' h=>⟨by rw [h.1,l6 h2]; rfl,h.2⟩))) ?_
   exact J5 (()) hso (trivial) (fun S w hw hG=>⟨x9 rfl,fun p hp=>by cases hp⟩) (fun S w hw hG=>hG)
  refine A3 (.one (.bb false)) rfl (fun β S w hS hs hw hG=>(kx ((ad2 hS ⟨_,_,_,rfl,hG.1,hG.2.1,hG.2.2.1⟩).mono fun v' w' h=>⟨by rw [h.1,l6 h1]; rfl,h.2⟩))) ?_
  exact J5 (()) hso (trivial) (fun S w hw hG=>⟨x9 rfl,fun p hp=>by cases hp⟩) (fun S w hw hG=>hG)
 refine r4 ?_
 refine K7 (.one (.bb false)) rfl (fun β S w hS hM hs hw hG=>(kx ((au7 (r5 hS) (bo4 0 0 3 58 [a1,a2,a3,b1,b2,b3,c1,c2,c3] hM (by kernel_rfl) hlies (ds2 hG.1 hG.2.1 hG.2.2.1) rfl (by simp) (by decide)) (fun x hx=>j7 (aa1 hl.1 x hx))).mono fun v' w' h=>⟨by rw [h.1,l6 n1]; rfl,h.2⟩))) ?_
 refine K7 (.one (.bb false)) rfl (fun β S w hS hM hs hw hG=>(kx ((au7 (r5 hS) (bo4 0 3 3 58 [a1,a2,a3,b1,b2,b3,c1,c2,c3] hM (by kernel_rfl) hlies (ds2 hG.2.2.2.1 hG.2.2.2.2.1 hG.2.2.2.2.2.1) rfl (by simp) (by decide)) (fun x hx=>j7 (aa1 hl.2.1 x hx))).mono fun v' w' h=>⟨by rw [h.1,l6 n2]; rfl,h.2⟩))) ?_
 refine K7 (.one (.bb false)) rfl (fun β S w hS hM hs hw hG=>(kx ((au7 (r5 hS) (bo4 0 6 3 58 [a1,a2,a3,b1,b2,b3,c1,c2,c3] hM (by kernel_rfl) hlies (ds2 hG.2.2.2.2.2.2.1 hG.2.2.2.2.2.2.2.1 hG.2.2.2.2.2.2.2.2) rfl (by simp) (by decide)) (fun x hx=>j7 (aa1 hl.2.2 x hx))).mono fun v' w' h=>⟨by rw [h.1,l6 n3]; rfl,h.2⟩))) ?_
 refine G3 (fun x0=>.one (.ag 4 x0)) (fun x0=>qG x0 (m.det)) (fun β S w hS hs hw hG=>(kx (dv3 hS ⟨_,_,_,_,_,_,_,_,_,rfl,⟨hG.1,hG.2.1,hG.2.2.1,hG.2.2.2.1,hG.2.2.2.2.1,hG.2.2.2.2.2.1,hG.2.2.2.2.2.2.1,hG.2.2.2.2.2.2.2.1,hG.2.2.2.2.2.2.2.2⟩⟩ hl (by omega)))) ?_
 intro d
 refine A3 (.one (.int .i64 m.det.num.sign)) rfl (fun β S w hS hs hw hG=>(kx (az5 hG.1))) ?_
 refine W0 (p:=m.det.num.sign = 0) (fun h0=>?_) (fun h0=>?_)
 ·exact n8 (.int .i64 60) rfl (fun S w hs hw hG=>⟨by rw [if_pos (ai8.1 h0)],hw⟩)
 exact n8 (.int .i64 0) rfl (fun S w hs hw hG=>⟨by rw [if_neg fun e=>h0 (ai8.2 e)],hw⟩)
section
variable {c : Cx} {st : St} {G : Gh} {all : List Oper} {K : List HRec → Prop} {acc : List HRec} {ops : List Oper}
theorem ca0 (u : (Nat → Value) → Value) (V : Value) (n : Nat) (i : Int) (sz : Nat) (hc : c.Ok) (hok : ∀ η,aq7 all st acc ops η = true) (hq : ∀ η,dg3 c st acc ops η = some (u η,n,i,sz)) (h0 : 0 ≤ i) (h1 : i < n)
  (h : ∀ β η S w,Mem c.bs st.hp β w → Keeps c.K c.w0 w → G.p S w → depsH acc (opH ops).after.toList η S w → ∃ b k,u η = .pointer (some ⟨b,k,none⟩) ∧ V = A2 (u η) (i.toNat * sz))
  (k : Hd c st G all K (.spec ((opH ops).dst.getD 0) (fun x=>.one (.val x)) (fun x=>G9 (x = V)) :: acc) (ops.drop 1)) : Hd c st G all K acc ops:=by
 refine bb4 (fun x=>.one (.val x)) (fun x=>G9 (x = V)) hok (fun β η S w F m ty hkn hup hM hS hw hG hd=>?_) k
 have hq:=hq η
 obtain ⟨b,k',hu,hV⟩:=h β η S w hM hw hG hd
 generalize u η = uu at hq hu hV
 unfold dg3 at hq
 split at hq <;> first | (cases hq; done) | skip
 rename_i T x ix hop
 split at hq <;> first | (cases hq; done) | skip
 rename_i v kd z n' e hx hix hk
 cases hte : c.E.get e with
 | none=>rw [hte] at hq; cases hq
 | some te=>
  rw [hte] at hq
  simp only [Option.map_some,Option.some.injEq,Prod.mk.injEq] at hq
  obtain ⟨rfl,rfl,rfl,rfl⟩:=hq
  have hkd:=D2 (t:=T) hc.env
  rw [hk] at hkd
  have hkd' : c.P.underlying T = some (.array n' e):=hkd
  obtain ⟨zz,hty,_⟩:=(hc.env.get hte).ty
  rw [hop] at hkn ⊢
  have g1 : ev F x = .pointer (some ⟨b,k',none⟩):=by rw [(hkn x (by simp [Op.operands]) _ hx).1]; exact hu
  have g2:=(hkn ix (by simp [Op.operands]) _ hix).1
  refine ⟨A2 v (z.toNat * te.size),?_,rfl,ar8 _ _,hV.symm⟩
  rw [hu]
  intro d pos aft g
  simp [execOp,g1,g2,SV.den,Ch.den,Instr.indexAt,asIntOf,run_underlying hkd',Instr.sureAddr,h0,h1,hty.runSize w,U1,A2]
end
def M3.rows (m : M3) : List T3:=[m.a,m.b,m.c]
def MapV (S : Nat → Prop) (w : World) (v : Value) (m : M3) : Prop:=(SV.one (.ag 27 v)).Ok 0 ∧ ∃ vs,v.cells.toList = z7 vs ∧ ElsV true 9 at5 S w vs m.rows
abbrev ag5 (v : Value) (m : M3) : Gh:=⟨fun S w=>MapV S w v m,fun ⟨o,vs,h1,h2⟩ k=>⟨o,vs,h1,(bi5 true 9 at5 vs m.rows).keep h2 k⟩,fun ⟨o,vs,h1,h2⟩ k=>⟨o,vs,h1,(bi5 true 9 at5 vs m.rows).mono h2 k⟩⟩
theorem MapV.ok {S : Nat → Prop} {w : World} {v : Value} {m : M3} (h : MapV S w v m) : (SV.one (.ag 27 v)).Ok 0:=h.1
def MapP (S : Nat → Prop) (w : World) (u : Value) (m : M3) : Prop:=∃ vs,At S w u (z7 vs) ∧ ElsV true 9 at5 S w vs m.rows
abbrev b73 (u : Value) (m : M3) : Gh:=⟨fun S w=>MapP S w u m,fun ⟨vs,h1,h2⟩ k=>⟨vs,h1.keep k,(bi5 true 9 at5 vs m.rows).keep h2 k⟩,fun ⟨vs,h1,h2⟩ k=>⟨vs,h1.mono k,(bi5 true 9 at5 vs m.rows).mono h2 k⟩⟩
section
variable {S : Nat → Prop} {w : World} {u : Value} {m : M3}
theorem MapP.ptr (h : MapP S w u m) : ∃ b k,u = .pointer (some ⟨b,k,none⟩):=by
 obtain ⟨vs,⟨b,o,_,_,_,h1,_⟩,_⟩:=h
 exact ⟨b,o,h1⟩
theorem MapP.el (h : MapP S w u m) {i : Nat} {t : T3} {p : Value} (hi : m.rows[i]? = some t) (hp : p = A2 u (i * 9)) : ∃ S' x,K4 true 9 x ∧ At S' w p x.cells.toList ∧ (q7 x t).p S w:=by
 subst hp
 obtain ⟨vs,h1,h2⟩:=h
 have hl : i < vs.length:=by rw [h2.len]; exact (List.getElem?_eq_some_iff.1 hi).1
 have hx : vs[i]? = some vs[i]:=List.getElem?_eq_getElem hl
 exact ⟨S,vs[i],h2.lies _ (List.getElem_mem _),h1.part h2.lies hx,h2.el i t _ hi hx⟩
theorem R0 {u : Value} {a b : Nat} (h : ∃ g k,u = .pointer (some ⟨g,k,none⟩)) : A2 (A2 u a) b = A2 u (a + b):=by
 obtain ⟨g,k,rfl⟩:=h
 simp [A2,Nat.add_assoc]
theorem MapP.num (h : MapP S w u m) {r j : Nat} {t : T3} {q : Rat} {p : Value} (hr : m.rows[r]? = some t) (hj : t.list[j]? = some q) (hp : p = A2 u (r * 9 + j * 3)) : ∃ S' x,K4 true 3 x ∧ At S' w p x.cells.toList ∧ (j8 x q).p S w:=by
 subst hp
 obtain ⟨S',y,_,h2,a,b,c,hy,ha,hb,hc⟩:=h.el hr rfl
 have hl : ∀ x ∈ [a,b,c],K4 true 3 x:=by
  intro x hx
  simp only [List.mem_cons,List.not_mem_nil,or_false] at hx
  rcases hx with rfl | rfl | rfl
  ·exact ha.lies
  ·exact hb.lies
  exact hc.lies
 rw [hy,ag2 ha.lies hb.lies hc.lies] at h2
 have key : ∀ {x : Value},[a,b,c][j]? = some x → RatV S w x q → ∃ S' x,K4 true 3 x ∧ At S' w (A2 u (r * 9 + j * 3)) x.cells.toList ∧ (j8 x q).p S w:=fun {x} hx hq=>by
  have h3:=h2.part hl hx
  rw [R0 h.ptr] at h3
  exact ⟨S',x,hq.lies,h3,hq⟩
 match j,hj with
 | 0,hj=>simp [T3.list] at hj; subst hj; exact key rfl ha
 | 1,hj=>simp [T3.list] at hj; subst hj; exact key rfl hb
 | 2,hj=>simp [T3.list] at hj; subst hj; exact key rfl hc
 | j + 3,hj=>simp [T3.list] at hj
theorem b26 {v : Value} {T : TypeId} (h : (co5 u T (f5 (fun _=>0) [.ag 27 v])).p S w) (hv : MapV S w v m) : MapP S w u m:=by
 obtain ⟨b,rfl,hs,hB⟩:=h
 rw [ab9] at hB
 obtain ⟨_,vs,e1,e2⟩:=hv
 refine ⟨vs,?_,e2⟩
 rw [← e1]
 exact ⟨b,0,v.cells.toList.toArray,T,(0,0),rfl,hs,hB,by simp,by rw [List.drop_zero]; exact List.take_of_length_le (Nat.le_refl _)⟩
end
def M3.mnr (m : M3) (k : Nat) : Rat:=[(m.b.cross m.c).x,(m.b.cross m.c).y,(m.b.cross m.c).z,(m.c.cross m.a).x,(m.c.cross m.a).y,(m.c.cross m.a).z,(m.a.cross m.b).x,(m.a.cross m.b).y,(m.a.cross m.b).z].getD k 0
def dh8 (m : M3) (k : Nat) (x : List Value) : Gh:=(G9 (x = [.agg #[.int .i64 ((k / 3 : Nat) : Int),.int .i64 ((k % 3 : Nat) : Int)],x.getD 1 undef])).and (j8 (x.getD 1 undef) (m.mnr k))
theorem cd2 {S : Nat → Prop} {w : World} {u : Value} {m : M3} {k n0 : Nat} (hn0 : n0 ≤ w.heap.size) (o : u.oneCell' = true) (h : MapP S w u m) (hk : ml m k) (hk2 : 2 * (2 * k + 1) + 1 ≤ 3344) : du5 prog 161 [u] (dh8 m) 9 n0 S w:=by
 refine dr1 (E:=env) (ls:=[.one (.val u)]) (G:=(b73 u m).and Gh.nil) hn0 func161 rfl rfl rfl ⟨o,trivial⟩ rfl ⟨h,trivial⟩ ?_
 intro l W T0 J S0 hS hl q hB
 refine bb6 ⟨d6,hS,hl⟩ (by kernel_rfl) ?_
 refine ad4 13 ⟨d6,hS,hl⟩ (by kernel_rfl) (by kernel_rfl) (by kernel_rfl) ?_
 refine d7 3 ?_
 refine ai4 u 3 1 9 ⟨d6,hS,hl⟩ (fun η=>(by kernel_rfl)) (fun η=>(by kernel_rfl)) (by decide) (by decide) (fun β η S w hM hw hG hd=>hG.1.ptr) ?_
 refine K9 (fun η=>η 3) 42 9 true (fun x0=>.one (.ag 9 x0)) (fun x0=>q7 x0 (m.b)) ⟨d6,hS,hl⟩ (fun β η S w hM hw hG hd=>hG.1.el (i:=1) rfl (p8 hd 3 : (G9 ((η 3) = A2 u (Int.toNat 1 * 9))).p S w)) ?_
 refine d7 3 ?_
 refine ai4 u 3 2 9 ⟨d6,hS,hl⟩ (fun η=>(by kernel_rfl)) (fun η=>(by kernel_rfl)) (by decide) (by decide) (fun β η S w hM hw hG hd=>hG.1.ptr) ?_
 refine K9 (fun η=>η 8) 42 9 true (fun x0=>.one (.ag 9 x0)) (fun x0=>q7 x0 (m.c)) ⟨d6,hS,hl⟩ (fun β η S w hM hw hG hd=>hG.1.el (i:=2) rfl (p8 hd 8 : (G9 ((η 8) = A2 u (Int.toNat 2 * 9))).p S w)) ?_
 refine h_1 (fun x0=>.agg [.ag 3 (cel x0 0 3),.ag 3 (cel x0 3 3),.ag 3 (cel x0 6 3)]) (fun x0=>S5 x0 ((m.b.cross m.c))) (fun η=>(by kernel_rfl)) (fun _ _ _ h=>P5 h) (fun β η S w hS hs hw hG hd=>have h:=hG.1; (kx ((Q4 hS (p8 hd 4 : (q7 (η 4) (m.b)).p S w) (p8 hd 9 : (q7 (η 9) (m.c)).p S w) hk.2.1 hk.2.2 (by omega)).mono fun v' w' h=>⟨h.1,bi4 h.2⟩))) ?_
 refine d7 2 ?_
 refine n5 [true,false,false,false,false] ((b73 u m).and (Gh.nil)) (by exact fun _ _ h=>⟨h.1,trivial⟩) (fun g η=>(S5 (η 10) ((m.b.cross m.c))).and g) (fun g η=>(by kernel_rfl)) ?_
 intro η_1
 refine bb6 ⟨d6,hS,hl⟩ (by kernel_rfl) ?_
 refine L7 ⟨d6,hS,hl⟩ (by kernel_rfl) (aa2 q 0 T0 (fun _=>False) (fun _=>none) 0 [.agg #[.int .i64 0,.int .i64 0],cel (η_1 10) 0 3] ⟨d6,hS,hl⟩ rfl rfl hB (by decide) (by kernel_rfl) (by kernel_rfl) (fun β S w hw hG=>⟨(by kernel_rfl),⟨rfl,hG.1.2.1⟩,fun b hb=>hb.elim⟩) (fun T1 V1 C1=>?_) (fun T1 V1 C1=>?_))
 rotate_left
 ·exact ab6 (.tuple #[]) ⟨d6,hS,hl⟩ (by kernel_rfl) rfl (by kernel_rfl) (fun β=>rfl) (fun β S w hM hs hw hG=>X8 (b:=0) (f:=false) (T:=T1) (k:=0 + 1) hM (by kernel_rfl) hG.1 hw (fun h=>by cases h))
 refine L7 ⟨d6,hS,hl⟩ (by kernel_rfl) (aa2 q 0 T1 V1 C1 1 [.agg #[.int .i64 0,.int .i64 1],cel (η_1 10) 3 3] ⟨d6,hS,hl⟩ rfl rfl hB (by decide) (by kernel_rfl) (by kernel_rfl) (fun β S w hw hG=>⟨(by kernel_rfl),⟨rfl,hG.2.1.2.2.1⟩,hG.1⟩) (fun T2 V2 C2=>?_) (fun T2 V2 C2=>?_))
 rotate_left
 ·exact ab6 (.tuple #[]) ⟨d6,hS,hl⟩ (by kernel_rfl) rfl (by kernel_rfl) (fun β=>rfl) (fun β S w hM hs hw hG=>X8 (b:=0) (f:=false) (T:=T2) (k:=1 + 1) hM (by kernel_rfl) hG.1 hw (fun h=>by cases h))
 refine L7 ⟨d6,hS,hl⟩ (by kernel_rfl) (aa2 q 0 T2 V2 C2 2 [.agg #[.int .i64 0,.int .i64 2],cel (η_1 10) 6 3] ⟨d6,hS,hl⟩ rfl rfl hB (by decide) (by kernel_rfl) (by kernel_rfl) (fun β S w hw hG=>⟨(by kernel_rfl),⟨rfl,hG.2.2.1.2.2.2⟩,hG.1⟩) (fun T3 V3 C3=>?_) (fun T3 V3 C3=>?_))
 rotate_left
 ·exact ab6 (.tuple #[]) ⟨d6,hS,hl⟩ (by kernel_rfl) rfl (by kernel_rfl) (fun β=>rfl) (fun β S w hM hs hw hG=>X8 (b:=0) (f:=false) (T:=T3) (k:=2 + 1) hM (by kernel_rfl) hG.1 hw (fun h=>by cases h))
 refine bb6 ⟨d6,hS,hl⟩ (by kernel_rfl) ?_
 refine ad4 13 ⟨d6,hS,hl⟩ (by kernel_rfl) (by kernel_rfl) (by kernel_rfl) ?_
 refine d7 3 ?_
 refine ai4 u 3 2 9 ⟨d6,hS,hl⟩ (fun η=>(by kernel_rfl)) (fun η=>(by kernel_rfl)) (by decide) (by decide) (fun β η S w hM hw hG hd=>hG.2.2.2.2.1.ptr) ?_
 refine K9 (fun η=>η 3) 42 9 true (fun x0=>.one (.ag 9 x0)) (fun x0=>q7 x0 (m.c)) ⟨d6,hS,hl⟩ (fun β η S w hM hw hG hd=>hG.2.2.2.2.1.el (i:=2) rfl (p8 hd 3 : (G9 ((η 3) = A2 u (Int.toNat 2 * 9))).p S w)) ?_
 refine d7 3 ?_
 refine ai4 u 3 0 9 ⟨d6,hS,hl⟩ (fun η=>(by kernel_rfl)) (fun η=>(by kernel_rfl)) (by decide) (by decide) (fun β η S w hM hw hG hd=>hG.2.2.2.2.1.ptr) ?_
 refine K9 (fun η=>η 8) 42 9 true (fun x0=>.one (.ag 9 x0)) (fun x0=>q7 x0 (m.a)) ⟨d6,hS,hl⟩ (fun β η S w hM hw hG hd=>hG.2.2.2.2.1.el (i:=0) rfl (p8 hd 8 : (G9 ((η 8) = A2 u (Int.toNat 0 * 9))).p S w)) ?_
 refine h_1 (fun x0=>.agg [.ag 3 (cel x0 0 3),.ag 3 (cel x0 3 3),.ag 3 (cel x0 6 3)]) (fun x0=>S5 x0 ((m.c.cross m.a))) (fun η=>(by kernel_rfl)) (fun _ _ _ h=>P5 h) (fun β η S w hS hs hw hG hd=>have h:=hG.2.2.2.2.1; (kx ((Q4 hS (p8 hd 4 : (q7 (η 4) (m.c)).p S w) (p8 hd 9 : (q7 (η 9) (m.a)).p S w) hk.2.2 hk.1 (by omega)).mono fun v' w' h=>⟨h.1,bi4 h.2⟩))) ?_
 refine d7 2 ?_
 refine n5 [true,false,false,false,false] ((cb9 V3 C3).and ((b73 u m).and (Gh.nil))) (by exact fun _ _ h=>⟨h.1,h.2.2.2.2.1,trivial⟩) (fun g η=>(S5 (η 10) ((m.c.cross m.a))).and g) (fun g η=>(by kernel_rfl)) ?_
 intro η_2
 refine bb6 ⟨d6,hS,hl⟩ (by kernel_rfl) ?_
 refine L7 ⟨d6,hS,hl⟩ (by kernel_rfl) (aa2 q 0 T3 V3 C3 3 [.agg #[.int .i64 1,.int .i64 0],cel (η_2 10) 0 3] ⟨d6,hS,hl⟩ rfl rfl hB (by decide) (by kernel_rfl) (by kernel_rfl) (fun β S w hw hG=>⟨(by kernel_rfl),⟨rfl,hG.1.2.1⟩,hG.2.1⟩) (fun T4 V4 C4=>?_) (fun T4 V4 C4=>?_))
 rotate_left
 ·exact ab6 (.tuple #[]) ⟨d6,hS,hl⟩ (by kernel_rfl) rfl (by kernel_rfl) (fun β=>rfl) (fun β S w hM hs hw hG=>X8 (b:=0) (f:=false) (T:=T4) (k:=3 + 1) hM (by kernel_rfl) hG.1 hw (fun h=>by cases h))
 refine L7 ⟨d6,hS,hl⟩ (by kernel_rfl) (aa2 q 0 T4 V4 C4 4 [.agg #[.int .i64 1,.int .i64 1],cel (η_2 10) 3 3] ⟨d6,hS,hl⟩ rfl rfl hB (by decide) (by kernel_rfl) (by kernel_rfl) (fun β S w hw hG=>⟨(by kernel_rfl),⟨rfl,hG.2.1.2.2.1⟩,hG.1⟩) (fun T5 V5 C5=>?_) (fun T5 V5 C5=>?_))
 rotate_left
 ·exact ab6 (.tuple #[]) ⟨d6,hS,hl⟩ (by kernel_rfl) rfl (by kernel_rfl) (fun β=>rfl) (fun β S w hM hs hw hG=>X8 (b:=0) (f:=false) (T:=T5) (k:=4 + 1) hM (by kernel_rfl) hG.1 hw (fun h=>by cases h))
 refine L7 ⟨d6,hS,hl⟩ (by kernel_rfl) (aa2 q 0 T5 V5 C5 5 [.agg #[.int .i64 1,.int .i64 2],cel (η_2 10) 6 3] ⟨d6,hS,hl⟩ rfl rfl hB (by decide) (by kernel_rfl) (by kernel_rfl) (fun β S w hw hG=>⟨(by kernel_rfl),⟨rfl,hG.2.2.1.2.2.2⟩,hG.1⟩) (fun T6 V6 C6=>?_) (fun T6 V6 C6=>?_))
 rotate_left
 ·exact ab6 (.tuple #[]) ⟨d6,hS,hl⟩ (by kernel_rfl) rfl (by kernel_rfl) (fun β=>rfl) (fun β S w hM hs hw hG=>X8 (b:=0) (f:=false) (T:=T6) (k:=5 + 1) hM (by kernel_rfl) hG.1 hw (fun h=>by cases h))
 refine bb6 ⟨d6,hS,hl⟩ (by kernel_rfl) ?_
 refine ad4 13 ⟨d6,hS,hl⟩ (by kernel_rfl) (by kernel_rfl) (by kernel_rfl) ?_
 refine d7 3 ?_
 refine ai4 u 3 0 9 ⟨d6,hS,hl⟩ (fun η=>(by kernel_rfl)) (fun η=>(by kernel_rfl)) (by decide) (by decide) (fun β η S w hM hw hG hd=>hG.2.2.2.2.2.1.ptr) ?_
 refine K9 (fun η=>η 3) 42 9 true (fun x0=>.one (.ag 9 x0)) (fun x0=>q7 x0 (m.a)) ⟨d6,hS,hl⟩ (fun β η S w hM hw hG hd=>hG.2.2.2.2.2.1.el (i:=0) rfl (p8 hd 3 : (G9 ((η 3) = A2 u (Int.toNat 0 * 9))).p S w)) ?_
 refine d7 3 ?_
 refine ai4 u 3 1 9 ⟨d6,hS,hl⟩ (fun η=>(by kernel_rfl)) (fun η=>(by kernel_rfl)) (by decide) (by decide) (fun β η S w hM hw hG hd=>hG.2.2.2.2.2.1.ptr) ?_
 refine K9 (fun η=>η 8) 42 9 true (fun x0=>.one (.ag 9 x0)) (fun x0=>q7 x0 (m.b)) ⟨d6,hS,hl⟩ (fun β η S w hM hw hG hd=>hG.2.2.2.2.2.1.el (i:=1) rfl (p8 hd 8 : (G9 ((η 8) = A2 u (Int.toNat 1 * 9))).p S w)) ?_
 refine h_1 (fun x0=>.agg [.ag 3 (cel x0 0 3),.ag 3 (cel x0 3 3),.ag 3 (cel x0 6 3)]) (fun x0=>S5 x0 ((m.a.cross m.b))) (fun η=>(by kernel_rfl)) (fun _ _ _ h=>P5 h) (fun β η S w hS hs hw hG hd=>have h:=hG.2.2.2.2.2.1; (kx ((Q4 hS (p8 hd 4 : (q7 (η 4) (m.a)).p S w) (p8 hd 9 : (q7 (η 9) (m.b)).p S w) hk.1 hk.2.1 (by omega)).mono fun v' w' h=>⟨h.1,bi4 h.2⟩))) ?_
 refine d7 2 ?_
 refine n5 [true,false,false,false,false] ((cb9 V6 C6).and (Gh.nil)) (by exact fun _ _ h=>⟨h.1,trivial⟩) (fun g η=>(S5 (η 10) ((m.a.cross m.b))).and g) (fun g η=>(by kernel_rfl)) ?_
 intro η_3
 refine bb6 ⟨d6,hS,hl⟩ (by kernel_rfl) ?_
 refine L7 ⟨d6,hS,hl⟩ (by kernel_rfl) (aa2 q 0 T6 V6 C6 6 [.agg #[.int .i64 2,.int .i64 0],cel (η_3 10) 0 3] ⟨d6,hS,hl⟩ rfl rfl hB (by decide) (by kernel_rfl) (by kernel_rfl) (fun β S w hw hG=>⟨(by kernel_rfl),⟨rfl,hG.1.2.1⟩,hG.2.1⟩) (fun T7 V7 C7=>?_) (fun T7 V7 C7=>?_))
 rotate_left
 ·exact ab6 (.tuple #[]) ⟨d6,hS,hl⟩ (by kernel_rfl) rfl (by kernel_rfl) (fun β=>rfl) (fun β S w hM hs hw hG=>X8 (b:=0) (f:=false) (T:=T7) (k:=6 + 1) hM (by kernel_rfl) hG.1 hw (fun h=>by cases h))
 refine L7 ⟨d6,hS,hl⟩ (by kernel_rfl) (aa2 q 0 T7 V7 C7 7 [.agg #[.int .i64 2,.int .i64 1],cel (η_3 10) 3 3] ⟨d6,hS,hl⟩ rfl rfl hB (by decide) (by kernel_rfl) (by kernel_rfl) (fun β S w hw hG=>⟨(by kernel_rfl),⟨rfl,hG.2.1.2.2.1⟩,hG.1⟩) (fun T8 V8 C8=>?_) (fun T8 V8 C8=>?_))
 rotate_left
 ·exact ab6 (.tuple #[]) ⟨d6,hS,hl⟩ (by kernel_rfl) rfl (by kernel_rfl) (fun β=>rfl) (fun β S w hM hs hw hG=>X8 (b:=0) (f:=false) (T:=T8) (k:=7 + 1) hM (by kernel_rfl) hG.1 hw (fun h=>by cases h))
 refine L7 ⟨d6,hS,hl⟩ (by kernel_rfl) (aa2 q 0 T8 V8 C8 8 [.agg #[.int .i64 2,.int .i64 2],cel (η_3 10) 6 3] ⟨d6,hS,hl⟩ rfl rfl hB (by decide) (by kernel_rfl) (by kernel_rfl) (fun β S w hw hG=>⟨(by kernel_rfl),⟨rfl,hG.2.2.1.2.2.2⟩,hG.1⟩) (fun T9 V9 C9=>?_) (fun T9 V9 C9=>?_))
 rotate_left
 ·exact ab6 (.tuple #[]) ⟨d6,hS,hl⟩ (by kernel_rfl) rfl (by kernel_rfl) (fun β=>rfl) (fun β S w hM hs hw hG=>X8 (b:=0) (f:=false) (T:=T9) (k:=8 + 1) hM (by kernel_rfl) hG.1 hw (fun h=>by cases h))
 exact ab6 (.tuple #[]) ⟨d6,hS,hl⟩ (by kernel_rfl) rfl (by kernel_rfl) (fun β=>rfl) (fun β S w hM hs hw hG=>X8 (b:=0) (f:=true) (T:=T9) (k:=9) hM (by kernel_rfl) hG.1 hw (fun _=>rfl))
def itV (u : Value) : Value:=.func (.func 161) #[] #[u]
def de0 (v : Value) : Value:=match v with | .func _ _ caps=>caps.getD 0 undef | _=>undef
def itS (v : Value) : SV:=.one (.val (itV (de0 v)))
abbrev itG (v : Value) (m : M3) (n0 : Nat) : Gh:=(G9 (v = itV (de0 v))).and (dk7 prog 161 [de0 v] (dh8 m) 9 n0)
theorem ds7 {S : Nat → Prop} {w : World} {v : Value} {m : M3} {n0 : Nat} (h : (itG v m n0).p S w) : (itS v).Ok 0 ∧ (itS v).den (fun _=>0) = v:=⟨rfl,h.1.symm⟩
theorem cq7 {S : Nat → Prop} {w : World} {v : Value} {m : M3} {k n0 : Nat} (hn0 : n0 ≤ w.heap.size) (hS : Up S w) (h : MapV S w v m) (hk : ml m k) (hk2 : 2 * (2 * k + 1) + 1 ≤ 3344) :
  Gives prog 129 [v] w fun v' w'=>Ext w w' ∧ (itG v' m n0).p S w':=by
 refine n7 (E:=env) (S0:=S) (G:=(ag5 v m)) (l:=[.one (.ag 27 v)]) func129 rfl rfl rfl ⟨h.ok,trivial⟩ rfl h ?_
 refine o5 (L4 0 63 ([.ag 27 v]) (fun u1=>?_))
 exact n8 (itV u1) rfl (fun S w hs hw hG=>⟨hw,(itG (itV u1) m n0).mono ⟨rfl,Nat.le_trans hn0 hw.size,cd2 (Nat.le_trans hn0 hw.size) (I0 hG.1) (b26 hG.1 hG.2) hk hk2⟩ fun k _ hk=>hs k hk⟩)
theorem dx1 : rl (0 : Rat) 1:=N2 (by decide) (by decide)
def dy9 (a : Nat → Int) : Value:=.agg #[.int .i64 (a 0),.int .i64 (a 1),.int .i64 (a 2),.int .i64 (a 3),.int .i64 (a 4),.int .i64 (a 5),.int .i64 (a 6),.int .i64 (a 7),.int .i64 (a 8)]
theorem dj1 {a : Nat → Int} {m : Nat} : (SV.agg [.int .i64 (a 0),.int .i64 (a 1),.int .i64 (a 2),.int .i64 (a 3),.int .i64 (a 4),.int .i64 (a 5),.int .i64 (a 6),.int .i64 (a 7),.int .i64 (a 8)]).Ok m:=F0 ⟨trivial,trivial,trivial,trivial,trivial,trivial,trivial,trivial,trivial,trivial⟩
def M3.part (m : M3) : Nat → Rat
 | 0=>0
 | 1=>m.a.x * (m.b.cross m.c).x
 | 2=>m.a.x * (m.b.cross m.c).x + m.a.y * (m.b.cross m.c).y
 | _=>m.det
def dl2 : Value:=.agg #[.bool false,.slice none 0 0,.slice none 0 0]
def dd4 (k : Nat) (x : List Value) : List SV:=[.agg [.lit .i64 ((k / 3 : Nat) : Int),.lit .i64 ((k % 3 : Nat) : Int)],.one (.ag 3 (x.getD 1 undef))]
theorem dh1 {S : Nat → Prop} {w : World} {m : M3} {k : Nat} {x : List Value} (h : (dh8 m k x).p S w) : (dd4 k x).map (SV.den fun _=>0) = x ∧ SVsOk (dd4 k x) ∧ (dd4 k x).length = 2:=
 ⟨by rw [show x = _ from h.1]; rfl,⟨F0 ⟨trivial,trivial,trivial⟩,h.2.ok,trivial⟩,rfl⟩
theorem dv4 {u : Value} (h : ∃ b k,u = .pointer (some ⟨b,k,none⟩)) : ∃ b k,A2 u 0 = .pointer (some ⟨b,k,none⟩):=by
 obtain ⟨b,k,rfl⟩:=h
 exact ⟨b,k,rfl⟩
def M3.term (m : M3) : Nat → Rat
 | 0=>m.a.x * (m.b.cross m.c).x
 | 1=>m.a.y * (m.b.cross m.c).y
 | _=>m.a.z * (m.b.cross m.c).z
theorem a96 (m : M3) : ∀ n,n < 3 → m.part n + m.term n = m.part (n + 1):=by
 intro n hn
 match n,hn with
 | 0,_=>exact Rat.zero_add _
 | 1,_=>rfl
 | 2,_=>rfl
theorem bs8 {m : M3} {k : Nat} (hk : ml m k) : ∀ n,n ≤ 3 → rl (m.part n) (16 * k + 8):=by
 have h1:=y6 hk.2.1 hk.2.2
 have e1:=r7 hk.1.1 h1.1
 have e2:=r7 hk.1.2.1 h1.2.1
 have e3:=r7 hk.1.2.2 h1.2.2
 intro n hn
 match n,hn with
 | 0,_=>exact j7 dx1
 | 1,_=>exact j7 e1
 | 2,_=>exact j7 (ab8 e1 e2)
 | 3,_=>exact j7 (ab8 (ab8 e1 e2) e3)
theorem b59 {S : Nat → Prop} {w : World} {v : Value} {m : M3} {k : Nat} (hS : Up S w) (h : MapV S w v m) (hk : ml m k) (hk2 : 40 * k + 40 ≤ 3344) :
  Gives prog 122 [v] w fun v' w'=>Ext w w' ∧ RatV S w' v' m.det:=by
 refine cx0 (E:=env) (S0:=S) (G:=(ag5 v m).and Gh.nil) (l:=[.one (.ag 27 v)]) func122 rfl rfl rfl ⟨h.ok,trivial⟩ rfl ⟨h,trivial⟩ fun i hr hdm=>?_
 refine o5 (L4 0 63 ([.ag 27 v]) (fun u1=>?_))
 refine S4 (fun x0=>itS x0) (fun x0=>itG x0 (m) ((w.heap.size))) (fun _ _ _ h=>ds7 h) (fun β S w hS hs hw hG=>(kx (cq7 hw.size hS hG.2.1 hk (by omega)))) ?_
 intro f
 refine o5 (da3 (ι:=Nat × Value) 161 [de0 f] (dh8 m) 9 w.heap.size (fun j=>[.gone,.blk 41 [.ag 3 dl2],.blk 41 [.ag 3 j.2]]) (fun j=>(j8 j.2 (m.part j.1)).and ((b73 u1 m).and Gh.nil)) (fun j=>j.1 ≤ 3) (fun j=>j.1) (fun e j=>e = .exit 0 ∧ j.1 = 3) (fun j x=>dd4 j.1 x) 100 [] (0,dl2) hr hdm ⟨d6,hS,j6⟩
  (by kernel_rfl) (by kernel_rfl) (by kernel_rfl) (Nat.le_refl _) (fun S w hw hG=>hG.1.2) (fun j=>Nat.le_of_ble_eq_true (by kernel_rfl)) (Nat.zero_le _) rfl (by9 (fun β=>by kernel_rfl) (fun β=>by kernel_rfl) (by kernel_rfl))
  (fun S w hw hG=>bw2 (m:=3) rfl ⟨trivial,aj6 ⟨(I9 (S:=S) (w:=w)).okc,trivial⟩,aj6 ⟨(I9 (S:=S) (w:=w)).okc,trivial⟩,trivial⟩) (fun S w hw hG=>⟨I9,b26 hG.2.1 hG.2.2.1,trivial⟩)
  (fun j x S w hj hk3 hx=>dh1 hx) (fun j x hj hk3=>by kernel_rfl) ?_ ?_ ?_)
 ·intro j x i' w1 S1 K1 m1 b1 hj hk9 hc'
  have h4 : j.1 = 0 ∨ j.1 = 1 ∨ j.1 = 2 ∨ j.1 = 3:=by omega
  obtain ⟨k0,o⟩:=j
  simp only at h4
  rcases h4 with rfl | rfl | rfl | rfl
  ·have hX:=y6 hk.2.1 hk.2.2
   refine ad4 10 hc' (by kernel_rfl) (by kernel_rfl) (by kernel_rfl) ?_
   refine d7 3 ?_
   refine ai4 (A2 u1 0) 3 0 9 hc' (fun η=>(by kernel_rfl)) (fun η=>(by kernel_rfl)) (by decide) (by decide) (fun β η S w hM hw hG hd=>dv4 hG.2.2.1.ptr) ?_
   refine ca0 (fun η=>η 3) ((A2 u1 (0 * 9 + 0 * 3))) 3 0 3 hc' (fun η=>(by kernel_rfl)) (fun η=>(by kernel_rfl)) (by decide) (by decide) (fun β η S w hM hw hG hd=>by have e : η 3 = A2 u1 (0 * 9):=(p8 hd 3 : (G9 ((η 3) = A2 (A2 u1 0) (Int.toNat 0 * 9))).p S w).trans (R0 hG.2.2.1.ptr); rw [e]; obtain ⟨g,q,hq⟩:=hG.2.2.1.ptr; exact ⟨g,q + 0 * 9,by rw [hq]; rfl,(R0 ⟨g,q,hq⟩).symm⟩) ?_
   refine K9 (fun η=>η 4) 41 3 true (fun x0=>.one (.ag 3 x0)) (fun x0=>j8 x0 (m.a.x)) hc' (fun β η S w hM hw hG hd=>hG.2.2.1.num (r:=0) (j:=0) rfl rfl (p8 hd 4 : (G9 ((η 4) = (A2 u1 (0 * 9 + 0 * 3)))).p S w)) ?_
   refine d7 1 ?_
   refine q6 (fun x0=>.one (.ag 3 x0)) (fun x0=>j8 x0 ((m.a.x * (m.b.cross m.c).x))) (fun β η S w hS hs hw hG hd=>(kx (A1 hS (p8 hd 5 : (j8 (η 5) (m.a.x)).p S w) hG.1.2 hk.1.1 hX.1 (by omega)))) ?_
   refine S6 41 3 2 (fun x0=>H5 x0 [m.part 0,m.a.x * (m.b.cross m.c).x]) hc' (fun η=>(by kernel_rfl)) (fun β η S w x0 w' hS hs hw hG hd hk hrow=>a64 (hG.2.1.to hk) ((p8 hd 7 : (j8 (η 7) ((m.a.x * (m.b.cross m.c).x))).p S w).to hk) (kc hrow (by kernel_rfl))) ?_
   refine q6 (fun x0=>.one (.ag 3 x0)) (fun x0=>j8 x0 ((m.part 1))) (fun β η S w hS hs hw hG hd=>(kx (X7 (m:=16 * k + 8) (by rw [c26]; exact a96 m 0 (by omega)) hS (p8 hd 8 : (H5 (η 8) [m.part 0,m.a.x * (m.b.cross m.c).x]).p S w) (a35 (bs8 hk _ (by omega)) (j7 (r7 hk.1.1 hX.1))) (by simp only [List.length]; omega)))) ?_
   refine n5 [true,false,false,false,false,false] ((b73 u1 m).and (Gh.nil)) (by exact fun _ _ h=>⟨h.2.2.1,trivial⟩) (fun g η=>(j8 (η 9) ((m.part 1))).and g) (fun g η=>(by kernel_rfl)) ?_
   intro η_1
   exact L7 hc' (by kernel_rfl) (b86 ((1,η_1 9)) (by kernel_rfl) (⟨(show (1 : Nat) ≤ 3 by decide),rfl⟩) (by9 (fun β=>(by kernel_rfl)) (fun β=>(by kernel_rfl)) (by kernel_rfl)) (fun S w hw hG=>bw2 (m:=3) rfl ⟨trivial,aj6 ⟨(I9 (S:=S) (w:=w)).okc,trivial⟩,aj6 ⟨hG.1.okc,trivial⟩,trivial⟩) (fun S w hw hG=>⟨hG.1,hG.2.1,trivial⟩))
  ·have hX:=y6 hk.2.1 hk.2.2
   refine ad4 10 hc' (by kernel_rfl) (by kernel_rfl) (by kernel_rfl) ?_
   refine d7 3 ?_
   refine ai4 (A2 u1 0) 3 0 9 hc' (fun η=>(by kernel_rfl)) (fun η=>(by kernel_rfl)) (by decide) (by decide) (fun β η S w hM hw hG hd=>dv4 hG.2.2.1.ptr) ?_
   refine ca0 (fun η=>η 3) ((A2 u1 (0 * 9 + 1 * 3))) 3 1 3 hc' (fun η=>(by kernel_rfl)) (fun η=>(by kernel_rfl)) (by decide) (by decide) (fun β η S w hM hw hG hd=>by have e : η 3 = A2 u1 (0 * 9):=(p8 hd 3 : (G9 ((η 3) = A2 (A2 u1 0) (Int.toNat 0 * 9))).p S w).trans (R0 hG.2.2.1.ptr); rw [e]; obtain ⟨g,q,hq⟩:=hG.2.2.1.ptr; exact ⟨g,q + 0 * 9,by rw [hq]; rfl,(R0 ⟨g,q,hq⟩).symm⟩) ?_
   refine K9 (fun η=>η 4) 41 3 true (fun x0=>.one (.ag 3 x0)) (fun x0=>j8 x0 (m.a.y)) hc' (fun β η S w hM hw hG hd=>hG.2.2.1.num (r:=0) (j:=1) rfl rfl (p8 hd 4 : (G9 ((η 4) = (A2 u1 (0 * 9 + 1 * 3)))).p S w)) ?_
   refine d7 1 ?_
   refine q6 (fun x0=>.one (.ag 3 x0)) (fun x0=>j8 x0 ((m.a.y * (m.b.cross m.c).y))) (fun β η S w hS hs hw hG hd=>(kx (A1 hS (p8 hd 5 : (j8 (η 5) (m.a.y)).p S w) hG.1.2 hk.1.2.1 hX.2.1 (by omega)))) ?_
   refine S6 41 3 2 (fun x0=>H5 x0 [m.part 1,m.a.y * (m.b.cross m.c).y]) hc' (fun η=>(by kernel_rfl)) (fun β η S w x0 w' hS hs hw hG hd hk hrow=>a64 (hG.2.1.to hk) ((p8 hd 7 : (j8 (η 7) ((m.a.y * (m.b.cross m.c).y))).p S w).to hk) (kc hrow (by kernel_rfl))) ?_
   refine q6 (fun x0=>.one (.ag 3 x0)) (fun x0=>j8 x0 ((m.part 2))) (fun β η S w hS hs hw hG hd=>(kx (X7 (m:=16 * k + 8) (by rw [c26]; exact a96 m 1 (by omega)) hS (p8 hd 8 : (H5 (η 8) [m.part 1,m.a.y * (m.b.cross m.c).y]).p S w) (a35 (bs8 hk _ (by omega)) (j7 (r7 hk.1.2.1 hX.2.1))) (by simp only [List.length]; omega)))) ?_
   refine n5 [true,false,false,false,false,false] ((b73 u1 m).and (Gh.nil)) (by exact fun _ _ h=>⟨h.2.2.1,trivial⟩) (fun g η=>(j8 (η 9) ((m.part 2))).and g) (fun g η=>(by kernel_rfl)) ?_
   intro η_1
   exact L7 hc' (by kernel_rfl) (b86 ((2,η_1 9)) (by kernel_rfl) (⟨(show (2 : Nat) ≤ 3 by decide),rfl⟩) (by9 (fun β=>(by kernel_rfl)) (fun β=>(by kernel_rfl)) (by kernel_rfl)) (fun S w hw hG=>bw2 (m:=3) rfl ⟨trivial,aj6 ⟨(I9 (S:=S) (w:=w)).okc,trivial⟩,aj6 ⟨hG.1.okc,trivial⟩,trivial⟩) (fun S w hw hG=>⟨hG.1,hG.2.1,trivial⟩))
  ·have hX:=y6 hk.2.1 hk.2.2
   refine ad4 10 hc' (by kernel_rfl) (by kernel_rfl) (by kernel_rfl) ?_
   refine d7 3 ?_
   refine ai4 (A2 u1 0) 3 0 9 hc' (fun η=>(by kernel_rfl)) (fun η=>(by kernel_rfl)) (by decide) (by decide) (fun β η S w hM hw hG hd=>dv4 hG.2.2.1.ptr) ?_
   refine ca0 (fun η=>η 3) ((A2 u1 (0 * 9 + 2 * 3))) 3 2 3 hc' (fun η=>(by kernel_rfl)) (fun η=>(by kernel_rfl)) (by decide) (by decide) (fun β η S w hM hw hG hd=>by have e : η 3 = A2 u1 (0 * 9):=(p8 hd 3 : (G9 ((η 3) = A2 (A2 u1 0) (Int.toNat 0 * 9))).p S w).trans (R0 hG.2.2.1.ptr); rw [e]; obtain ⟨g,q,hq⟩:=hG.2.2.1.ptr; exact ⟨g,q + 0 * 9,by rw [hq]; rfl,(R0 ⟨g,q,hq⟩).symm⟩) ?_
   refine K9 (fun η=>η 4) 41 3 true (fun x0=>.one (.ag 3 x0)) (fun x0=>j8 x0 (m.a.z)) hc' (fun β η S w hM hw hG hd=>hG.2.2.1.num (r:=0) (j:=2) rfl rfl (p8 hd 4 : (G9 ((η 4) = (A2 u1 (0 * 9 + 2 * 3)))).p S w)) ?_
   refine d7 1 ?_
   refine q6 (fun x0=>.one (.ag 3 x0)) (fun x0=>j8 x0 ((m.a.z * (m.b.cross m.c).z))) (fun β η S w hS hs hw hG hd=>(kx (A1 hS (p8 hd 5 : (j8 (η 5) (m.a.z)).p S w) hG.1.2 hk.1.2.2 hX.2.2 (by omega)))) ?_
   refine S6 41 3 2 (fun x0=>H5 x0 [m.part 2,m.a.z * (m.b.cross m.c).z]) hc' (fun η=>(by kernel_rfl)) (fun β η S w x0 w' hS hs hw hG hd hk hrow=>a64 (hG.2.1.to hk) ((p8 hd 7 : (j8 (η 7) ((m.a.z * (m.b.cross m.c).z))).p S w).to hk) (kc hrow (by kernel_rfl))) ?_
   refine q6 (fun x0=>.one (.ag 3 x0)) (fun x0=>j8 x0 ((m.part 3))) (fun β η S w hS hs hw hG hd=>(kx (X7 (m:=16 * k + 8) (by rw [c26]; exact a96 m 2 (by omega)) hS (p8 hd 8 : (H5 (η 8) [m.part 2,m.a.z * (m.b.cross m.c).z]).p S w) (a35 (bs8 hk _ (by omega)) (j7 (r7 hk.1.2.2 hX.2.2))) (by simp only [List.length]; omega)))) ?_
   refine n5 [true,false,false,false,false,false] ((b73 u1 m).and (Gh.nil)) (by exact fun _ _ h=>⟨h.2.2.1,trivial⟩) (fun g η=>(j8 (η 9) ((m.part 3))).and g) (fun g η=>(by kernel_rfl)) ?_
   intro η_1
   exact L7 hc' (by kernel_rfl) (b86 ((3,η_1 9)) (by kernel_rfl) (⟨(show (3 : Nat) ≤ 3 by decide),rfl⟩) (by9 (fun β=>(by kernel_rfl)) (fun β=>(by kernel_rfl)) (by kernel_rfl)) (fun S w hw hG=>bw2 (m:=3) rfl ⟨trivial,aj6 ⟨(I9 (S:=S) (w:=w)).okc,trivial⟩,aj6 ⟨hG.1.okc,trivial⟩,trivial⟩) (fun S w hw hG=>⟨hG.1,hG.2.1,trivial⟩))
  have e3 : (3 : Nat) ≤ 3:=Nat.le_refl _
  exact L7 hc' (by kernel_rfl) (dq1 ((3,o)) (by kernel_rfl) (⟨(by kernel_rfl),rfl⟩) (by9 (fun β=>(by kernel_rfl)) (fun β=>(by kernel_rfl)) (by kernel_rfl)) (fun S w hw hG=>bw2 (m:=3) rfl ⟨trivial,aj6 ⟨(I9 (S:=S) (w:=w)).okc,trivial⟩,aj6 ⟨hG.2.1.okc,trivial⟩,trivial⟩) (fun S w hw hG=>⟨hG.2.1,hG.2.2.1,trivial⟩))
 ·intro D j hj hk3
  exact absurd hk3 (by omega)
 rintro D j e ⟨rfl,hj⟩ _
 have e0 : m.part j.1 = m.det:=by rw [hj]; rfl
 exact dt5 j.2 [D] [3] ⟨d6,hS,j6⟩ (by kernel_rfl) rfl (by kernel_rfl) (by kernel_rfl) ⟨by kernel_rfl,trivial⟩ (fun β=>by kernel_rfl) (fun β S w hM hs hw hG=>⟨hw,e0 ▸ (RatV.mono hG.1 fun k _ hk=>(hs k hk).1)⟩)
noncomputable def bo9 (a1 a2 a3 b1 b2 b3 c1 c2 c3 : Value) : Value:=(SV.agg [.ag 3 a1,.ag 3 a2,.ag 3 a3,.ag 3 b1,.ag 3 b2,.ag 3 b3,.ag 3 c1,.ag 3 c2,.ag 3 c3]).den fun _=>0
structure MapC (S : Nat → Prop) (w : World) (m : M3) (a1 a2 a3 b1 b2 b3 c1 c2 c3 : Value) : Prop where
 a1 : RatV S w a1 m.a.x
 a2 : RatV S w a2 m.a.y
 a3 : RatV S w a3 m.a.z
 b1 : RatV S w b1 m.b.x
 b2 : RatV S w b2 m.b.y
 b3 : RatV S w b3 m.b.z
 c1 : RatV S w c1 m.c.x
 c2 : RatV S w c2 m.c.y
 c3 : RatV S w c3 m.c.z
section
variable {S S' : Nat → Prop} {w w' : World} {v : Value} {m : M3} {a1 a2 a3 b1 b2 b3 c1 c2 c3 : Value}
theorem MapC.keep (h : MapC S w m a1 a2 a3 b1 b2 b3 c1 c2 c3) (k : Keeps S w w') : MapC S w' m a1 a2 a3 b1 b2 b3 c1 c2 c3:=⟨h.a1.keep k,h.a2.keep k,h.a3.keep k,h.b1.keep k,h.b2.keep k,h.b3.keep k,h.c1.keep k,h.c2.keep k,h.c3.keep k⟩
theorem MapC.mono (h : MapC S w m a1 a2 a3 b1 b2 b3 c1 c2 c3) (hs : ∀ k,k < w.heap.size → S k → S' k) : MapC S' w m a1 a2 a3 b1 b2 b3 c1 c2 c3:=⟨h.a1.mono hs,h.a2.mono hs,h.a3.mono hs,h.b1.mono hs,h.b2.mono hs,h.b3.mono hs,h.c1.mono hs,h.c2.mono hs,h.c3.mono hs⟩
theorem MapC.ok (n : Nat) (h : MapC S w m a1 a2 a3 b1 b2 b3 c1 c2 c3) : (SV.agg [.ag 3 a1,.ag 3 a2,.ag 3 a3,.ag 3 b1,.ag 3 b2,.ag 3 b3,.ag 3 c1,.ag 3 c2,.ag 3 c3]).Ok n:=F0 ⟨h.a1.okc,h.a2.okc,h.a3.okc,h.b1.okc,h.b2.okc,h.b3.okc,h.c1.okc,h.c2.okc,h.c3.okc,trivial⟩
theorem bf8 : (bo9 a1 a2 a3 b1 b2 b3 c1 c2 c3).cells.toList = z7 [as4 a1 a2 a3,as4 b1 b2 b3,as4 c1 c2 c3]:=by
 simp [bo9,as4,z7,SV.den,f5,Ch.cells,Value.cells]
theorem MapC.map (h : MapC S w m a1 a2 a3 b1 b2 b3 c1 c2 c3) : MapV S w (bo9 a1 a2 a3 b1 b2 b3 c1 c2 c3) m:=by
 refine ⟨be4 (l:=[.ag 3 a1,.ag 3 a2,.ag 3 a3,.ag 3 b1,.ag 3 b2,.ag 3 b3,.ag 3 c1,.ag 3 c2,.ag 3 c3]) (h.ok 0) rfl,[as4 a1 a2 a3,as4 b1 b2 b3,as4 c1 c2 c3],bf8,rfl,fun x hx=>?_,fun i t x ht hx=>?_⟩
 ·simp only [List.mem_cons,List.not_mem_nil,or_false] at hx
  rcases hx with rfl | rfl | rfl
  ·exact TripV.lies (t:=m.a) ⟨_,_,_,rfl,h.a1,h.a2,h.a3⟩
  ·exact TripV.lies (t:=m.b) ⟨_,_,_,rfl,h.b1,h.b2,h.b3⟩
  exact TripV.lies (t:=m.c) ⟨_,_,_,rfl,h.c1,h.c2,h.c3⟩
 match i with
 | 0=>simp [M3.rows] at ht hx; subst ht hx; exact ⟨_,_,_,rfl,h.a1,h.a2,h.a3⟩
 | 1=>simp [M3.rows] at ht hx; subst ht hx; exact ⟨_,_,_,rfl,h.b1,h.b2,h.b3⟩
 | 2=>simp [M3.rows] at ht hx; subst ht hx; exact ⟨_,_,_,rfl,h.c1,h.c2,h.c3⟩
 | i + 3=>simp [M3.rows] at ht
theorem MapV.ex (h : MapV S w v m) : ∃ a1 a2 a3 b1 b2 b3 c1 c2 c3,v = bo9 a1 a2 a3 b1 b2 b3 c1 c2 c3 ∧ MapC S w m a1 a2 a3 b1 b2 b3 c1 c2 c3:=by
 obtain ⟨ho,vs,hc,he⟩:=h
 have hl : vs.length = 3:=he.len
 match vs,hl with
 | [y1,y2,y3],_=>
  obtain ⟨a1,a2,a3,rfl,p1,p2,p3⟩:=he.el 0 m.a y1 rfl rfl
  obtain ⟨b1,b2,b3,rfl,q1,q2,q3⟩:=he.el 1 m.b y2 rfl rfl
  obtain ⟨c1,c2,c3,rfl,r1,r2,r3⟩:=he.el 2 m.c y3 rfl rfl
  refine ⟨a1,a2,a3,b1,b2,b3,c1,c2,c3,?_,⟨p1,p2,p3,q1,q2,q3,r1,r2,r3⟩⟩
  obtain ⟨us,rfl,_,_⟩:=ho
  have e : us = (bo9 a1 a2 a3 b1 b2 b3 c1 c2 c3).cells.toList:=by rw [bf8,← hc]; simp [Value.cells]
  rw [e]
  simp [bo9,SV.den,Value.cells]
end
abbrev bb0 (v : Value) (m : M3) : Gh:=⟨fun S w=>v = (SV.agg [.ag 3 (cel v 0 3),.ag 3 (cel v 3 3),.ag 3 (cel v 6 3),.ag 3 (cel v 9 3),.ag 3 (cel v 12 3),.ag 3 (cel v 15 3),.ag 3 (cel v 18 3),.ag 3 (cel v 21 3),.ag 3 (cel v 24 3)]).den (fun _=>0) ∧ MapC S w m (cel v 0 3) (cel v 3 3) (cel v 6 3) (cel v 9 3) (cel v 12 3) (cel v 15 3) (cel v 18 3) (cel v 21 3) (cel v 24 3),fun h k=>⟨h.1,h.2.keep k⟩,fun h k=>⟨h.1,h.2.mono k⟩⟩
section
variable {S S' : Nat → Prop} {w w' : World} {v : Value} {m : M3}
theorem b10 (h : (bb0 v m).p S w) : (SV.agg [.ag 3 (cel v 0 3),.ag 3 (cel v 3 3),.ag 3 (cel v 6 3),.ag 3 (cel v 9 3),.ag 3 (cel v 12 3),.ag 3 (cel v 15 3),.ag 3 (cel v 18 3),.ag 3 (cel v 21 3),.ag 3 (cel v 24 3)]).Ok 0 ∧ (SV.agg [.ag 3 (cel v 0 3),.ag 3 (cel v 3 3),.ag 3 (cel v 6 3),.ag 3 (cel v 9 3),.ag 3 (cel v 12 3),.ag 3 (cel v 15 3),.ag 3 (cel v 18 3),.ag 3 (cel v 21 3),.ag 3 (cel v 24 3)]).den (fun _=>0) = v:=⟨h.2.ok 0,h.1.symm⟩
theorem d54 (h : MapV S w v m) : (bb0 v m).p S w:=by
 obtain ⟨a1,a2,a3,b1,b2,b3,c1,c2,c3,hv,hm⟩:=h.ex
 have hl : ∀ x ∈ [a1,a2,a3,b1,b2,b3,c1,c2,c3],K4 true 3 x:=by
  intro x hx
  simp only [List.mem_cons,List.not_mem_nil,or_false] at hx
  rcases hx with rfl | rfl | rfl | rfl | rfl | rfl | rfl | rfl | rfl
  ·exact hm.a1.lies
  ·exact hm.a2.lies
  ·exact hm.a3.lies
  ·exact hm.b1.lies
  ·exact hm.b2.lies
  ·exact hm.b3.lies
  ·exact hm.c1.lies
  ·exact hm.c2.lies
  exact hm.c3.lies
 have hc : v.cells.toList = z7 [a1,a2,a3,b1,b2,b3,c1,c2,c3]:=by rw [hv]; simp [bo9,z7,SV.den,f5,Ch.cells,Value.cells]
 have e0 : cel v 0 3 = a1:=R6 (g:=true) (i:=0) hc hl rfl
 have e1 : cel v 3 3 = a2:=R6 (g:=true) (i:=1) hc hl rfl
 have e2 : cel v 6 3 = a3:=R6 (g:=true) (i:=2) hc hl rfl
 have e3 : cel v 9 3 = b1:=R6 (g:=true) (i:=3) hc hl rfl
 have e4 : cel v 12 3 = b2:=R6 (g:=true) (i:=4) hc hl rfl
 have e5 : cel v 15 3 = b3:=R6 (g:=true) (i:=5) hc hl rfl
 have e6 : cel v 18 3 = c1:=R6 (g:=true) (i:=6) hc hl rfl
 have e7 : cel v 21 3 = c2:=R6 (g:=true) (i:=7) hc hl rfl
 have e8 : cel v 24 3 = c3:=R6 (g:=true) (i:=8) hc hl rfl
 show v = _ ∧ _
 rw [e0,e1,e2,e3,e4,e5,e6,e7,e8]
 exact ⟨hv,hm⟩
theorem MapV.lies (h : MapV S w v m) : K4 true 27 v:=by
 obtain ⟨us,rfl,h2,_⟩:=h.ok
 have:=ak0 us
 rwa [h2] at this
end
namespace M3
def turned (m : M3) : M3:=⟨⟨m.a.x,m.b.x,m.c.x⟩,⟨m.a.y,m.b.y,m.c.y⟩,⟨m.a.z,m.b.z,m.c.z⟩⟩
def after (m n : M3) : M3:=turned ⟨m.apply n.turned.a,m.apply n.turned.b,m.apply n.turned.c⟩
end M3
abbrev dy7 (m : M3) (a1 a2 a3 b1 b2 b3 c1 c2 c3 : Value) : Gh:=⟨fun S w=>MapC S w m a1 a2 a3 b1 b2 b3 c1 c2 c3,fun h k=>h.keep k,fun h k=>h.mono k⟩
theorem b25 {S : Nat → Prop} {w : World} {v vp : Value} {m : M3} {p : T3} {k n : Nat} (hS : Up S w) (h : MapV S w v m) (hp : TripV S w vp p) (hk : ml m k) (hn : tl p n) (hkn : 3 * (k + n + 1) + 1 ≤ 3344) :
  Gives prog 72 [v,vp] w fun v' w'=>Ext w w' ∧ TripV S w' v' (m.apply p):=by
 obtain ⟨a1,a2,a3,b1,b2,b3,c1,c2,c3,rfl,hm⟩:=h.ex
 refine n7 (E:=env) (S0:=S) (G:=((q7 vp (p)).and (dy7 m a1 a2 a3 b1 b2 b3 c1 c2 c3))) (l:=[.agg [.ag 3 a1,.ag 3 a2,.ag 3 a3,.ag 3 b1,.ag 3 b2,.ag 3 b3,.ag 3 c1,.ag 3 c2,.ag 3 c3],.one (.ag 9 vp)]) func72 rfl rfl rfl ⟨hm.ok _,hp.ok,trivial⟩ rfl ⟨hp,hm⟩ ?_
 refine r4 ?_
 refine G3 (fun x0=>.one (.ag 3 x0)) (fun x0=>j8 x0 ((m.a.dot p))) (fun β S w hS hs hw hG=>(kx (a12 hS ⟨_,_,_,rfl,hG.2.a1,hG.2.a2,hG.2.a3⟩ hG.1 hk.1 hn hkn))) ?_
 intro x
 refine r4 ?_
 refine G3 (fun x0=>.one (.ag 3 x0)) (fun x0=>j8 x0 ((m.b.dot p))) (fun β S w hS hs hw hG=>(kx (a12 hS ⟨_,_,_,rfl,hG.2.2.b1,hG.2.2.b2,hG.2.2.b3⟩ hG.2.1 hk.2.1 hn hkn))) ?_
 intro y
 refine r4 ?_
 refine G3 (fun x0=>.one (.ag 3 x0)) (fun x0=>j8 x0 ((m.c.dot p))) (fun β S w hS hs hw hG=>(kx (a12 hS ⟨_,_,_,rfl,hG.2.2.2.c1,hG.2.2.2.c2,hG.2.2.2.c3⟩ hG.2.2.1 hk.2.2 hn hkn))) ?_
 intro z
 refine r4 ?_
 exact n8 (as4 x y z) rfl (fun S w hs hw hG=>⟨hw,_,_,_,rfl,hG.2.2.1.mono fun k _ hk=>hs k hk,hG.2.1.mono fun k _ hk=>hs k hk,hG.1.mono fun k _ hk=>hs k hk⟩)
theorem ax3 {m : M3} {p : T3} {k n : Nat} (h : ml m k) (hp : tl p n) : tl (m.apply p) (3 * (k + n) + 2):=⟨cb4 h.1 hp,cb4 h.2.1 hp,cb4 h.2.2 hp⟩
namespace M3
def list (m : M3) : List Rat:=[m.a.x,m.a.y,m.a.z,m.b.x,m.b.y,m.b.z,m.c.x,m.c.y,m.c.z]
noncomputable def lead (m : M3) : Rat:=P7 m.list
def over (m : M3) (k : Rat) : M3:=⟨m.a.over k,m.b.over k,m.c.over k⟩
noncomputable def normal (m : M3) : M3:=m.over m.lead
theorem normal_list (m : M3) : bo6 m.list = m.normal.list:=rfl
theorem fpos_list {m : M3} (h : m.det ≠ 0) : 0 ≤ O4 al1 m.list 0:=by
 refine af2.1 ?_
 by_cases h1 : m.a.x = 0
 ·by_cases h2 : m.a.y = 0
  ·by_cases h3 : m.a.z = 0
   ·exact absurd (bd3 ⟨h1,h2,h3⟩) h
   exact ⟨m.a.z,by simp [list],h3⟩
  exact ⟨m.a.y,by simp [list],h2⟩
 exact ⟨m.a.x,by simp [list],h1⟩
end M3
theorem ax6 {m : M3} {k : Nat} (h : ml m k) : ∀ x ∈ m.list,rl x k:=by
 intro x hx
 simp only [M3.list,List.mem_cons,List.not_mem_nil,or_false] at hx
 rcases hx with rfl | rfl | rfl | rfl | rfl | rfl | rfl | rfl | rfl
 ·exact h.1.1
 ·exact h.1.2.1
 ·exact h.1.2.2
 ·exact h.2.1.1
 ·exact h.2.1.2.1
 ·exact h.2.1.2.2
 ·exact h.2.2.1
 ·exact h.2.2.2.1
 exact h.2.2.2.2
theorem MapC.els {S : Nat → Prop} {w : World} {m : M3} {a1 a2 a3 b1 b2 b3 c1 c2 c3 : Value} (h : MapC S w m a1 a2 a3 b1 b2 b3 c1 c2 c3) : ElsV true 3 U8 S w [a1,a2,a3,b1,b2,b3,c1,c2,c3] m.list:=by
 refine ⟨rfl,fun x hx=>?_,fun i q x hq hx=>?_⟩
 ·simp only [List.mem_cons,List.not_mem_nil,or_false] at hx
  rcases hx with rfl | rfl | rfl | rfl | rfl | rfl | rfl | rfl | rfl
  ·exact h.a1.lies
  ·exact h.a2.lies
  ·exact h.a3.lies
  ·exact h.b1.lies
  ·exact h.b2.lies
  ·exact h.b3.lies
  ·exact h.c1.lies
  ·exact h.c2.lies
  exact h.c3.lies
 match i with
 | 0=>simp [M3.list] at hq hx; subst hq hx; exact h.a1
 | 1=>simp [M3.list] at hq hx; subst hq hx; exact h.a2
 | 2=>simp [M3.list] at hq hx; subst hq hx; exact h.a3
 | 3=>simp [M3.list] at hq hx; subst hq hx; exact h.b1
 | 4=>simp [M3.list] at hq hx; subst hq hx; exact h.b2
 | 5=>simp [M3.list] at hq hx; subst hq hx; exact h.b3
 | 6=>simp [M3.list] at hq hx; subst hq hx; exact h.c1
 | 7=>simp [M3.list] at hq hx; subst hq hx; exact h.c2
 | 8=>simp [M3.list] at hq hx; subst hq hx; exact h.c3
 | i + 9=>simp [M3.list] at hq
abbrev aq0 (x : Value) (m : M3) : Gh:=bb0 x m
abbrev ce5 (v : Value) (l : List M3) : Gh:=bt5 true 27 aq0 v l
open Classical in
noncomputable def Z5 (l : List Rat) : Int:=if Z6 l then 60 else if Z7 l then 11 else 0
theorem b04 {l : List Rat} (h : Z5 l = 0) : ¬ Z6 l ∧ ¬ Z7 l:=by
 unfold Z5 at h
 split at h
 ·omega
 split at h
 ·omega
 exact ⟨‹_›,‹_›⟩
theorem ad5 {S : Nat → Prop} {w : World} {v : Value} {l : List Rat} (ht : Tab w) (hS : Up S w) (h : SeqV true 3 U8 S w v l) (hl : ∀ x ∈ l,rl x 1000000) (hb : Z5 l = 0) : Gives prog 95 [v] w fun v' w'=>v' = .tuple #[] ∧ Ext w w':=
 ar4 ht hS h hl (b04 hb).1 (b04 hb).2
theorem a44 {S : Nat → Prop} {w : World} {v : Value} {l : List Rat} (ht : Tab w) (hS : Up S w) (h : SeqV true 3 U8 S w v l) (hl : ∀ x ∈ l,rl x 1000000) (hb : ¬ Z5 l = 0) : Pan prog 95 [v] w (H0 (Z5 l)):=by
 unfold Z5 at hb ⊢
 by_cases h1 : Z6 l
 ·rw [if_pos h1]; exact bc4 hS h h1
 rw [if_neg h1] at hb ⊢
 by_cases h2 : Z7 l
 ·rw [if_pos h2]; exact bb7 ht hS h hl h1 h2
 rw [if_neg h2] at hb; exact absurd rfl hb
noncomputable def M9 (m : M3) : Int:=if Z5 m.list = 0 then (if m.det = 0 then 60 else 0) else Z5 m.list
def M3.at (l : List M3) (i : Nat) : M3:=l.getD i ⟨⟨0,0,0⟩,⟨0,0,0⟩,⟨0,0,0⟩⟩
theorem M3.at_get {l : List M3} {j : Nat} (h : j < l.length) : l[j]? = some (M3.at l j):=by unfold M3.at; rw [List.getD_eq_getElem?_getD,List.getElem?_eq_getElem h]; rfl
theorem bq3 {m : M3} (h : M9 m = 0) : Z5 m.list = 0 ∧ m.det ≠ 0:=by
 unfold M9 at h
 split at h
 ·split at h
  ·omega
  exact ⟨‹_›,‹_›⟩
 exact absurd h ‹_›
theorem af6 {base : Bs} {hp : List HE} {β : Nat → Nat} {w : World} {s n : Nat} (i : Nat) (T : TypeId) (vs : List Value) (hM : Mem base hp β w) (hb : nth hp i = some (.blk T (vs.map (Ch.ag s)))) (hl : ∀ x ∈ vs,K4 true s x) (hn : vs.length = n) (hm : n ≤ maxLen) :
  ∃ S' T',Row S' T' s w (.slice (some ⟨β i,0,none⟩) n n) n (z7 vs) ∧ ∀ u ∈ z7 vs,u.oneCell' = true:=by
 rw [M1] at hb
 obtain ⟨hB,hok⟩:=hM.blk i T _ hb
 rw [af7] at hB
 have ho : Own 0 T s w (.slice (some ⟨β i,0,none⟩) n n) n (z7 vs):=ao2 hB (Nat.zero_le _) hm (by rw [L6 hl,hn])
 obtain ⟨S',hr⟩:=a81 ho
 exact ⟨S',T,hr,by rw [← af7 (β:=β) (n:=s)]; exact X0 hok⟩
section
variable {S : Nat → Prop} {w : World} {m : M3} {a1 a2 a3 b1 b2 b3 c1 c2 c3 : Value}
theorem MapC.la (h : MapC S w m a1 a2 a3 b1 b2 b3 c1 c2 c3) : ∀ x ∈ [a1,a2,a3],K4 true 3 x:=fun x hx=>h.els.lies x (by simp only [List.mem_cons,List.not_mem_nil,or_false] at hx ⊢; rcases hx with h1 | h1 | h1 <;> simp [h1])
theorem MapC.lb (h : MapC S w m a1 a2 a3 b1 b2 b3 c1 c2 c3) : ∀ x ∈ [b1,b2,b3],K4 true 3 x:=fun x hx=>h.els.lies x (by simp only [List.mem_cons,List.not_mem_nil,or_false] at hx ⊢; rcases hx with h1 | h1 | h1 <;> simp [h1])
theorem MapC.lc (h : MapC S w m a1 a2 a3 b1 b2 b3 c1 c2 c3) : ∀ x ∈ [c1,c2,c3],K4 true 3 x:=fun x hx=>h.els.lies x (by simp only [List.mem_cons,List.not_mem_nil,or_false] at hx ⊢; rcases hx with h1 | h1 | h1 <;> simp [h1])
end
theorem d16 (a1 a2 a3 b1 b2 b3 c1 c2 c3 : Value) : ([] ++ z7 [a1,a2,a3]) ++ z7 [b1,b2,b3] ++ z7 [c1,c2,c3] = z7 [a1,a2,a3,b1,b2,b3,c1,c2,c3]:=by simp [z7]
theorem de5 {base : Bs} {hp : List HE} {β : Nat → Nat} {S : Nat → Prop} {w : World} {m : M3} {x v : Value} {T : TypeId} (hM : Mem base hp β w) (hb : nth hp 0 = some (.row T 3 v 9 (([] ++ z7 [(cel x 0 3),(cel x 3 3),(cel x 6 3)]) ++ z7 [(cel x 9 3),(cel x 12 3),(cel x 15 3)] ++ z7 [(cel x 18 3),(cel x 21 3),(cel x 24 3)]))) (h : MapC S w m (cel x 0 3) (cel x 3 3) (cel x 6 3) (cel x 9 3) (cel x 12 3) (cel x 15 3) (cel x 18 3) (cel x 21 3) (cel x 24 3)) :
  SeqV true 3 U8 (fun k=>S k ∨ some k = v.ownBlock) w v m.list:=by
 rw [d16] at hb
 exact h.els.seq (av6 hb hM) rfl
theorem bn7 {S : Nat → Prop} {w : World} {v : Value} {l : List M3} {k : Nat} (ht : Tab w) (hS : Up S w) (h : SeqV true 27 aq0 S w v l) (hl : ∀ m ∈ l,ml m k) (hk2 : 40 * k + 40 ≤ 3344) (hk : ∀ m ∈ l,M9 m = 0) : Gives prog 70 [v] w fun v' w'=>v' = .tuple #[] ∧ Ext w w':=by
 have hmx:=h.len_le
 unfold maxLen at hmx
 refine n7 (E:=env) (S0:=S) (G:=(ce5 v l)) (l:=[.one (.sl v l.length)]) func70 rfl rfl rfl ⟨h.sl,trivial⟩ rfl h ?_
 refine Q6 (ι:=Nat) [(3,4),(6,6),(9,27)] (fun j=>[(9,.one (.int .i64 (j : Int)))]) (fun _=>[]) (fun j=>(ce5 v l)) (fun j=>j ≤ l.length) (fun j=>l.length - j) (0) (Nat.zero_le _) (fun S w hw hG=>⟨x9 rfl,fun p hp=>by cases hp⟩) (fun S w hw hG=>hG) (fun hso j hj=>?_)
 refine W0 (p:=(j : Int) < (l.length : Int)) (fun hlt=>?_) (fun hlt=>?_)
 ·have hlt' : j < l.length:=by omega
  have hx0:=M3.at_get hlt'
  have hm:=List.mem_of_getElem? hx0
  obtain ⟨e1,e3⟩:=bq3 (hk _ hm)
  refine dj9 (T:=41) (s:=3) ?_
  refine o5 (at0 v l.length (j : Int) 63 27 (fun u0=>atG true 27 (fun x0=>bb0 x0 ((M3.at l j))) u0) (by kernel_rfl) ⟨d6,hS,j6⟩ (fun β S w hM hw hG=>hG.el rfl rfl hx0) ?_)
  intro u_1
  refine o5 (a25 u_1 63 27 true (fun x0=>.agg [.ag 3 (cel x0 0 3),.ag 3 (cel x0 3 3),.ag 3 (cel x0 6 3),.ag 3 (cel x0 9 3),.ag 3 (cel x0 12 3),.ag 3 (cel x0 15 3),.ag 3 (cel x0 18 3),.ag 3 (cel x0 21 3),.ag 3 (cel x0 24 3)]) (fun x0=>bb0 x0 ((M3.at l j))) (by kernel_rfl) ⟨d6,hS,j6⟩ (fun S w hw hG=>hG.1) (fun _ _ _ h=>b10 h) ?_)
  intro x
  refine r4 ?_
  refine o5 (a08 (cs:=[]) 0 (.slice none 0 0) 0 (.win 2 0 3 3) 41 3 56 3 (z7 [(cel x 0 3),(cel x 3 3),(cel x 6 3)]) (by kernel_rfl) (by kernel_rfl) ⟨d6,hS,j6⟩ (by decide) (by decide) (by decide) (fun β S w hM hw hG=>af6 2 42 [(cel x 0 3),(cel x 3 3),(cel x 6 3)] hM (by kernel_rfl) hG.1.2.la rfl (by decide)) ?_)
  intro v1
  refine r4 ?_
  refine o5 (a08 (cs:=([] ++ z7 [(cel x 0 3),(cel x 3 3),(cel x 6 3)])) 0 v1 3 (.win 3 0 3 3) 41 3 56 3 (z7 [(cel x 9 3),(cel x 12 3),(cel x 15 3)]) (by kernel_rfl) (by kernel_rfl) ⟨d6,hS,j6⟩ (by decide) (by decide) (by decide) (fun β S w hM hw hG=>af6 3 42 [(cel x 9 3),(cel x 12 3),(cel x 15 3)] hM (by kernel_rfl) hG.1.2.lb rfl (by decide)) ?_)
  intro v2
  refine r4 ?_
  refine o5 (a08 (cs:=(([] ++ z7 [(cel x 0 3),(cel x 3 3),(cel x 6 3)]) ++ z7 [(cel x 9 3),(cel x 12 3),(cel x 15 3)])) 0 v2 6 (.win 4 0 3 3) 41 3 56 3 (z7 [(cel x 18 3),(cel x 21 3),(cel x 24 3)]) (by kernel_rfl) (by kernel_rfl) ⟨d6,hS,j6⟩ (by decide) (by decide) (by decide) (fun β S w hM hw hG=>af6 4 42 [(cel x 18 3),(cel x 21 3),(cel x 24 3)] hM (by kernel_rfl) hG.1.2.lc rfl (by decide)) ?_)
  intro v3
  refine r4 ?_
  refine K7 (.und) rfl (fun β S w hS hM hs hw hG=>have hx:=hG.1; (kx (ad5 (ht.to hw) (r5 hS) (de5 (T:=41) (v:=v3) hM (by kernel_rfl) hx.2) (fun x hx=>j7 (ax6 (hl _ hm) x hx)) e1))) ?_
  refine G3 (fun x0=>.one (.ag 3 x0)) (fun x0=>j8 x0 ((M3.at l j).det)) (fun β S w hS hs hw hG=>(kx (b59 hS hG.1.2.map (hl _ hm) hk2))) ?_
  intro d
  refine A3 (.one (.tp ((M3.at l j).det = 0))) rfl (fun β S w hS hs hw hG=>(kx (D6 hS hG.1))) ?_
  refine Z8 (p:=(M3.at l j).det = 0) (e3) ?_
  refine aj3 (ps:=[InR .i64 ((j : Int) + 1)]) (by simp only [L5,InR,and_true]; omega) ?_
  exact O5 (j + 1) ⟨d6,hS,j6⟩ hso (by kernel_rfl) (by kernel_rfl) (fun β=>(by kernel_rfl)) (fun β=>(by kernel_rfl)) (by kernel_rfl) (by omega) (by omega) (fun S w hw hG=>⟨x9 rfl,fun p hp=>by cases hp⟩) (fun S w hw hG=>hG.2.2.2)
 refine S9 ?_
 exact n8 (.tuple #[]) rfl (fun S w hs hw hG=>⟨rfl,hw⟩)
theorem df4 {S : Nat → Prop} {w : World} {v : Value} {l : List M3} {n k : Nat} (ht : Tab w) (hS : Up S w) (h : SeqV true 27 aq0 S w v l) (hl : ∀ m ∈ l,ml m k) (hk2 : 40 * k + 40 ≤ 3344) (hn : n < l.length) (hb : M9 (M3.at l n) ≠ 0) (hk : ∀ i,i < n → M9 (M3.at l i) = 0) : Pan prog 70 [v] w (H0 (M9 (M3.at l n))):=by
 have hmx:=h.len_le
 unfold maxLen at hmx
 refine H2 (E:=env) (S0:=S) (G:=(ce5 v l)) (l:=[.one (.sl v l.length)]) func70 rfl rfl rfl ⟨h.sl,trivial⟩ rfl h ?_
 refine Q6 (ι:=Nat) [(3,4),(6,6),(9,27)] (fun j=>[(9,.one (.int .i64 (j : Int)))]) (fun _=>[]) (fun j=>(ce5 v l)) (fun j=>j ≤ n) (fun j=>n - j) (0) (Nat.zero_le _) (fun S w hw hG=>⟨x9 rfl,fun p hp=>by cases hp⟩) (fun S w hw hG=>hG) (fun hso j hj=>?_)
 have hlt' : j < l.length:=by omega
 refine U9 (p:=(j : Int) < (l.length : Int)) (by omega) ?_
 have hx0:=M3.at_get hlt'
 have hm:=List.mem_of_getElem? hx0
 refine dj9 (T:=41) (s:=3) ?_
 refine o5 (at0 v l.length (j : Int) 63 27 (fun u0=>atG true 27 (fun x0=>bb0 x0 ((M3.at l j))) u0) (by kernel_rfl) ⟨d6,hS,j6⟩ (fun β S w hM hw hG=>hG.el rfl rfl hx0) ?_)
 intro u_1
 refine o5 (a25 u_1 63 27 true (fun x0=>.agg [.ag 3 (cel x0 0 3),.ag 3 (cel x0 3 3),.ag 3 (cel x0 6 3),.ag 3 (cel x0 9 3),.ag 3 (cel x0 12 3),.ag 3 (cel x0 15 3),.ag 3 (cel x0 18 3),.ag 3 (cel x0 21 3),.ag 3 (cel x0 24 3)]) (fun x0=>bb0 x0 ((M3.at l j))) (by kernel_rfl) ⟨d6,hS,j6⟩ (fun S w hw hG=>hG.1) (fun _ _ _ h=>b10 h) ?_)
 intro x
 refine r4 ?_
 refine o5 (a08 (cs:=[]) 0 (.slice none 0 0) 0 (.win 2 0 3 3) 41 3 56 3 (z7 [(cel x 0 3),(cel x 3 3),(cel x 6 3)]) (by kernel_rfl) (by kernel_rfl) ⟨d6,hS,j6⟩ (by decide) (by decide) (by decide) (fun β S w hM hw hG=>af6 2 42 [(cel x 0 3),(cel x 3 3),(cel x 6 3)] hM (by kernel_rfl) hG.1.2.la rfl (by decide)) ?_)
 intro v1
 refine r4 ?_
 refine o5 (a08 (cs:=([] ++ z7 [(cel x 0 3),(cel x 3 3),(cel x 6 3)])) 0 v1 3 (.win 3 0 3 3) 41 3 56 3 (z7 [(cel x 9 3),(cel x 12 3),(cel x 15 3)]) (by kernel_rfl) (by kernel_rfl) ⟨d6,hS,j6⟩ (by decide) (by decide) (by decide) (fun β S w hM hw hG=>af6 3 42 [(cel x 9 3),(cel x 12 3),(cel x 15 3)] hM (by kernel_rfl) hG.1.2.lb rfl (by decide)) ?_)
 intro v2
 refine r4 ?_
 refine o5 (a08 (cs:=(([] ++ z7 [(cel x 0 3),(cel x 3 3),(cel x 6 3)]) ++ z7 [(cel x 9 3),(cel x 12 3),(cel x 15 3)])) 0 v2 6 (.win 4 0 3 3) 41 3 56 3 (z7 [(cel x 18 3),(cel x 21 3),(cel x 24 3)]) (by kernel_rfl) (by kernel_rfl) ⟨d6,hS,j6⟩ (by decide) (by decide) (by decide) (fun β S w hM hw hG=>af6 4 42 [(cel x 18 3),(cel x 21 3),(cel x 24 3)] hM (by kernel_rfl) hG.1.2.lc rfl (by decide)) ?_)
 intro v3
 refine r4 ?_
 by_cases e : j = n
 ·by_cases e1 : Z5 (M3.at l j).list = 0
  ·refine K7 (.und) rfl (fun β S w hS hM hs hw hG=>have hx:=hG.1; (kx (ad5 (ht.to hw) (r5 hS) (de5 (T:=41) (v:=v3) hM (by kernel_rfl) hx.2) (fun x hx=>j7 (ax6 (hl _ hm) x hx)) e1))) ?_
   refine G3 (fun x0=>.one (.ag 3 x0)) (fun x0=>j8 x0 ((M3.at l j).det)) (fun β S w hS hs hw hG=>(kx (b59 hS hG.1.2.map (hl _ hm) hk2))) ?_
   intro d
   refine A3 (.one (.tp ((M3.at l j).det = 0))) rfl (fun β S w hS hs hw hG=>(kx (D6 hS hG.1))) ?_
   have e2 : (M3.at l j).det = 0:=by
    refine Classical.byContradiction fun g=>hb ?_
    rw [← e]
    unfold M9
    rw [if_pos e1,if_neg g]
   have e3 : M9 (M3.at l n) = 60:=by
    rw [← e]
    unfold M9
    rw [if_pos e1,if_pos e2]
   rw [e3]
   refine U9 (p:=(M3.at l j).det = 0) (e2) ?_
   exact a66 ⟨d6,hS,j6⟩ (by kernel_rfl) (by kernel_rfl) (fun β S w hS hM hs hw hG=>(kx (bt1 (aa0 (e:=60)) (fun w' hk' ρ=>⟨rfl,hw.trans hk'⟩))))
  have e2 : M9 (M3.at l n) = Z5 (M3.at l j).list:=by
   rw [← e]
   unfold M9
   rw [if_neg e1]
  rw [e2]
  exact a66 ⟨d6,hS,j6⟩ (by kernel_rfl) (by kernel_rfl) (fun β S w hS hM hs hw hG=>have hx:=hG.1; (kx (bt1 (a44 (ht.to hw) (r5 hS) (de5 (T:=41) (v:=v3) hM (by kernel_rfl) hx.2) (fun x hx=>j7 (ax6 (hl _ hm) x hx)) e1) (fun w' hk' ρ=>⟨rfl,hw.trans hk'⟩))))
 obtain ⟨e1,e3⟩:=bq3 (hk j (by omega))
 refine K7 (.und) rfl (fun β S w hS hM hs hw hG=>have hx:=hG.1; (kx (ad5 (ht.to hw) (r5 hS) (de5 (T:=41) (v:=v3) hM (by kernel_rfl) hx.2) (fun x hx=>j7 (ax6 (hl _ hm) x hx)) e1))) ?_
 refine G3 (fun x0=>.one (.ag 3 x0)) (fun x0=>j8 x0 ((M3.at l j).det)) (fun β S w hS hs hw hG=>(kx (b59 hS hG.1.2.map (hl _ hm) hk2))) ?_
 intro d
 refine A3 (.one (.tp ((M3.at l j).det = 0))) rfl (fun β S w hS hs hw hG=>(kx (D6 hS hG.1))) ?_
 refine Z8 (p:=(M3.at l j).det = 0) (e3) ?_
 refine aj3 (ps:=[InR .i64 ((j : Int) + 1)]) (by simp only [L5,InR,and_true]; omega) ?_
 exact O5 (j + 1) ⟨d6,hS,j6⟩ hso (by kernel_rfl) (by kernel_rfl) (fun β=>(by kernel_rfl)) (fun β=>(by kernel_rfl)) (by kernel_rfl) (by omega) (by omega) (fun S w hw hG=>⟨x9 rfl,fun p hp=>by cases hp⟩) (fun S w hw hG=>hG.2.2.2)
theorem c38 {l : List Rat} : Z6 l ↔ ∀ x ∈ l,x = 0:=by
 unfold Z6
 constructor
 ·intro h x hx
  exact Classical.byContradiction fun g=>h ⟨x,hx,g⟩
 rintro h ⟨x,hx,g⟩
 exact g (h x hx)
theorem c85 {m : M3} {n : Nat} (h : ml m n) (hn : n ≤ 4) : M9 m = if m.det = 0 then 60 else 0:=by
 have hL : ¬ Z7 m.list:=by
  rintro ⟨x,hx,hl⟩
  exact bf2 (ax6 h x hx) hn hl
 unfold M9 Z5
 by_cases h1 : Z6 m.list
 ·have e:=c38.1 h1
  have hd : m.det = 0:=bd3 ⟨e m.a.x (by simp [M3.list]),e m.a.y (by simp [M3.list]),e m.a.z (by simp [M3.list])⟩
  rw [if_pos h1,if_neg (by decide),if_pos hd]
 rw [if_neg h1,if_neg hL,if_pos rfl]
structure C6 where
 a : Rat
 b : Rat
 c : Rat
 f : Rat
 g : Rat
 h : Rat
def C6.list (k : C6) : List Rat:=[k.a,k.b,k.c,k.f,k.g,k.h]
def cl (k : C6) (n : Nat) : Prop:=rl k.a n ∧ rl k.b n ∧ rl k.c n ∧ rl k.f n ∧ rl k.g n ∧ rl k.h n
noncomputable def dt9 (c1 c2 c3 c4 c5 c6 : Value) : Value:=(SV.agg [.ag 3 c1,.ag 3 c2,.ag 3 c3,.ag 3 c4,.ag 3 c5,.ag 3 c6]).den fun _=>0
structure ConC (S : Nat → Prop) (w : World) (k : C6) (c1 c2 c3 c4 c5 c6 : Value) : Prop where
 c1 : RatV S w c1 k.a
 c2 : RatV S w c2 k.b
 c3 : RatV S w c3 k.c
 c4 : RatV S w c4 k.f
 c5 : RatV S w c5 k.g
 c6 : RatV S w c6 k.h
def ConV (S : Nat → Prop) (w : World) (v : Value) (k : C6) : Prop:=∃ c1 c2 c3 c4 c5 c6,v = dt9 c1 c2 c3 c4 c5 c6 ∧ ConC S w k c1 c2 c3 c4 c5 c6
section
variable {S S' : Nat → Prop} {w w' : World} {v : Value} {k : C6} {c1 c2 c3 c4 c5 c6 : Value}
theorem ConC.keep (h : ConC S w k c1 c2 c3 c4 c5 c6) (g : Keeps S w w') : ConC S w' k c1 c2 c3 c4 c5 c6:=⟨h.c1.keep g,h.c2.keep g,h.c3.keep g,h.c4.keep g,h.c5.keep g,h.c6.keep g⟩
theorem ConC.mono (h : ConC S w k c1 c2 c3 c4 c5 c6) (hs : ∀ i,i < w.heap.size → S i → S' i) : ConC S' w k c1 c2 c3 c4 c5 c6:=⟨h.c1.mono hs,h.c2.mono hs,h.c3.mono hs,h.c4.mono hs,h.c5.mono hs,h.c6.mono hs⟩
theorem ConC.ok (n : Nat) (h : ConC S w k c1 c2 c3 c4 c5 c6) : (SV.agg [.ag 3 c1,.ag 3 c2,.ag 3 c3,.ag 3 c4,.ag 3 c5,.ag 3 c6]).Ok n:=F0 ⟨h.c1.okc,h.c2.okc,h.c3.okc,h.c4.okc,h.c5.okc,h.c6.okc,trivial⟩
theorem ConC.con (h : ConC S w k c1 c2 c3 c4 c5 c6) : ConV S w (dt9 c1 c2 c3 c4 c5 c6) k:=⟨_,_,_,_,_,_,rfl,h⟩
theorem ConV.keep (h : ConV S w v k) (g : Keeps S w w') : ConV S w' v k:=let ⟨c1,c2,c3,c4,c5,c6,e,h⟩:=h; ⟨c1,c2,c3,c4,c5,c6,e,h.keep g⟩
theorem ConV.mono (h : ConV S w v k) (hs : ∀ i,i < w.heap.size → S i → S' i) : ConV S' w v k:=let ⟨c1,c2,c3,c4,c5,c6,e,h⟩:=h; ⟨c1,c2,c3,c4,c5,c6,e,h.mono hs⟩
theorem ConV.ok (h : ConV S w v k) : (SV.one (.ag 18 v)).Ok 0:=by
 obtain ⟨c1,c2,c3,c4,c5,c6,rfl,h⟩:=h
 exact be4 (l:=[.ag 3 c1,.ag 3 c2,.ag 3 c3,.ag 3 c4,.ag 3 c5,.ag 3 c6]) (h.ok 0) rfl
theorem ConV.lies (h : ConV S w v k) : K4 true 18 v:=by
 obtain ⟨us,rfl,h2,_⟩:=h.ok
 have:=ak0 us
 rwa [h2] at this
theorem ConC.els (h : ConC S w k c1 c2 c3 c4 c5 c6) : ElsV true 3 U8 S w [c1,c2,c3,c4,c5,c6] k.list:=by
 refine ⟨rfl,fun x hx=>?_,fun i q x hq hx=>?_⟩
 ·simp only [List.mem_cons,List.not_mem_nil,or_false] at hx
  rcases hx with rfl | rfl | rfl | rfl | rfl | rfl
  ·exact h.c1.lies
  ·exact h.c2.lies
  ·exact h.c3.lies
  ·exact h.c4.lies
  ·exact h.c5.lies
  exact h.c6.lies
 match i with
 | 0=>simp [C6.list] at hq hx; subst hq hx; exact h.c1
 | 1=>simp [C6.list] at hq hx; subst hq hx; exact h.c2
 | 2=>simp [C6.list] at hq hx; subst hq hx; exact h.c3
 | 3=>simp [C6.list] at hq hx; subst hq hx; exact h.c4
 | 4=>simp [C6.list] at hq hx; subst hq hx; exact h.c5
 | 5=>simp [C6.list] at hq hx; subst hq hx; exact h.c6
 | i + 6=>simp [C6.list] at hq
end
abbrev aj9 (v : Value) (k : C6) : Gh:=⟨fun S w=>ConV S w v k,fun h g=>h.keep g,fun h g=>h.mono g⟩
noncomputable def dv6 (c1 c2 c3 c4 c5 c6 : Value) : Value:=(SV.agg [.ag 4 c1,.ag 4 c2,.ag 4 c3,.ag 4 c4,.ag 4 c5,.ag 4 c6]).den fun _=>0
structure QConC (S : Nat → Prop) (w : World) (k : C6) (c1 c2 c3 c4 c5 c6 : Value) : Prop where
 c1 : QV S w c1 k.a
 c2 : QV S w c2 k.b
 c3 : QV S w c3 k.c
 c4 : QV S w c4 k.f
 c5 : QV S w c5 k.g
 c6 : QV S w c6 k.h
def cf7 (S : Nat → Prop) (w : World) (v : Value) (k : C6) : Prop:=∃ c1 c2 c3 c4 c5 c6,v = dv6 c1 c2 c3 c4 c5 c6 ∧ QConC S w k c1 c2 c3 c4 c5 c6
section
variable {S S' : Nat → Prop} {w w' : World} {v : Value} {k : C6} {c1 c2 c3 c4 c5 c6 : Value}
theorem QConC.keep (h : QConC S w k c1 c2 c3 c4 c5 c6) (g : Keeps S w w') : QConC S w' k c1 c2 c3 c4 c5 c6:=⟨h.c1.keep g,h.c2.keep g,h.c3.keep g,h.c4.keep g,h.c5.keep g,h.c6.keep g⟩
theorem QConC.mono (h : QConC S w k c1 c2 c3 c4 c5 c6) (hs : ∀ i,i < w.heap.size → S i → S' i) : QConC S' w k c1 c2 c3 c4 c5 c6:=⟨h.c1.mono hs,h.c2.mono hs,h.c3.mono hs,h.c4.mono hs,h.c5.mono hs,h.c6.mono hs⟩
theorem QConC.ok (n : Nat) (h : QConC S w k c1 c2 c3 c4 c5 c6) : (SV.agg [.ag 4 c1,.ag 4 c2,.ag 4 c3,.ag 4 c4,.ag 4 c5,.ag 4 c6]).Ok n:=F0 ⟨h.c1.okc,h.c2.okc,h.c3.okc,h.c4.okc,h.c5.okc,h.c6.okc,trivial⟩
theorem QConC.els (h : QConC S w k c1 c2 c3 c4 c5 c6) : ElsV true 4 qF S w [c1,c2,c3,c4,c5,c6] k.list:=by
 refine ⟨rfl,fun x hx=>?_,fun i q x hq hx=>?_⟩
 ·simp only [List.mem_cons,List.not_mem_nil,or_false] at hx
  rcases hx with rfl | rfl | rfl | rfl | rfl | rfl
  ·exact h.c1.lies
  ·exact h.c2.lies
  ·exact h.c3.lies
  ·exact h.c4.lies
  ·exact h.c5.lies
  exact h.c6.lies
 match i with
 | 0=>simp [C6.list] at hq hx; subst hq hx; exact h.c1
 | 1=>simp [C6.list] at hq hx; subst hq hx; exact h.c2
 | 2=>simp [C6.list] at hq hx; subst hq hx; exact h.c3
 | 3=>simp [C6.list] at hq hx; subst hq hx; exact h.c4
 | 4=>simp [C6.list] at hq hx; subst hq hx; exact h.c5
 | 5=>simp [C6.list] at hq hx; subst hq hx; exact h.c6
 | i + 6=>simp [C6.list] at hq
end
abbrev a63 (u : Value) (m : M3) : Gh:=atG true 27 (fun x=>ag5 x m) u
abbrev a69 (u : Value) (k : C6) : Gh:=atG true 18 (fun x=>aj9 x k) u
theorem dx8 {S : Nat → Prop} {w : World} (F : FuncId) [ci : CallI prog F] (cap : List Value) {t : T3} {E : Int} (hS : Up S w) (h0 : E = 0 → a39 S w fun S' w'=>Gives prog F cap w' fun v w''=>Ext w' w'' ∧ TripV S' w'' v t) (h1 : ¬ E = 0 → a39 S w fun S' w'=>Pan prog F cap w' (H0 E)) :
  Gives prog 38 [.func (.func F) #[] cap.toArray] w fun v' w'=>Ext w w' ∧ (O9 v' (if E = 0 then t else ⟨0,0,0⟩) E).p S w':=by
 by_cases e : E = 0
 ·refine (as6 (F:=F) (cap:=cap) (t:=t) (E:=0) (Y:=True) (Z:=False) hS fun S' w' hS' k' hs hs'=>Gives.toE ((h0 e S' w' hS' k' hs hs').mono fun v w'' h=>⟨h.1,h.2,trivial⟩)).mono ?_
  rintro v' w' ⟨k',⟨x,rfl,h,_⟩ | ⟨rfl,hf⟩⟩
  ·exact ⟨k',by rw [e]; rfl,by rw [if_pos e]; exact h⟩
  exact hf.elim
 refine (as6 (F:=F) (cap:=cap) (t:=t) (E:=E) (Y:=False) (Z:=True) hS fun S' w' hS' k' hs hs'=>(h1 e S' w' hS' k' hs hs').mono (fun _ _ h=>h.elim) fun ch w'' h=>⟨h.1,h.2,trivial⟩).mono ?_
 rintro v' w' ⟨k',⟨x,rfl,h,hf⟩ | ⟨rfl,_⟩⟩
 ·exact hf.elim
 exact ⟨k',rfl,by rw [if_neg e]; exact bu3⟩
theorem dr5 {S : Nat → Prop} {w : World} (F : FuncId) [ci : CallI prog F] (cap : List Value) {p : Prop} {E : Int} (hS : Up S w) (h0 : E = 0 → a39 S w fun S' w'=>Gives prog F cap w' fun v w''=>v = .bool (tst p) ∧ Ext w' w'') (h1 : ¬ E = 0 → a39 S w fun S' w'=>Pan prog F cap w' (H0 E)) :
  Gives prog 51 [.func (.func F) #[] cap.toArray] w fun v' w'=>v' = .tuple #[.bool (tst (E = 0 ∧ p)),.int .i64 E] ∧ Ext w w':=by
 by_cases e : E = 0
 ·refine (au0 (F:=F) (cap:=cap) (b:=tst p) (E:=0) (Y:=True) (Z:=False) hS fun S' w' hS' k' hs hs'=>Gives.toE ((h0 e S' w' hS' k' hs hs').mono fun v w'' h=>⟨h.2,h.1,trivial⟩)).mono ?_
  rintro v' w' ⟨k',⟨rfl,_⟩ | ⟨rfl,hf⟩⟩
  ·have e2 : tst p = tst (E = 0 ∧ p):=congrArg tst (propext ⟨fun h=>⟨e,h⟩,fun h=>h.2⟩)
   exact ⟨by rw [← e2,e],k'⟩
  exact hf.elim
 refine (au0 (F:=F) (cap:=cap) (b:=true) (E:=E) (Y:=False) (Z:=True) hS fun S' w' hS' k' hs hs'=>(h1 e S' w' hS' k' hs hs').mono (fun _ _ h=>h.elim) fun ch w'' h=>⟨h.1,h.2,trivial⟩).mono ?_
 rintro v' w' ⟨k',⟨rfl,hf⟩ | ⟨rfl,_⟩⟩
 ·exact hf.elim
 exact ⟨by rw [l6 fun h=>e h.1],k'⟩
end Go.Proofs.YtmjbiocildkhnaaGreatDoor
end

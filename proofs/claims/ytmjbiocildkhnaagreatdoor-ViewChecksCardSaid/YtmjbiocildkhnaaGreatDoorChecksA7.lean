/- The statement ViewChecks, proved: for every four points, nine numbers and six numbers the law returns true; the listed tables of the library hold what the program's text lays (the given tie). -/
import Derived.Test.YtmjbiocildkhnaaGreatDoorChecksA6
import Derived.Test.YtmjbiocildkhnaaGreatDoorChecksA5
import Derived.Carry
import Derived.Test.YtmjbiocildkhnaaGreatDoorChecksA2
import Derived.Test.YtmjbiocildkhnaaGreatDoorCards
import Derived.Test.YtmjbiocildkhnaaGreatDoorTie
import Derived.ProofKit
import Derived.LaidMore
import Derived.OpenShut
import Derived.Stop.Joined
import Derived.SevenTiedAt
import Derived.Lay
set_option linter.unusedSimpArgs false
set_option linter.unusedVariables false
set_option maxRecDepth 100000
set_option maxHeartbeats 8000000
section
namespace Go.Proofs.YtmjbiocildkhnaaGreatDoor
open Go Go.RowKit Go.Proofs.Tryz
theorem bd9 {S : Nat → Prop} {w : World} {x : Value} {m : M3} (h : MapV S w x m) : ElsV true 27 aq0 S w [x] [m]:=⟨rfl,fun y hy=>by rw [List.mem_singleton.1 hy]; exact h.lies,fun i t y h1 h2=>by cases i with | zero=>(simp at h1 h2; subst h1 h2; exact d54 h) | succ i=>simp at h1⟩
theorem ba8 {S : Nat → Prop} {w : World} {x : Value} {p : T3} (h : TripV S w x p) : ElsV true 9 at5 S w [x] [p]:=⟨rfl,fun y hy=>by rw [List.mem_singleton.1 hy]; exact h.lies,fun i t y h1 h2=>by cases i with | zero=>(simp at h1 h2; subst h1 h2; exact h) | succ i=>simp at h1⟩
theorem a09 {α : Type} {a : α} {P : α → Prop} (h : P a) : ∀ x ∈ [a],P x:=fun x hx=>by rw [List.mem_singleton.1 hx]; exact h
theorem bx5 {S : Nat → Prop} {w : World} {v : Value} {m : M3} {k : Nat} (ht : Tab w) (hS : Up S w) (h : SeqV true 27 aq0 S w v [m]) (hl : ml m k) (hk2 : 40 * k + 40 ≤ 3344) (hb : ¬ M9 m = 0) : Pan prog 70 [v] w (H0 (M9 m)):=
 df4 (l:=[m]) (n:=0) ht hS h (a09 hl) hk2 (Nat.zero_lt_one) hb (fun i hi=>absurd hi (Nat.not_lt_zero _))
theorem at2 {S : Nat → Prop} {w : World} {v : Value} {p : T3} (ht : Tab w) (hS : Up S w) (h : SeqV true 9 at5 S w v [p]) (hl : tl p 1000000) (hb : ¬ A6 p = 0) : Pan prog 40 [v] w (H0 (A6 p)):=
 ap5 (l:=[p]) (n:=0) ht hS h (a09 hl) (Nat.zero_lt_one) hb (fun i hi=>absurd hi (Nat.not_lt_zero _))
theorem bd7 {m : M3} {p : T3} (h : m.det ≠ 0) (hp : A6 p = 0) : ¬ (m.apply p).None:=fun g=>(bg8 hp).1 (a33.2 ((M3.apply_none h).1 g))
noncomputable def J7 (m : M3) (p : T3) : Int:=if M9 m = 0 then A6 p else M9 m
theorem a80 {m : M3} {p : T3} (h : J7 m p = 0) : M9 m = 0 ∧ A6 p = 0:=by
 unfold J7 at h
 split at h
 ·exact ⟨‹_›,h⟩
 exact absurd h ‹_›
theorem br3 {S : Nat → Prop} {w : World} {u : Value} {m : M3} {k : Nat} (ht : Tab w) (hS : Up S w) (o : u.oneCell' = true) (h : (a63 u m).p S w) (hl : ml m k) (hk2 : 40 * k + 40 ≤ 3344) (e1 : M9 m = 0) :
  Gives prog 69 [u] w fun v' w'=>v' = .bool (tst True) ∧ Ext w w':=by
 refine n7 (E:=env) (S0:=S) (G:=(a63 u m)) (l:=[.one (.val u)]) func69 rfl rfl rfl ⟨o,trivial⟩ rfl h ?_
 refine o5 (r6 u 63 27 true (fun x0=>.one (.ag 27 x0)) (fun x0=>ag5 x0 (m)) (fun β S w hM hw hG=>let ⟨y,e1,e2,e3⟩:=hG; ⟨S,y,e1,e2,e3⟩) ?_)
 intro x
 refine K7 (.und) rfl (fun β S w hS hM hs hw hG=>(kx (bn7 (ht.to hw) (r5 hS) (D1 (F:=aq0) (l:=[m]) 0 63 [x] hM (by kernel_rfl) (bd9 hG.1) (show 1 ≤ maxLen by decide)) (a09 hl) hk2 (a09 e1)))) ?_
 exact n8 (.bool true) rfl (fun S w hs hw hG=>⟨by rw [l9 trivial],hw⟩)
theorem bs0 {S : Nat → Prop} {w : World} {u : Value} {m : M3} {k : Nat} (ht : Tab w) (hS : Up S w) (o : u.oneCell' = true) (h : (a63 u m).p S w) (hl : ml m k) (hk2 : 40 * k + 40 ≤ 3344) (e1 : ¬ M9 m = 0) :
  Pan prog 69 [u] w (H0 (M9 m)):=by
 refine H2 (E:=env) (S0:=S) (G:=(a63 u m)) (l:=[.one (.val u)]) func69 rfl rfl rfl ⟨o,trivial⟩ rfl h ?_
 refine o5 (r6 u 63 27 true (fun x0=>.one (.ag 27 x0)) (fun x0=>ag5 x0 (m)) (fun β S w hM hw hG=>let ⟨y,e1,e2,e3⟩:=hG; ⟨S,y,e1,e2,e3⟩) ?_)
 intro x
 exact a66 ⟨d6,hS,j6⟩ (by kernel_rfl) (by kernel_rfl) (fun β S w hS hM hs hw hG=>(kx (K5 (bx5 (ht.to hw) (r5 hS) (D1 (F:=aq0) (l:=[m]) 0 63 [x] hM (by kernel_rfl) (bd9 hG.1) (show 1 ≤ maxLen by decide)) hl hk2 e1) hw)))
theorem bx1 {S : Nat → Prop} {w : World} {v : Value} {m : M3} {k : Nat} (ht : Tab w) (hS : Up S w) (h : MapV S w v m) (hl : ml m k) (hk2 : 40 * k + 40 ≤ 3344) :
  Gives prog 16 [v] w fun v' w'=>v' = .int .i64 (M9 m) ∧ Ext w w':=by
 refine n7 (E:=env) (S0:=S) (G:=(ag5 v (m))) (l:=[.one (.ag 27 v)]) func16 rfl rfl rfl ⟨h.ok,trivial⟩ rfl h ?_
 refine o5 (L4 0 63 ([.ag 27 v]) (fun u=>?_))
 refine A3 (pr (.tp (M9 m = 0 ∧ True)) (.int .i64 (M9 m))) rfl (fun β S w hS hs hw hG=>(kx (dr5 69 [u] (p:=True) (E:=M9 m) hS (fun e S' w' hS' k' _ hs'=>br3 (ht.to (hw.trans k')) hS' (I0 hG.1) ((a63 u m).at' (ad8 (F:=fun x=>ag5 x m) hG.1 hG.2.lies hG.2) hs' k') hl hk2 e) (fun e S' w' hS' k' _ hs'=>bs0 (ht.to (hw.trans k')) hS' (I0 hG.1) ((a63 u m).at' (ad8 (F:=fun x=>ag5 x m) hG.1 hG.2.lies hG.2) hs' k') hl hk2 e)))) ?_
 exact n8 (.int .i64 (M9 m)) rfl (fun S w hs hw hG=>⟨rfl,hw⟩)
theorem ck8 {S : Nat → Prop} {w : World} {u1 u2 : Value} {m : M3} {p : T3} {k n q : Nat} (ht : Tab w) (hS : Up S w) (o1 : u1.oneCell' = true) (o2 : u2.oneCell' = true) (h1 : (a63 u1 m).p S w) (h2 : (B3 u2 p).p S w) (hl : ml m k) (hk2 : 40 * k + 40 ≤ 3344) (hn : tl p n) (hkn : 3 * (k + n + 1) + 1 ≤ 3344) (hq : tl (m.apply p).normal q) (hq2 : q ≤ 3344) (e1 : M9 m = 0) (e2 : A6 p = 0) :
  Gives prog 71 [u1,u2] w fun v' w'=>Ext w w' ∧ TripV S w' v' (m.apply p).normal:=by
 refine n7 (E:=env) (S0:=S) (G:=((a63 u1 m).and (B3 u2 p))) (l:=[.one (.val u1),.one (.val u2)]) func71 rfl rfl rfl ⟨o1,o2,trivial⟩ rfl ⟨h1,h2⟩ ?_
 refine o5 (r6 u1 63 27 true (fun x0=>.one (.ag 27 x0)) (fun x0=>ag5 x0 (m)) (fun β S w hM hw hG=>let ⟨y,e1,e2,e3⟩:=hG.1; ⟨S,y,e1,e2,e3⟩) ?_)
 intro x
 refine K7 (.und) rfl (fun β S w hS hM hs hw hG=>(kx (bn7 (ht.to hw) (r5 hS) (D1 (F:=aq0) (l:=[m]) 1 63 [x] hM (by kernel_rfl) (bd9 hG.1) (show 1 ≤ maxLen by decide)) (a09 hl) hk2 (a09 e1)))) ?_
 refine o5 (r6 u2 43 9 true (fun x0=>.one (.ag 9 x0)) (fun x0=>q7 x0 (p)) (fun β S w hM hw hG=>let ⟨y,e1,e2,e3⟩:=hG.2.2; ⟨S,y,e1,e2,e3⟩) ?_)
 intro y
 refine K7 (.und) rfl (fun β S w hS hM hs hw hG=>(kx (R8 (ht.to hw) (r5 hS) (D1 (l:=[p]) 2 43 [y] hM (by kernel_rfl) (ba8 hG.1) (show 1 ≤ maxLen by decide)) (a09 (G6 hn (by omega))) (a09 e2)))) ?_
 refine o5 (r6 u1 63 27 true (fun x0=>.one (.ag 27 x0)) (fun x0=>ag5 x0 (m)) (fun β S w hM hw hG=>let ⟨y,e1,e2,e3⟩:=hG.2.2.1; ⟨S,y,e1,e2,e3⟩) ?_)
 intro a
 refine o5 (r6 u2 43 9 true (fun x0=>.one (.ag 9 x0)) (fun x0=>q7 x0 (p)) (fun β S w hM hw hG=>let ⟨y,e1,e2,e3⟩:=hG.2.2.2.2; ⟨S,y,e1,e2,e3⟩) ?_)
 intro b
 refine G3 (fun x0=>.one (.ag 9 x0)) (fun x0=>q7 x0 ((m.apply p))) (fun β S w hS hs hw hG=>(kx (b25 hS hG.2.1 hG.1 hl hn hkn))) ?_
 intro r
 refine G3 (fun x0=>.one (.ag 9 x0)) (fun x0=>q7 x0 ((m.apply p).normal)) (fun β S w hS hs hw hG=>(kx (a02 hS hG.1 (bd7 (bq3 e1).2 e2) (G6 (ax3 hl hn) (by omega)) (bp1 hq hq2)))) ?_
 intro z
 exact n8 (z) rfl (fun S w hs hw hG=>⟨hw,hG.1.mono fun k _ hk=>hs k hk⟩)
theorem cr7 {S : Nat → Prop} {w : World} {u1 u2 : Value} {m : M3} {p : T3} {k n : Nat} (ht : Tab w) (hS : Up S w) (o1 : u1.oneCell' = true) (o2 : u2.oneCell' = true) (h1 : (a63 u1 m).p S w) (h2 : (B3 u2 p).p S w) (hl : ml m k) (hk2 : 40 * k + 40 ≤ 3344) (hn : tl p n) (hkn : 3 * (k + n + 1) + 1 ≤ 3344) (e0 : ¬ J7 m p = 0) :
  Pan prog 71 [u1,u2] w (H0 (J7 m p)):=by
 refine H2 (E:=env) (S0:=S) (G:=((a63 u1 m).and (B3 u2 p))) (l:=[.one (.val u1),.one (.val u2)]) func71 rfl rfl rfl ⟨o1,o2,trivial⟩ rfl ⟨h1,h2⟩ ?_
 refine o5 (r6 u1 63 27 true (fun x0=>.one (.ag 27 x0)) (fun x0=>ag5 x0 (m)) (fun β S w hM hw hG=>let ⟨y,e1,e2,e3⟩:=hG.1; ⟨S,y,e1,e2,e3⟩) ?_)
 intro x
 by_cases e1 : M9 m = 0
 ·have e : J7 m p = A6 p:=by unfold J7; rw [if_pos e1]
  have e2 : ¬ A6 p = 0:=by rw [← e]; exact e0
  rw [e]
  refine K7 (.und) rfl (fun β S w hS hM hs hw hG=>(kx (bn7 (ht.to hw) (r5 hS) (D1 (F:=aq0) (l:=[m]) 1 63 [x] hM (by kernel_rfl) (bd9 hG.1) (show 1 ≤ maxLen by decide)) (a09 hl) hk2 (a09 e1)))) ?_
  refine o5 (r6 u2 43 9 true (fun x0=>.one (.ag 9 x0)) (fun x0=>q7 x0 (p)) (fun β S w hM hw hG=>let ⟨y,e1,e2,e3⟩:=hG.2.2; ⟨S,y,e1,e2,e3⟩) ?_)
  intro y
  exact a66 ⟨d6,hS,j6⟩ (by kernel_rfl) (by kernel_rfl) (fun β S w hS hM hs hw hG=>(kx (K5 (at2 (ht.to hw) (r5 hS) (D1 (l:=[p]) 2 43 [y] hM (by kernel_rfl) (ba8 hG.1) (show 1 ≤ maxLen by decide)) (G6 hn (by omega)) e2) hw)))
 have e : J7 m p = M9 m:=by unfold J7; rw [if_neg e1]
 rw [e]
 exact a66 ⟨d6,hS,j6⟩ (by kernel_rfl) (by kernel_rfl) (fun β S w hS hM hs hw hG=>(kx (K5 (bx5 (ht.to hw) (r5 hS) (D1 (F:=aq0) (l:=[m]) 1 63 [x] hM (by kernel_rfl) (bd9 hG.1) (show 1 ≤ maxLen by decide)) hl hk2 e1) hw)))
theorem c83 {S : Nat → Prop} {w : World} {v vp : Value} {m : M3} {p : T3} {k n q : Nat} (ht : Tab w) (hS : Up S w) (h : MapV S w v m) (hp : TripV S w vp p) (hl : ml m k) (hk2 : 40 * k + 40 ≤ 3344) (hn : tl p n) (hkn : 3 * (k + n + 1) + 1 ≤ 3344) (hq : tl (m.apply p).normal q) (hq2 : q ≤ 3344) :
  Gives prog 18 [v,vp] w fun v' w'=>Ext w w' ∧ (O9 v' (if J7 m p = 0 then (m.apply p).normal else ⟨0,0,0⟩) (J7 m p)).p S w':=by
 refine n7 (E:=env) (S0:=S) (G:=((ag5 v (m)).and (q7 vp (p)))) (l:=[.one (.ag 27 v),.one (.ag 9 vp)]) func18 rfl rfl rfl ⟨h.ok,hp.ok,trivial⟩ rfl ⟨h,hp⟩ ?_
 refine o5 (L4 0 63 ([.ag 27 v]) (fun u1=>?_))
 refine o5 (L4 1 43 ([.ag 9 vp]) (fun u2=>?_))
 refine S4 (fun x0=>pr (.ag 9 (J8 x0)) (.int .i64 ((J7 m p)))) (fun x0=>O9 x0 ((if J7 m p = 0 then (m.apply p).normal else ⟨0,0,0⟩)) ((J7 m p))) (fun _ _ _ h=>ag4 h) (fun β S w hS hs hw hG=>have h:=hG.2.2.1; (kx (dx8 71 [u1,u2] (t:=(m.apply p).normal) (E:=J7 m p) hS (fun e S' w' hS' k' _ hs'=>ck8 (ht.to (hw.trans k')) hS' (I0 hG.2.1) (I0 hG.1) ((a63 u1 m).at' (ad8 (F:=fun x=>ag5 x m) hG.2.1 h.lies h) hs' k') ((B3 u2 p).at' (Q1 hG.1 hG.2.2.2) hs' k') hl hk2 hn hkn hq hq2 (a80 e).1 (a80 e).2) (fun e S' w' hS' k' _ hs'=>cr7 (ht.to (hw.trans k')) hS' (I0 hG.2.1) (I0 hG.1) ((a63 u1 m).at' (ad8 (F:=fun x=>ag5 x m) hG.2.1 h.lies h) hs' k') ((B3 u2 p).at' (Q1 hG.1 hG.2.2.2) hs' k') hl hk2 hn hkn e)))) ?_
 intro r
 exact n8 (.tuple #[J8 r,.int .i64 (J7 m p)]) rfl (fun S w hs hw hG=>⟨hw,rfl,hG.1.2.mono fun k _ hk=>hs k hk⟩)
namespace C6
def mat (k : C6) : M3:=⟨⟨2 * k.a,k.h,k.g⟩,⟨k.h,2 * k.b,k.f⟩,⟨k.g,k.f,2 * k.c⟩⟩
def val (k : C6) (p : T3) : Rat:=(k.mat.apply p).dot p
end C6
abbrev ch1 (k : C6) (c1 c2 c3 c4 c5 c6 : Value) : Gh:=⟨fun S w=>ConC S w k c1 c2 c3 c4 c5 c6,fun h g=>h.keep g,fun h g=>h.mono g⟩
theorem a82 {k : C6} {n : Nat} (h : cl k n) : ∀ x ∈ k.list,rl x n:=by
 intro x hx
 simp only [C6.list,List.mem_cons,List.not_mem_nil,or_false] at hx
 rcases hx with rfl | rfl | rfl | rfl | rfl | rfl
 ·exact h.1
 ·exact h.2.1
 ·exact h.2.2.1
 ·exact h.2.2.2.1
 ·exact h.2.2.2.2.1
 exact h.2.2.2.2.2
noncomputable def W5 (k : C6) : Int:=Z5 k.list
theorem a18 {S : Nat → Prop} {w : World} {v : Value} {k : C6} {n : Nat} (ht : Tab w) (hS : Up S w) (h : ConV S w v k) (hl : cl k n) (hn : n ≤ 1000000) (e : W5 k = 0) : Gives prog 75 [v] w fun v' w'=>v' = .tuple #[] ∧ Ext w w':=by
 obtain ⟨c1,c2,c3,c4,c5,c6,rfl,hk⟩:=h
 refine n7 (E:=env) (S0:=S) (G:=(ch1 k c1 c2 c3 c4 c5 c6)) (l:=[.agg [.ag 3 c1,.ag 3 c2,.ag 3 c3,.ag 3 c4,.ag 3 c5,.ag 3 c6]]) func75 rfl rfl rfl ⟨hk.ok _,trivial⟩ rfl hk ?_
 refine K7 (.und) rfl (fun β S w hS hM hs hw hG=>(kx (ad5 (ht.to hw) (r5 hS) (D1 (F:=U8) (l:=k.list) 0 72 [c1,c2,c3,c4,c5,c6] hM (by kernel_rfl) hG.els (show 6 ≤ maxLen by decide)) (fun x hx=>H9 (a82 hl x hx) hn) e))) ?_
 exact n8 (.tuple #[]) rfl (fun S w hs hw hG=>⟨rfl,hw⟩)
theorem bn0 {S : Nat → Prop} {w : World} {v : Value} {k : C6} {n : Nat} (ht : Tab w) (hS : Up S w) (h : ConV S w v k) (hl : cl k n) (hn : n ≤ 1000000) (e : ¬ W5 k = 0) : Pan prog 75 [v] w (H0 (W5 k)):=by
 obtain ⟨c1,c2,c3,c4,c5,c6,rfl,hk⟩:=h
 refine H2 (E:=env) (S0:=S) (G:=(ch1 k c1 c2 c3 c4 c5 c6)) (l:=[.agg [.ag 3 c1,.ag 3 c2,.ag 3 c3,.ag 3 c4,.ag 3 c5,.ag 3 c6]]) func75 rfl rfl rfl ⟨hk.ok _,trivial⟩ rfl hk ?_
 exact a66 ⟨d6,hS,j6⟩ (by kernel_rfl) (by kernel_rfl) (fun β S w hS hM hs hw hG=>(kx (K5 (a44 (ht.to hw) (r5 hS) (D1 (F:=U8) (l:=k.list) 0 72 [c1,c2,c3,c4,c5,c6] hM (by kernel_rfl) hG.els (show 6 ≤ maxLen by decide)) (fun x hx=>H9 (a82 hl x hx) hn) e) hw)))
theorem cm8 : rl (2 : Rat) 1:=N2 (by decide) (by decide)
theorem cv0 {k : C6} {n : Nat} (h : cl k n) : ml k.mat (n + 1):=⟨⟨j7 (r7 cm8 h.1),j7 h.2.2.2.2.2,j7 h.2.2.2.2.1⟩,⟨j7 h.2.2.2.2.2,j7 (r7 cm8 h.2.1),j7 h.2.2.2.1⟩,⟨j7 h.2.2.2.2.1,j7 h.2.2.2.1,j7 (r7 cm8 h.2.2.1)⟩⟩
theorem dn8 {S : Nat → Prop} {w : World} {v : Value} {k : C6} {n : Nat} (hS : Up S w) (h : ConV S w v k) (hl : cl k n) (hn : n ≤ 3000) : Gives prog 123 [v] w fun v' w'=>Ext w w' ∧ MapV S w' v' k.mat:=by
 obtain ⟨c1,c2,c3,c4,c5,c6,rfl,hk⟩:=h
 refine n7 (E:=env) (S0:=S) (G:=(ch1 k c1 c2 c3 c4 c5 c6)) (l:=[.agg [.ag 3 c1,.ag 3 c2,.ag 3 c3,.ag 3 c4,.ag 3 c5,.ag 3 c6]]) func123 rfl rfl rfl ⟨hk.ok _,trivial⟩ rfl hk ?_
 refine G3 (fun x0=>.one (.ag 3 x0)) (fun x0=>j8 x0 ((2 : Rat))) (fun β S w hS hs hw hG=>(kx (d67 (z:=2) hS (by decide) (by decide)))) ?_
 intro two
 refine n9 28 ?_
 refine d7 3 ?_
 refine q6 (fun x0=>.one (.ag 3 x0)) (fun x0=>j8 x0 ((2 * k.a))) (fun β η S w hS hs hw hG hd=>(kx (A1 hS hG.1 hG.2.c1 cm8 hl.1 (by omega)))) ?_
 refine d7 10 ?_
 refine q6 (fun x0=>.one (.ag 3 x0)) (fun x0=>j8 x0 ((2 * k.b))) (fun β η S w hS hs hw hG hd=>(kx (A1 hS hG.1 hG.2.c2 cm8 hl.2.1 (by omega)))) ?_
 refine d7 10 ?_
 refine q6 (fun x0=>.one (.ag 3 x0)) (fun x0=>j8 x0 ((2 * k.c))) (fun β η S w hS hs hw hG hd=>(kx (A1 hS hG.1 hG.2.c3 cm8 hl.2.2.1 (by omega)))) ?_
 refine d7 2 ?_
 refine n5 [true,true,true] ((ch1 k c1 c2 c3 c4 c5 c6).and (Gh.nil)) (by exact fun _ _ h=>⟨h.2,trivial⟩) (fun g η=>(j8 (η 25) ((2 * k.c))).and ((j8 (η 14) ((2 * k.b))).and ((j8 (η 3) ((2 * k.a))).and g))) (fun g η=>(by kernel_rfl)) ?_
 intro η_1
 exact n8 (bo9 (η_1 3) c6 c5 c6 (η_1 14) c4 c5 c4 (η_1 25)) rfl (fun S w hs hw hG=>have hk:=hG.2.2.2.1; ⟨hw,(MapC.mono (m:=k.mat) ⟨hG.2.2.1,hk.c6,hk.c5,hk.c6,hG.2.1,hk.c4,hk.c5,hk.c4,hG.1⟩ fun k _ hk=>hs k hk).map⟩)
theorem dz6 {S : Nat → Prop} {w : World} {v vp : Value} {k : C6} {p : T3} {n m : Nat} (hS : Up S w) (h : ConV S w v k) (hp : TripV S w vp p) (hl : cl k n) (hm : tl p m) (hnm : 12 * (n + m) + 40 ≤ 3000) : Gives prog 77 [v,vp] w fun v' w'=>Ext w w' ∧ RatV S w' v' (k.val p):=by
 refine n7 (E:=env) (S0:=S) (G:=((aj9 v (k)).and (q7 vp (p)))) (l:=[.one (.ag 18 v),.one (.ag 9 vp)]) func77 rfl rfl rfl ⟨h.ok,hp.ok,trivial⟩ rfl ⟨h,hp⟩ ?_
 refine n9 6 ?_
 refine d7 1 ?_
 refine q6 (fun x0=>.one (.ag 27 x0)) (fun x0=>ag5 x0 (k.mat)) (fun β η S w hS hs hw hG hd=>(kx (dn8 hS hG.1 hl (by omega)))) ?_
 refine d7 1 ?_
 refine q6 (fun x0=>.one (.ag 9 x0)) (fun x0=>q7 x0 ((k.mat.apply p))) (fun β η S w hS hs hw hG hd=>(kx (b25 hS (p8 hd 1 : (ag5 (η 1) (k.mat)).p S w) hG.2 (cv0 hl) hm (by omega)))) ?_
 refine d7 1 ?_
 refine q6 (fun x0=>.one (.ag 3 x0)) (fun x0=>j8 x0 ((k.val p))) (fun β η S w hS hs hw hG hd=>(kx (a12 hS (p8 hd 3 : (q7 (η 3) ((k.mat.apply p))).p S w) hG.2 (ax3 (cv0 hl) hm) hm (by omega)))) ?_
 refine n5 [true,false,false] (Gh.nil) (by exact fun _ _ h=>trivial) (fun g η=>(j8 (η 5) ((k.val p))).and g) (fun g η=>(by kernel_rfl)) ?_
 intro η_1
 exact n8 ((η_1 5)) rfl (fun S w hs hw hG=>⟨hw,hG.1.mono fun k _ hk=>hs k hk⟩)
theorem bh6 {S : Nat → Prop} {w : World} {u : Value} {k : C6} {n : Nat} (ht : Tab w) (hS : Up S w) (o : u.oneCell' = true) (h : (a69 u k).p S w) (hl : cl k n) (hn : n ≤ 1000000) (e1 : W5 k = 0) :
  Gives prog 74 [u] w fun v' w'=>v' = .bool (tst True) ∧ Ext w w':=by
 refine n7 (E:=env) (S0:=S) (G:=(a69 u k)) (l:=[.one (.val u)]) func74 rfl rfl rfl ⟨o,trivial⟩ rfl h ?_
 refine o5 (r6 u 72 18 true (fun x0=>.one (.ag 18 x0)) (fun x0=>aj9 x0 (k)) (fun β S w hM hw hG=>let ⟨y,e1,e2,e3⟩:=hG; ⟨S,y,e1,e2,e3⟩) ?_)
 intro x
 refine A3 (.und) rfl (fun β S w hS hs hw hG=>(kx (a18 (ht.to hw) hS hG.1 hl hn e1))) ?_
 exact n8 (.bool true) rfl (fun S w hs hw hG=>⟨by rw [l9 trivial],hw⟩)
theorem ba5 {S : Nat → Prop} {w : World} {u : Value} {k : C6} {n : Nat} (ht : Tab w) (hS : Up S w) (o : u.oneCell' = true) (h : (a69 u k).p S w) (hl : cl k n) (hn : n ≤ 1000000) (e1 : ¬ W5 k = 0) :
  Pan prog 74 [u] w (H0 (W5 k)):=by
 refine H2 (E:=env) (S0:=S) (G:=(a69 u k)) (l:=[.one (.val u)]) func74 rfl rfl rfl ⟨o,trivial⟩ rfl h ?_
 refine o5 (r6 u 72 18 true (fun x0=>.one (.ag 18 x0)) (fun x0=>aj9 x0 (k)) (fun β S w hM hw hG=>let ⟨y,e1,e2,e3⟩:=hG; ⟨S,y,e1,e2,e3⟩) ?_)
 intro x
 exact a67 (fun β S w hS hs hw hG=>(kx (K5 (bn0 (ht.to hw) hS hG.1 hl hn e1) hw)))
theorem bj2 {S : Nat → Prop} {w : World} {v : Value} {k : C6} {n : Nat} (ht : Tab w) (hS : Up S w) (h : ConV S w v k) (hl : cl k n) (hn : n ≤ 1000000) :
  Gives prog 21 [v] w fun v' w'=>v' = .int .i64 (W5 k) ∧ Ext w w':=by
 refine n7 (E:=env) (S0:=S) (G:=(aj9 v (k))) (l:=[.one (.ag 18 v)]) func21 rfl rfl rfl ⟨h.ok,trivial⟩ rfl h ?_
 refine o5 (L4 0 72 ([.ag 18 v]) (fun u=>?_))
 refine A3 (pr (.tp (W5 k = 0 ∧ True)) (.int .i64 (W5 k))) rfl (fun β S w hS hs hw hG=>(kx (dr5 74 [u] (p:=True) (E:=W5 k) hS (fun e S' w' hS' k' _ hs'=>bh6 (ht.to (hw.trans k')) hS' (I0 hG.1) ((a69 u k).at' (ad8 (F:=fun x=>aj9 x k) hG.1 hG.2.lies hG.2) hs' k') hl hn e) (fun e S' w' hS' k' _ hs'=>ba5 (ht.to (hw.trans k')) hS' (I0 hG.1) ((a69 u k).at' (ad8 (F:=fun x=>aj9 x k) hG.1 hG.2.lies hG.2) hs' k') hl hn e)))) ?_
 exact n8 (.int .i64 (W5 k)) rfl (fun S w hs hw hG=>⟨rfl,hw⟩)
noncomputable def cpE (k : C6) (p : T3) : Int:=if W5 k = 0 then A6 p else W5 k
theorem ct3 {k : C6} {p : T3} (h : cpE k p = 0) : W5 k = 0 ∧ A6 p = 0:=by
 unfold cpE at h
 split at h
 ·exact ⟨‹_›,h⟩
 exact absurd h ‹_›
theorem b36 {S : Nat → Prop} {w : World} {u1 u2 : Value} {k : C6} {p : T3} {n m : Nat} (ht : Tab w) (hS : Up S w) (o1 : u1.oneCell' = true) (o2 : u2.oneCell' = true) (h1 : (a69 u1 k).p S w) (h2 : (B3 u2 p).p S w) (hl : cl k n) (hm : tl p m) (hnm : 12 * (n + m) + 40 ≤ 3000) (e1 : W5 k = 0) (e2 : A6 p = 0) :
  Gives prog 76 [u1,u2] w fun v' w'=>v' = .bool (tst (k.val p = 0)) ∧ Ext w w':=by
 refine n7 (E:=env) (S0:=S) (G:=((a69 u1 k).and (B3 u2 p))) (l:=[.one (.val u1),.one (.val u2)]) func76 rfl rfl rfl ⟨o1,o2,trivial⟩ rfl ⟨h1,h2⟩ ?_
 refine o5 (r6 u1 72 18 true (fun x0=>.one (.ag 18 x0)) (fun x0=>aj9 x0 (k)) (fun β S w hM hw hG=>let ⟨y,e1,e2,e3⟩:=hG.1; ⟨S,y,e1,e2,e3⟩) ?_)
 intro x
 refine A3 (.und) rfl (fun β S w hS hs hw hG=>(kx (a18 (ht.to hw) hS hG.1 hl (by omega) e1))) ?_
 refine o5 (r6 u2 43 9 true (fun x0=>.one (.ag 9 x0)) (fun x0=>q7 x0 (p)) (fun β S w hM hw hG=>let ⟨y,e1,e2,e3⟩:=hG.2.2; ⟨S,y,e1,e2,e3⟩) ?_)
 intro y
 refine K7 (.und) rfl (fun β S w hS hM hs hw hG=>(kx (R8 (ht.to hw) (r5 hS) (D1 (l:=[p]) 0 43 [y] hM (by kernel_rfl) (ba8 hG.1) (show 1 ≤ maxLen by decide)) (a09 (G6 hm (by omega))) (a09 e2)))) ?_
 refine o5 (r6 u1 72 18 true (fun x0=>.one (.ag 18 x0)) (fun x0=>aj9 x0 (k)) (fun β S w hM hw hG=>let ⟨y,e1,e2,e3⟩:=hG.2.2.1; ⟨S,y,e1,e2,e3⟩) ?_)
 intro a
 refine o5 (r6 u2 43 9 true (fun x0=>.one (.ag 9 x0)) (fun x0=>q7 x0 (p)) (fun β S w hM hw hG=>let ⟨y,e1,e2,e3⟩:=hG.2.2.2.2; ⟨S,y,e1,e2,e3⟩) ?_)
 intro b
 refine G3 (fun x0=>.one (.ag 3 x0)) (fun x0=>j8 x0 ((k.val p))) (fun β S w hS hs hw hG=>(kx (dz6 hS hG.2.1 hG.1 hl hm hnm))) ?_
 intro c
 refine A3 (.one (.tp (k.val p = 0))) rfl (fun β S w hS hs hw hG=>(kx (D6 hS hG.1))) ?_
 exact n8 (.bool (tst (k.val p = 0))) rfl (fun S w hs hw hG=>⟨rfl,hw⟩)
theorem bv5 {S : Nat → Prop} {w : World} {u1 u2 : Value} {k : C6} {p : T3} {n m : Nat} (ht : Tab w) (hS : Up S w) (o1 : u1.oneCell' = true) (o2 : u2.oneCell' = true) (h1 : (a69 u1 k).p S w) (h2 : (B3 u2 p).p S w) (hl : cl k n) (hm : tl p m) (hnm : 12 * (n + m) + 40 ≤ 3000) (e0 : ¬ cpE k p = 0) :
  Pan prog 76 [u1,u2] w (H0 (cpE k p)):=by
 refine H2 (E:=env) (S0:=S) (G:=((a69 u1 k).and (B3 u2 p))) (l:=[.one (.val u1),.one (.val u2)]) func76 rfl rfl rfl ⟨o1,o2,trivial⟩ rfl ⟨h1,h2⟩ ?_
 refine o5 (r6 u1 72 18 true (fun x0=>.one (.ag 18 x0)) (fun x0=>aj9 x0 (k)) (fun β S w hM hw hG=>let ⟨y,e1,e2,e3⟩:=hG.1; ⟨S,y,e1,e2,e3⟩) ?_)
 intro x
 by_cases e1 : W5 k = 0
 ·have e : cpE k p = A6 p:=by unfold cpE; rw [if_pos e1]
  have e2 : ¬ A6 p = 0:=by rw [← e]; exact e0
  rw [e]
  refine A3 (.und) rfl (fun β S w hS hs hw hG=>(kx (a18 (ht.to hw) hS hG.1 hl (by omega) e1))) ?_
  refine o5 (r6 u2 43 9 true (fun x0=>.one (.ag 9 x0)) (fun x0=>q7 x0 (p)) (fun β S w hM hw hG=>let ⟨y,e1,e2,e3⟩:=hG.2.2; ⟨S,y,e1,e2,e3⟩) ?_)
  intro y
  exact a66 ⟨d6,hS,j6⟩ (by kernel_rfl) (by kernel_rfl) (fun β S w hS hM hs hw hG=>(kx (K5 (at2 (ht.to hw) (r5 hS) (D1 (l:=[p]) 0 43 [y] hM (by kernel_rfl) (ba8 hG.1) (show 1 ≤ maxLen by decide)) (G6 hm (by omega)) e2) hw)))
 have e : cpE k p = W5 k:=by unfold cpE; rw [if_neg e1]
 rw [e]
 exact a67 (fun β S w hS hs hw hG=>(kx (K5 (bn0 (ht.to hw) hS hG.1 hl (by omega) e1) hw)))
theorem b56 {S : Nat → Prop} {w : World} {v vp : Value} {k : C6} {p : T3} {n m : Nat} (ht : Tab w) (hS : Up S w) (h : ConV S w v k) (hp : TripV S w vp p) (hl : cl k n) (hm : tl p m) (hnm : 12 * (n + m) + 40 ≤ 3000) :
  Gives prog 23 [v,vp] w fun v' w'=>v' = .tuple #[.bool (tst (cpE k p = 0 ∧ k.val p = 0)),.int .i64 (cpE k p)] ∧ Ext w w':=by
 refine n7 (E:=env) (S0:=S) (G:=((aj9 v (k)).and (q7 vp (p)))) (l:=[.one (.ag 18 v),.one (.ag 9 vp)]) func23 rfl rfl rfl ⟨h.ok,hp.ok,trivial⟩ rfl ⟨h,hp⟩ ?_
 refine o5 (L4 0 72 ([.ag 18 v]) (fun u1=>?_))
 refine o5 (L4 1 43 ([.ag 9 vp]) (fun u2=>?_))
 refine A3 (pr (.tp (cpE k p = 0 ∧ k.val p = 0)) (.int .i64 (cpE k p))) rfl (fun β S w hS hs hw hG=>have h:=hG.2.2.1; (kx (dr5 76 [u1,u2] (p:=k.val p = 0) (E:=cpE k p) hS (fun e S' w' hS' k' _ hs'=>b36 (ht.to (hw.trans k')) hS' (I0 hG.2.1) (I0 hG.1) ((a69 u1 k).at' (ad8 (F:=fun x=>aj9 x k) hG.2.1 h.lies h) hs' k') ((B3 u2 p).at' (Q1 hG.1 hG.2.2.2) hs' k') hl hm hnm (ct3 e).1 (ct3 e).2) (fun e S' w' hS' k' _ hs'=>bv5 (ht.to (hw.trans k')) hS' (I0 hG.2.1) (I0 hG.1) ((a69 u1 k).at' (ad8 (F:=fun x=>aj9 x k) hG.2.1 h.lies h) hs' k') ((B3 u2 p).at' (Q1 hG.1 hG.2.2.2) hs' k') hl hm hnm e)))) ?_
 exact n8 (.tuple #[.bool (tst (cpE k p = 0 ∧ k.val p = 0)),.int .i64 (cpE k p)]) rfl (fun S w hs hw hG=>⟨rfl,hw⟩)
abbrev am1 (k : C6) (c1 c2 c3 c4 c5 c6 : Value) : Gh:=⟨fun S w=>QConC S w k c1 c2 c3 c4 c5 c6,fun h g=>h.keep g,fun h g=>h.mono g⟩
theorem bi2 {S : Nat → Prop} {w : World} {v : Value} {k : C6} {n : Nat} (hS : Up S w) (h : cf7 S w v k) (hl : cl k n) (hn : n ≤ 1000000) :
  Gives prog 20 [v] w fun v' w'=>v' = .int .i64 (W5 k) ∧ Ext w w':=by
 obtain ⟨c1,c2,c3,c4,c5,c6,rfl,hk⟩:=h
 refine n7 (E:=env) (S0:=S) (G:=(am1 k c1 c2 c3 c4 c5 c6)) (l:=[.agg [.ag 4 c1,.ag 4 c2,.ag 4 c3,.ag 4 c4,.ag 4 c5,.ag 4 c6]]) func20 rfl rfl rfl ⟨hk.ok _,trivial⟩ rfl hk ?_
 by_cases hn1 : Z6 k.list
 ·refine K7 (.tup [(true,[.bb false,.sl (.slice none 0 0) 0,.bb false,.sl (.slice none 0 0) 0]),(false,[.bb false])]) rfl (fun β S w hS hM hs hw hG=>(kx (by2 (r5 hS) (D1 (F:=qF) (l:=k.list) 0 68 [c1,c2,c3,c4,c5,c6] hM (by kernel_rfl) hG.els (show 6 ≤ maxLen by decide)) hn1))) ?_
  exact n8 (.int .i64 60) rfl (fun S w hs hw hG=>⟨by unfold W5 Z5; rw [if_pos hn1],hw⟩)
 have hn2 : 0 ≤ O4 al1 k.list 0:=af2.1 (Classical.not_not.1 hn1)
 obtain ⟨j,e1,e2,e3⟩:=bg5 hn2
 rw [Nat.zero_add] at e1
 refine dp6 (fun x0=>pr (.ag 4 (K3 x0 0)) (.bb true)) (fun x0=>G9 ((pr (.ag 4 (K3 x0 0)) (.bb true)).Ok 0 ∧ (pr (.ag 4 (K3 x0 0)) (.bb true)).den (fun _=>0) = x0)) ⟨d6,hS,j6⟩ (by kernel_rfl) (by kernel_rfl) (fun _ _ _ h=>h) (fun β S w hS hM hs hw hG=>(kx ((b32 (r5 hS) (D1 (F:=qF) (l:=k.list) 0 68 [c1,c2,c3,c4,c5,c6] hM (by kernel_rfl) hG.els (show 6 ≤ maxLen by decide)) e1 e2 e3).mono fun v' w' h=>⟨h.1,bq7 h.2⟩))) ?_
 intro y
 refine K7 (.one (.tp (Z7 k.list))) rfl (fun β S w hS hM hs hw hG=>(kx (au7 (r5 hS) (D1 (F:=qF) (l:=k.list) 0 68 [c1,c2,c3,c4,c5,c6] hM (by kernel_rfl) hG.2.els (show 6 ≤ maxLen by decide)) (fun x hx=>H9 (a82 hl x hx) hn)))) ?_
 refine W0 (p:=Z7 k.list) (fun h1=>?_) (fun h1=>?_)
 ·exact n8 (.int .i64 11) rfl (fun S w hs hw hG=>⟨by unfold W5 Z5; rw [if_neg hn1,if_pos h1],hw⟩)
 exact n8 (.int .i64 0) rfl (fun S w hs hw hG=>⟨by unfold W5 Z5; rw [if_neg hn1,if_neg h1],hw⟩)
def P6 (p : T3) : List Rat:=[p.x * p.x,p.y * p.y,p.z * p.z,p.y * p.z,p.z * p.x,p.x * p.y]
theorem d17 {S : Nat → Prop} {w : World} {v c1 c2 c3 c4 c5 c6 : Value} {x1 x2 x3 x4 x5 x6 : Rat} (h1 : QV S w c1 x1) (h2 : QV S w c2 x2) (h3 : QV S w c3 x3) (h4 : QV S w c4 x4) (h5 : QV S w c5 x5) (h6 : QV S w c6 x6)
  (hrow : Row S 31 4 w v 6 (c1.cells.toList ++ (c2.cells.toList ++ (c3.cells.toList ++ (c4.cells.toList ++ (c5.cells.toList ++ (c6.cells.toList ++ []))))))) : SeqV true 4 qF S w v [x1,x2,x3,x4,x5,x6]:=
 (QConC.els (k:=⟨x1,x2,x3,x4,x5,x6⟩) ⟨h1,h2,h3,h4,h5,h6⟩).ofRow (T:=31) hrow rfl
theorem b50 {S : Nat → Prop} {w : World} {vp : Value} {p : T3} {n : Nat} (hS : Up S w) (hp : QTripV S w vp p) (hl : tl p n) (hn : n ≤ 1000000) :
  Gives prog 78 [vp] w fun v' w'=>Ext w w' ∧ (qsG v' (P6 p)).p S w':=by
 obtain ⟨a,b,c,rfl,ha,hb,hc⟩:=hp
 have lx:=H9 hl.1 (show n ≤ 400000000000 by omega)
 have ly:=H9 hl.2.1 (show n ≤ 400000000000 by omega)
 have lz:=H9 hl.2.2 (show n ≤ 400000000000 by omega)
 refine n7 (E:=env) (S0:=S) (G:=((qG a p.x).and ((qG b p.y).and (qG c p.z)))) (l:=[.agg [.ag 4 a,.ag 4 b,.ag 4 c]]) func78 rfl rfl rfl ⟨F0 ⟨ha.okc,hb.okc,hc.okc,trivial⟩,trivial⟩ rfl ⟨ha,hb,hc⟩ ?_
 refine n9 31 ?_
 refine d7 4 ?_
 refine q6 (fun x0=>.one (.ag 4 x0)) (fun x0=>qG x0 ((p.x * p.x))) (fun β η S w hS hs hw hG hd=>(kx (D7 hS hG.1 hG.1 lx lx))) ?_
 refine d7 4 ?_
 refine q6 (fun x0=>.one (.ag 4 x0)) (fun x0=>qG x0 ((p.y * p.y))) (fun β η S w hS hs hw hG hd=>(kx (D7 hS hG.2.1 hG.2.1 ly ly))) ?_
 refine d7 4 ?_
 refine q6 (fun x0=>.one (.ag 4 x0)) (fun x0=>qG x0 ((p.z * p.z))) (fun β η S w hS hs hw hG hd=>(kx (D7 hS hG.2.2 hG.2.2 lz lz))) ?_
 refine d7 4 ?_
 refine q6 (fun x0=>.one (.ag 4 x0)) (fun x0=>qG x0 ((p.y * p.z))) (fun β η S w hS hs hw hG hd=>(kx (D7 hS hG.2.1 hG.2.2 ly lz))) ?_
 refine d7 4 ?_
 refine q6 (fun x0=>.one (.ag 4 x0)) (fun x0=>qG x0 ((p.z * p.x))) (fun β η S w hS hs hw hG hd=>(kx (D7 hS hG.2.2 hG.1 lz lx))) ?_
 refine d7 4 ?_
 refine q6 (fun x0=>.one (.ag 4 x0)) (fun x0=>qG x0 ((p.x * p.y))) (fun β η S w hS hs hw hG hd=>(kx (D7 hS hG.1 hG.2.1 lx ly))) ?_
 refine S6 31 4 6 (fun x0=>qsG x0 [p.x * p.x,p.y * p.y,p.z * p.z,p.y * p.z,p.z * p.x,p.x * p.y]) ⟨d6,hS,j6⟩ (fun η=>(by kernel_rfl)) (fun β η S w x0 w' hS hs hw hG hd hk hrow=>d17 ((p8 hd 4 : (qG (η 4) ((p.x * p.x))).p S w).to hk) ((p8 hd 9 : (qG (η 9) ((p.y * p.y))).p S w).to hk) ((p8 hd 14 : (qG (η 14) ((p.z * p.z))).p S w).to hk) ((p8 hd 19 : (qG (η 19) ((p.y * p.z))).p S w).to hk) ((p8 hd 24 : (qG (η 24) ((p.z * p.x))).p S w).to hk) ((p8 hd 29 : (qG (η 29) ((p.x * p.y))).p S w).to hk) (kc hrow (by kernel_rfl))) ?_
 refine n5 [true,false,false,false,false,false,false] (Gh.nil) (by exact fun _ _ h=>trivial) (fun g η=>(qsG (η 30) [p.x * p.x,p.y * p.y,p.z * p.z,p.y * p.z,p.z * p.x,p.x * p.y]).and g) (fun g η=>(by kernel_rfl)) ?_
 intro η_1
 exact n8 ((η_1 30)) rfl (fun S w hs hw hG=>⟨hw,SeqV.mono hG.1 fun k _ hk=>hs k hk⟩)
def C6.poly (k : C6) (p : T3) : Rat:=k.a * (p.x * p.x) + k.b * (p.y * p.y) + k.c * (p.z * p.z) + k.f * (p.y * p.z) + k.g * (p.z * p.x) + k.h * (p.x * p.y)
theorem c09 (k : C6) (p : T3) : k.val p = 2 * k.poly p:=by
 simp only [C6.val,C6.mat,C6.poly,M3.apply,T3.dot]
 grind
theorem b44 {k : C6} {p : T3} : k.val p = 0 ↔ k.poly p = 0:=by
 rw [c09]
 constructor
 ·intro h; exact (Rat.mul_eq_zero.1 h).resolve_left (by decide)
 intro h; rw [h,Rat.mul_zero]
theorem bk1 {S : Nat → Prop} {w : World} {v : Value} {l : List Rat} (h : SeqV true 4 qF S w v l) : ∃ S' T' cs,Row S' T' 4 w v l.length cs:=let ⟨T,vs,_,_,hr,_⟩:=h.row; ⟨S,T,_,hr⟩
theorem cn4 {S : Nat → Prop} {w : World} {v u : Value} {l : List Rat} {i : Nat} {x : Rat} (h : SeqV true 4 qF S w v l) (hi : l[i]? = some x) (hu : u = .pointer (some (adr v (i * 4)))) : ∃ S' y,K4 true 4 y ∧ At S' w u y.cells.toList ∧ (qG y x).p S w:=by
 subst hu
 obtain ⟨y,h1,h2,h3⟩:=h.at hi
 exact ⟨S,y,h1,h2,h3⟩
def C6.tm (k : C6) (p : T3) (i : Nat) : Rat:=k.list.getD i 0 * (P6 p).getD i 0
def C6.ps (k : C6) (p : T3) : Nat → Rat
 | 0=>0
 | i + 1=>k.ps p i + k.tm p i
theorem d22 (k : C6) (p : T3) : k.ps p 6 = k.poly p:=by
 show 0 + k.a * (p.x * p.x) + k.b * (p.y * p.y) + k.c * (p.z * p.z) + k.f * (p.y * p.z) + k.g * (p.z * p.x) + k.h * (p.x * p.y) = _
 rw [Rat.zero_add]
 rfl
theorem dk8 {k : C6} {n : Nat} (h : cl k n) : ∀ i,i < 6 → rl (k.list.getD i 0) n:=fun i hi=>by
 rw [List.getD_eq_getElem?_getD,List.getElem?_eq_getElem (show i < k.list.length from hi)]
 exact a82 h _ (List.getElem_mem _)
theorem dk6 {p : T3} {m : Nat} (h : tl p m) : ∀ i,i < 6 → rl ((P6 p).getD i 0) (2 * m):=fun i hi=>by
 have e : ∀ {x y : Rat},rl x m → rl y m → rl (x * y) (2 * m):=fun a b=>j7 (r7 a b)
 match i,hi with
 | 0,_=>exact e h.1 h.1
 | 1,_=>exact e h.2.1 h.2.1
 | 2,_=>exact e h.2.2 h.2.2
 | 3,_=>exact e h.2.1 h.2.2
 | 4,_=>exact e h.2.2 h.1
 | 5,_=>exact e h.1 h.2.1
theorem dk9 {k : C6} {p : T3} {n m : Nat} (h : cl k n) (g : tl p m) (i : Nat) (hi : i < 6) : rl (k.tm p i) (n + 2 * m):=r7 (dk8 h i hi) (dk6 g i hi)
theorem dw5 {k : C6} {p : T3} {n m : Nat} (h : cl k n) (g : tl p m) : ∀ i,i ≤ 6 → rl (k.ps p i) (i * (n + 2 * m + 1) + 1):=by
 intro i
 induction i with
 | zero=>intro _; exact j7 dx1
 | succ i ih=>intro hi; exact H9 (ab8 (ih (by omega)) (dk9 h g i (by omega))) (by rw [Nat.add_mul]; omega)
theorem cc7 {S : Nat → Prop} {w : World} {v vp : Value} {k : C6} {p : T3} {n m : Nat} (hS : Up S w) (h : cf7 S w v k) (hp : QTripV S w vp p) (hl : cl k n) (hm : tl p m) (hn : n ≤ 1000) (hmm : m ≤ 1000) :
  Gives prog 24 [v,vp] w fun v' w'=>v' = .bool (tst (k.poly p = 0)) ∧ Ext w w':=by
 have R:=fun i hi=>H9 (dw5 hl hm i hi) (show i * (n + 2 * m + 1) + 1 ≤ 400000000000 from Nat.le_trans (Nat.add_le_add_right (Nat.mul_le_mul hi (Nat.le_refl _)) 1) (by omega))
 have A:=fun i hi=>H9 (dk8 hl i hi) (show n ≤ 400000000000 by omega)
 have B:=fun i hi=>H9 (dk6 hm i hi) (show 2 * m ≤ 400000000000 by omega)
 have D:=fun i hi=>H9 (dk9 hl hm i hi) (show n + 2 * m ≤ 400000000000 by omega)
 obtain ⟨c1,c2,c3,c4,c5,c6,rfl,hk⟩:=h
 refine n7 (E:=env) (S0:=S) (G:=((o6 vp (p)).and (am1 k c1 c2 c3 c4 c5 c6))) (l:=[.agg [.ag 4 c1,.ag 4 c2,.ag 4 c3,.ag 4 c4,.ag 4 c5,.ag 4 c6],.one (.ag 12 vp)]) func24 rfl rfl rfl ⟨hk.ok _,hp.ok,trivial⟩ rfl ⟨hp,hk⟩ ?_
 refine S4 (fun x0=>.one (.sl x0 6)) (fun x0=>qsG x0 ((P6 p))) (fun _ _ _ h=>⟨h.sl,rfl⟩) (fun β S w hS hs hw hG=>(kx (b50 hS hG.1 hm (by omega)))) ?_
 intro v
 refine G3 (fun x0=>.one (.ag 4 x0)) (fun x0=>qG x0 ((k.ps p 0))) (fun β S w hS hs hw hG=>(kx (b22 hS))) ?_
 intro z
 refine r4 ?_
 refine n9 10 ?_
 refine d7 6 ?_
 refine ar6 (fun η=>v) 6 0 31 4 (fun u0=>G9 (u0 = .pointer (some (adr v (Int.toNat 0 * 4))))) (fun η=>(by kernel_rfl)) (fun η=>(by kernel_rfl)) ⟨d6,hS,j6⟩ (fun β η S w hM hw hG hd=>⟨by decide,by decide,bk1 hG.2.1,rfl⟩) ?_
 refine K9 (fun η=>η 6) 31 4 true (fun x0=>.one (.ag 4 x0)) (fun x0=>qG x0 (((P6 p).getD 0 0))) ⟨d6,hS,j6⟩ (fun β η S w hM hw hG hd=>cn4 hG.2.1 (i:=0) rfl (p8 hd 6 : (G9 ((η 6) = .pointer (some (adr v (Int.toNat 0 * 4))))).p S w)) ?_
 refine q6 (fun x0=>.one (.ag 4 x0)) (fun x0=>qG x0 ((k.tm p 0))) (fun β η S w hS hs hw hG hd=>(kx (D7 hS hG.2.2.2.c1 (p8 hd 7 : (qG (η 7) (((P6 p).getD 0 0))).p S w) (A 0 (by decide)) (B 0 (by decide))))) ?_
 refine q6 (fun x0=>.one (.ag 4 x0)) (fun x0=>qG x0 ((k.ps p 1))) (fun β η S w hS hs hw hG hd=>(kx (aa6 hS hG.1 (p8 hd 8 : (qG (η 8) ((k.tm p 0))).p S w) (R 0 (by decide)) (D 0 (by decide))))) ?_
 refine n5 [true,false,false,false] ((qsG v ((P6 p))).and ((am1 k c1 c2 c3 c4 c5 c6).and (Gh.nil))) (by exact fun _ _ h=>⟨h.2.1,h.2.2.2,trivial⟩) (fun g η=>(qG (η 9) ((k.ps p 1))).and g) (fun g η=>(by kernel_rfl)) ?_
 intro η_1
 refine r4 ?_
 refine n9 10 ?_
 refine d7 6 ?_
 refine ar6 (fun η=>v) 6 1 31 4 (fun u0=>G9 (u0 = .pointer (some (adr v (Int.toNat 1 * 4))))) (fun η=>(by kernel_rfl)) (fun η=>(by kernel_rfl)) ⟨d6,hS,j6⟩ (fun β η S w hM hw hG hd=>⟨by decide,by decide,bk1 hG.2.1,rfl⟩) ?_
 refine K9 (fun η=>η 6) 31 4 true (fun x0=>.one (.ag 4 x0)) (fun x0=>qG x0 (((P6 p).getD 1 0))) ⟨d6,hS,j6⟩ (fun β η S w hM hw hG hd=>cn4 hG.2.1 (i:=1) rfl (p8 hd 6 : (G9 ((η 6) = .pointer (some (adr v (Int.toNat 1 * 4))))).p S w)) ?_
 refine q6 (fun x0=>.one (.ag 4 x0)) (fun x0=>qG x0 ((k.tm p 1))) (fun β η S w hS hs hw hG hd=>(kx (D7 hS hG.2.2.1.c2 (p8 hd 7 : (qG (η 7) (((P6 p).getD 1 0))).p S w) (A 1 (by decide)) (B 1 (by decide))))) ?_
 refine q6 (fun x0=>.one (.ag 4 x0)) (fun x0=>qG x0 ((k.ps p 2))) (fun β η S w hS hs hw hG hd=>(kx (aa6 hS hG.1 (p8 hd 8 : (qG (η 8) ((k.tm p 1))).p S w) (R 1 (by decide)) (D 1 (by decide))))) ?_
 refine n5 [true,false,false,false] ((qsG v ((P6 p))).and ((am1 k c1 c2 c3 c4 c5 c6).and (Gh.nil))) (by exact fun _ _ h=>⟨h.2.1,h.2.2.1,trivial⟩) (fun g η=>(qG (η 9) ((k.ps p 2))).and g) (fun g η=>(by kernel_rfl)) ?_
 intro η_2
 refine r4 ?_
 refine n9 10 ?_
 refine d7 6 ?_
 refine ar6 (fun η=>v) 6 2 31 4 (fun u0=>G9 (u0 = .pointer (some (adr v (Int.toNat 2 * 4))))) (fun η=>(by kernel_rfl)) (fun η=>(by kernel_rfl)) ⟨d6,hS,j6⟩ (fun β η S w hM hw hG hd=>⟨by decide,by decide,bk1 hG.2.1,rfl⟩) ?_
 refine K9 (fun η=>η 6) 31 4 true (fun x0=>.one (.ag 4 x0)) (fun x0=>qG x0 (((P6 p).getD 2 0))) ⟨d6,hS,j6⟩ (fun β η S w hM hw hG hd=>cn4 hG.2.1 (i:=2) rfl (p8 hd 6 : (G9 ((η 6) = .pointer (some (adr v (Int.toNat 2 * 4))))).p S w)) ?_
 refine q6 (fun x0=>.one (.ag 4 x0)) (fun x0=>qG x0 ((k.tm p 2))) (fun β η S w hS hs hw hG hd=>(kx (D7 hS hG.2.2.1.c3 (p8 hd 7 : (qG (η 7) (((P6 p).getD 2 0))).p S w) (A 2 (by decide)) (B 2 (by decide))))) ?_
 refine q6 (fun x0=>.one (.ag 4 x0)) (fun x0=>qG x0 ((k.ps p 3))) (fun β η S w hS hs hw hG hd=>(kx (aa6 hS hG.1 (p8 hd 8 : (qG (η 8) ((k.tm p 2))).p S w) (R 2 (by decide)) (D 2 (by decide))))) ?_
 refine n5 [true,false,false,false] ((qsG v ((P6 p))).and ((am1 k c1 c2 c3 c4 c5 c6).and (Gh.nil))) (by exact fun _ _ h=>⟨h.2.1,h.2.2.1,trivial⟩) (fun g η=>(qG (η 9) ((k.ps p 3))).and g) (fun g η=>(by kernel_rfl)) ?_
 intro η_3
 refine r4 ?_
 refine n9 10 ?_
 refine d7 6 ?_
 refine ar6 (fun η=>v) 6 3 31 4 (fun u0=>G9 (u0 = .pointer (some (adr v (Int.toNat 3 * 4))))) (fun η=>(by kernel_rfl)) (fun η=>(by kernel_rfl)) ⟨d6,hS,j6⟩ (fun β η S w hM hw hG hd=>⟨by decide,by decide,bk1 hG.2.1,rfl⟩) ?_
 refine K9 (fun η=>η 6) 31 4 true (fun x0=>.one (.ag 4 x0)) (fun x0=>qG x0 (((P6 p).getD 3 0))) ⟨d6,hS,j6⟩ (fun β η S w hM hw hG hd=>cn4 hG.2.1 (i:=3) rfl (p8 hd 6 : (G9 ((η 6) = .pointer (some (adr v (Int.toNat 3 * 4))))).p S w)) ?_
 refine q6 (fun x0=>.one (.ag 4 x0)) (fun x0=>qG x0 ((k.tm p 3))) (fun β η S w hS hs hw hG hd=>(kx (D7 hS hG.2.2.1.c4 (p8 hd 7 : (qG (η 7) (((P6 p).getD 3 0))).p S w) (A 3 (by decide)) (B 3 (by decide))))) ?_
 refine q6 (fun x0=>.one (.ag 4 x0)) (fun x0=>qG x0 ((k.ps p 4))) (fun β η S w hS hs hw hG hd=>(kx (aa6 hS hG.1 (p8 hd 8 : (qG (η 8) ((k.tm p 3))).p S w) (R 3 (by decide)) (D 3 (by decide))))) ?_
 refine n5 [true,false,false,false] ((qsG v ((P6 p))).and ((am1 k c1 c2 c3 c4 c5 c6).and (Gh.nil))) (by exact fun _ _ h=>⟨h.2.1,h.2.2.1,trivial⟩) (fun g η=>(qG (η 9) ((k.ps p 4))).and g) (fun g η=>(by kernel_rfl)) ?_
 intro η_4
 refine r4 ?_
 refine n9 10 ?_
 refine d7 6 ?_
 refine ar6 (fun η=>v) 6 4 31 4 (fun u0=>G9 (u0 = .pointer (some (adr v (Int.toNat 4 * 4))))) (fun η=>(by kernel_rfl)) (fun η=>(by kernel_rfl)) ⟨d6,hS,j6⟩ (fun β η S w hM hw hG hd=>⟨by decide,by decide,bk1 hG.2.1,rfl⟩) ?_
 refine K9 (fun η=>η 6) 31 4 true (fun x0=>.one (.ag 4 x0)) (fun x0=>qG x0 (((P6 p).getD 4 0))) ⟨d6,hS,j6⟩ (fun β η S w hM hw hG hd=>cn4 hG.2.1 (i:=4) rfl (p8 hd 6 : (G9 ((η 6) = .pointer (some (adr v (Int.toNat 4 * 4))))).p S w)) ?_
 refine q6 (fun x0=>.one (.ag 4 x0)) (fun x0=>qG x0 ((k.tm p 4))) (fun β η S w hS hs hw hG hd=>(kx (D7 hS hG.2.2.1.c5 (p8 hd 7 : (qG (η 7) (((P6 p).getD 4 0))).p S w) (A 4 (by decide)) (B 4 (by decide))))) ?_
 refine q6 (fun x0=>.one (.ag 4 x0)) (fun x0=>qG x0 ((k.ps p 5))) (fun β η S w hS hs hw hG hd=>(kx (aa6 hS hG.1 (p8 hd 8 : (qG (η 8) ((k.tm p 4))).p S w) (R 4 (by decide)) (D 4 (by decide))))) ?_
 refine n5 [true,false,false,false] ((qsG v ((P6 p))).and ((am1 k c1 c2 c3 c4 c5 c6).and (Gh.nil))) (by exact fun _ _ h=>⟨h.2.1,h.2.2.1,trivial⟩) (fun g η=>(qG (η 9) ((k.ps p 5))).and g) (fun g η=>(by kernel_rfl)) ?_
 intro η_5
 refine r4 ?_
 refine n9 10 ?_
 refine d7 6 ?_
 refine ar6 (fun η=>v) 6 5 31 4 (fun u0=>G9 (u0 = .pointer (some (adr v (Int.toNat 5 * 4))))) (fun η=>(by kernel_rfl)) (fun η=>(by kernel_rfl)) ⟨d6,hS,j6⟩ (fun β η S w hM hw hG hd=>⟨by decide,by decide,bk1 hG.2.1,rfl⟩) ?_
 refine K9 (fun η=>η 6) 31 4 true (fun x0=>.one (.ag 4 x0)) (fun x0=>qG x0 (((P6 p).getD 5 0))) ⟨d6,hS,j6⟩ (fun β η S w hM hw hG hd=>cn4 hG.2.1 (i:=5) rfl (p8 hd 6 : (G9 ((η 6) = .pointer (some (adr v (Int.toNat 5 * 4))))).p S w)) ?_
 refine q6 (fun x0=>.one (.ag 4 x0)) (fun x0=>qG x0 ((k.tm p 5))) (fun β η S w hS hs hw hG hd=>(kx (D7 hS hG.2.2.1.c6 (p8 hd 7 : (qG (η 7) (((P6 p).getD 5 0))).p S w) (A 5 (by decide)) (B 5 (by decide))))) ?_
 refine q6 (fun x0=>.one (.ag 4 x0)) (fun x0=>qG x0 ((k.ps p 6))) (fun β η S w hS hs hw hG hd=>(kx (aa6 hS hG.1 (p8 hd 8 : (qG (η 8) ((k.tm p 5))).p S w) (R 5 (by decide)) (D 5 (by decide))))) ?_
 refine n5 [true,false,false,false] (Gh.nil) (by exact fun _ _ h=>trivial) (fun g η=>(qG (η 9) ((k.ps p 6))).and g) (fun g η=>(by kernel_rfl)) ?_
 intro η_6
 refine r4 ?_
 refine A3 (.one (.int .i64 (k.ps p 6).num.sign)) rfl (fun β S w hS hs hw hG=>(kx (az5 hG.1))) ?_
 exact n8 (.bool (tst ((k.ps p 6).num.sign = 0))) rfl (fun S w hs hw hG=>⟨by rw [d22,show ((k.poly p).num.sign = 0) = (k.poly p = 0) from propext ai8],hw⟩)
abbrev dn2 (m : M3) (a1 a2 a3 b1 b2 b3 c1 c2 c3 : Value) : Gh:=⟨fun S w=>QMapC S w m a1 a2 a3 b1 b2 b3 c1 c2 c3,fun h k=>⟨h.a1.keep k,h.a2.keep k,h.a3.keep k,h.b1.keep k,h.b2.keep k,h.b3.keep k,h.c1.keep k,h.c2.keep k,h.c3.keep k⟩,fun h k=>⟨h.a1.mono k,h.a2.mono k,h.a3.mono k,h.b1.mono k,h.b2.mono k,h.b3.mono k,h.c1.mono k,h.c2.mono k,h.c3.mono k⟩⟩
theorem bm7 {S : Nat → Prop} {w : World} {v : Value} {m : M3} {n : Nat} (hS : Up S w) (h : bv6 S w v m) (hl : ml m n) (hn : n ≤ 700) :
  Gives prog 17 [v] w fun v' w'=>Ext w w' ∧ MapV S w' v' m:=by
 obtain ⟨a1,a2,a3,b1,b2,b3,c1,c2,c3,rfl,hm⟩:=h
 refine n7 (E:=env) (S0:=S) (G:=(dn2 m a1 a2 a3 b1 b2 b3 c1 c2 c3)) (l:=[.agg [.ag 4 a1,.ag 4 a2,.ag 4 a3,.ag 4 b1,.ag 4 b2,.ag 4 b3,.ag 4 c1,.ag 4 c2,.ag 4 c3]]) func17 rfl rfl rfl ⟨hm.ok _,trivial⟩ rfl hm ?_
 refine r4 ?_
 refine S4 (fun x0=>.agg [.ag 3 (cel x0 0 3),.ag 3 (cel x0 3 3),.ag 3 (cel x0 6 3)]) (fun x0=>S5 x0 (m.a)) (fun _ _ _ h=>P5 h) (fun β S w hS hs hw hG=>(kx ((D5 hS ⟨_,_,_,rfl,hG.a1,hG.a2,hG.a3⟩ hl.1 hn).mono fun v' w' h=>⟨h.1,bi4 h.2⟩))) ?_
 intro x
 refine r4 ?_
 refine S4 (fun x0=>.agg [.ag 3 (cel x0 0 3),.ag 3 (cel x0 3 3),.ag 3 (cel x0 6 3)]) (fun x0=>S5 x0 (m.b)) (fun _ _ _ h=>P5 h) (fun β S w hS hs hw hG=>(kx ((D5 hS ⟨_,_,_,rfl,hG.2.b1,hG.2.b2,hG.2.b3⟩ hl.2.1 hn).mono fun v' w' h=>⟨h.1,bi4 h.2⟩))) ?_
 intro y
 refine r4 ?_
 refine S4 (fun x0=>.agg [.ag 3 (cel x0 0 3),.ag 3 (cel x0 3 3),.ag 3 (cel x0 6 3)]) (fun x0=>S5 x0 (m.c)) (fun _ _ _ h=>P5 h) (fun β S w hS hs hw hG=>(kx ((D5 hS ⟨_,_,_,rfl,hG.2.2.c1,hG.2.2.c2,hG.2.2.c3⟩ hl.2.2 hn).mono fun v' w' h=>⟨h.1,bi4 h.2⟩))) ?_
 intro z
 refine r4 ?_
 exact n8 (bo9 (cel x 0 3) (cel x 3 3) (cel x 6 3) (cel y 0 3) (cel y 3 3) (cel y 6 3) (cel z 0 3) (cel z 3 3) (cel z 6 3)) rfl (fun S w hs hw hG=>⟨hw,(MapC.mono (m:=m) ⟨hG.2.2.1.2.1,hG.2.2.1.2.2.1,hG.2.2.1.2.2.2,hG.2.1.2.1,hG.2.1.2.2.1,hG.2.1.2.2.2,hG.1.2.1,hG.1.2.2.1,hG.1.2.2.2⟩ fun k _ hk=>hs k hk).map⟩)
theorem b33 {S : Nat → Prop} {w : World} {v : Value} {k : C6} {n : Nat} (hS : Up S w) (h : cf7 S w v k) (hl : cl k n) (hn : n ≤ 700) :
  Gives prog 22 [v] w fun v' w'=>Ext w w' ∧ ConV S w' v' k:=by
 obtain ⟨c1,c2,c3,c4,c5,c6,rfl,hk⟩:=h
 refine n7 (E:=env) (S0:=S) (G:=(am1 k c1 c2 c3 c4 c5 c6)) (l:=[.agg [.ag 4 c1,.ag 4 c2,.ag 4 c3,.ag 4 c4,.ag 4 c5,.ag 4 c6]]) func22 rfl rfl rfl ⟨hk.ok _,trivial⟩ rfl hk ?_
 refine r4 ?_
 refine G3 (fun x0=>.one (.ag 3 x0)) (fun x0=>j8 x0 (k.a)) (fun β S w hS hs hw hG=>(kx (ai0 hS hG.c1 hl.1 hn))) ?_
 intro x0
 refine r4 ?_
 refine G3 (fun x0=>.one (.ag 3 x0)) (fun x0=>j8 x0 (k.b)) (fun β S w hS hs hw hG=>(kx (ai0 hS hG.2.c2 hl.2.1 hn))) ?_
 intro x1
 refine r4 ?_
 refine G3 (fun x0=>.one (.ag 3 x0)) (fun x0=>j8 x0 (k.c)) (fun β S w hS hs hw hG=>(kx (ai0 hS hG.2.2.c3 hl.2.2.1 hn))) ?_
 intro x2
 refine r4 ?_
 refine G3 (fun x0=>.one (.ag 3 x0)) (fun x0=>j8 x0 (k.f)) (fun β S w hS hs hw hG=>(kx (ai0 hS hG.2.2.2.c4 hl.2.2.2.1 hn))) ?_
 intro x3
 refine r4 ?_
 refine G3 (fun x0=>.one (.ag 3 x0)) (fun x0=>j8 x0 (k.g)) (fun β S w hS hs hw hG=>(kx (ai0 hS hG.2.2.2.2.c5 hl.2.2.2.2.1 hn))) ?_
 intro x4
 refine r4 ?_
 refine G3 (fun x0=>.one (.ag 3 x0)) (fun x0=>j8 x0 (k.h)) (fun β S w hS hs hw hG=>(kx (ai0 hS hG.2.2.2.2.2.c6 hl.2.2.2.2.2 hn))) ?_
 intro x5
 refine r4 ?_
 exact n8 (dt9 x0 x1 x2 x3 x4 x5) rfl (fun S w hs hw hG=>have hk:=hG.2.2.2.2.2.2; ⟨hw,(ConC.mono (k:=k) ⟨hG.2.2.2.2.2.1,hG.2.2.2.2.1,hG.2.2.2.1,hG.2.2.1,hG.2.1,hG.1⟩ fun k _ hk=>hs k hk).con⟩)
theorem b90 {S : Nat → Prop} {w : World} {u : Value} {p : T3} {m : Nat} (ht : Tab w) (hS : Up S w) (o : u.oneCell' = true) (h : (B3 u p).p S w) (hm : tl p m) (hmm : m ≤ 1000000) (hp0 : ¬ A6 p = 0) : Pan prog 39 [u] w (H0 (A6 p)):=by
 refine H2 (E:=env) (S0:=S) (G:=(B3 u p)) (l:=[.one (.val u)]) func39 rfl rfl rfl ⟨o,trivial⟩ rfl h ?_
 refine o5 (r6 u 43 9 true (fun x0=>.one (.ag 9 x0)) (fun x0=>q7 x0 (p)) (fun β S w hM hw hG=>let ⟨y,e1,e2,e3⟩:=hG; ⟨S,y,e1,e2,e3⟩) ?_)
 intro x
 exact a66 ⟨d6,hS,j6⟩ (by kernel_rfl) (by kernel_rfl) (fun β S w hS hM hs hw hG=>(kx (K5 (at2 (ht.to hw) (r5 hS) (D1 (l:=[p]) 1 43 [x] hM (by kernel_rfl) (ba8 hG.1) (show 1 ≤ maxLen by decide)) (G6 hm hmm) hp0) hw)))
theorem bx6 {p : T3} (h : A6 p = 0) : ¬ p.None:=fun g=>(bg8 h).1 (a33.2 g)
theorem cl3 {S : Nat → Prop} {w : World} {vp : Value} {p : T3} {m k : Nat} (ht : Tab w) (hS : Up S w) (hp : TripV S w vp p) (hm : tl p m) (hmm : m ≤ 1000000) (hk : tl p.normal k) (hk2 : k ≤ 3344) :
  Gives prog 6 [vp] w fun v' w'=>Ext w w' ∧ (O9 v' (if A6 p = 0 then p.normal else ⟨0,0,0⟩) (A6 p)).p S w':=by
 refine n7 (E:=env) (S0:=S) (G:=(q7 vp (p))) (l:=[.one (.ag 9 vp)]) func6 rfl rfl rfl ⟨hp.ok,trivial⟩ rfl hp ?_
 refine o5 (L4 0 43 ([.ag 9 vp]) (fun u=>?_))
 refine S4 (fun x0=>pr (.ag 9 (J8 x0)) (.int .i64 ((A6 p)))) (fun x0=>O9 x0 ((if A6 p = 0 then p.normal else ⟨0,0,0⟩)) ((A6 p))) (fun _ _ _ h=>ag4 h) (fun β S w hS hs hw hG=>(kx (dx8 39 [u] (t:=p.normal) (E:=A6 p) hS (fun e S' w' hS' k' _ hs'=>b71 (ht.to (hw.trans k')) hS' (I0 hG.1) ((B3 u p).at' (Q1 hG.1 hG.2) hs' k') hm hmm hk hk2 e (bx6 e)) (fun e S' w' hS' k' _ hs'=>b90 (ht.to (hw.trans k')) hS' (I0 hG.1) ((B3 u p).at' (Q1 hG.1 hG.2) hs' k') hm hmm e)))) ?_
 intro r
 exact n8 (.tuple #[J8 r,.int .i64 (A6 p)]) rfl (fun S w hs hw hG=>⟨hw,rfl,hG.1.2.mono fun k _ hk=>hs k hk⟩)
theorem al6 {α : Type} {base : Bs} {hp : List HE} {β : Nat → Nat} {g : Bool} {s : Nat} {F : Value → α → Gh} {S : Nat → Prop} {w : World} {l : List α} (i k n c : Nat) (T : TypeId) (vs : List Value) (hM : Mem base hp β w) (hb : nth hp i = some (.blk T (vs.map (Ch.ag s)))) (hl : ∀ x ∈ vs,K4 g s x) (h : ElsV g s F S w ((vs.drop k).take n) l) (hn : l.length = n) (hnc : n ≤ c) (hkn : k + c ≤ vs.length) (hm : c ≤ maxLen) :
  SeqV g s F (fun k=>S k ∨ some k = Value.ownBlock (.slice (some ⟨β i,0,none⟩) 0 0)) w (.slice (some ⟨β i,k * s,none⟩) n c) l:=by
 rw [M1] at hb
 have hB:=(hM.blk i T _ hb).1
 rw [af7] at hB
 have hc:=L6 hl
 have hle : (k + c) * s ≤ vs.length * s:=Nat.mul_le_mul_right _ hkn
 rw [Nat.add_mul] at hle
 refine ⟨T,(vs.drop k).take n,h.len,h.lies,⟨?_,.inr ⟨β i,k * s,c,(z7 vs).toArray,(0,0),by rw [hn],by rw [hn]; exact hnc,hm,.inr rfl,hB,?_,?_⟩⟩,fun j a x ha hx=>((F x a).mono (h.el j a x ha hx) fun k _ hk=>.inl hk)⟩
 ·have h1:=L6 h.lies
  rw [h.len] at h1
  exact h1
 ·simp only [List.size_toArray,hc]
  omega
 rw [hn]
 have e1:=bm1 (g:=g) (s:=s) (vs:=vs.drop k) (fun x hx=>hl x (List.mem_of_mem_drop hx)) n
 have e2 : (z7 vs).drop (k * s) = z7 (vs.drop k):=by
  have h3 : z7 vs = z7 (vs.take k) ++ z7 (vs.drop k):=by unfold z7; rw [← List.flatMap_append,List.take_append_drop]
  have h4:=L6 (g:=g) (s:=s) (vs:=vs.take k) (fun x hx=>hl x (List.mem_of_mem_take hx))
  rw [List.length_take,Nat.min_eq_left (by omega)] at h4
  rw [h3,← h4,List.drop_left]
 show ((z7 vs).drop (k * s)).take (n * s) = _
 rw [e2,e1]
 rfl
abbrev dy4 (v : Value) (q : Rat) (p : Prop) (e : Int) : Gh:=⟨fun S w=>v = .tuple #[K3 v 0,.bool (tst p),.int .i64 e] ∧ RatV S w (K3 v 0) q,fun h k=>⟨h.1,h.2.keep k⟩,fun h k=>⟨h.1,h.2.mono k⟩⟩
theorem dc7 {v : Value} {q : Rat} {p : Prop} {e : Int} {S : Nat → Prop} {w : World} (h : (dy4 v q p e).p S w) : (SV.tup [(true,[.ag 3 (K3 v 0)]),(false,[.tp p]),(false,[.int .i64 e])]).Ok 0 ∧ (SV.tup [(true,[.ag 3 (K3 v 0)]),(false,[.tp p]),(false,[.int .i64 e])]).den (fun _=>0) = v:=by
 refine ⟨fun p hp c hc=>?_,?_⟩
 ·simp only [List.mem_cons,List.not_mem_nil,or_false] at hp
  rcases hp with rfl | rfl | rfl <;> (simp only [List.mem_cons,List.not_mem_nil,or_false] at hc; subst hc)
  ·exact h.2.okc
  ·trivial
  trivial
 conv=>rhs; rw [h.1]
 obtain ⟨m,b,hv,_⟩:=h.2
 rw [hv]
 rfl
theorem br8 (p : T3) : B4 [p] = A6 p:=by
 unfold B4
 split
 ·rename_i h; rw [h]; rfl
 rfl
theorem dp8 (p q : T3) : B4 [p,q] = M8 p q:=by
 unfold B4 M8
 split
 ·exact br8 q
 rfl
theorem b65 {S : Nat → Prop} {w : World} {x0 x1 x2 x3 : Value} {p : T3} (h : QTripV S w x0 p) : ElsV true 12 aq1 S w ((([x0,x1,x2,x3] : List Value).drop 0).take 1) [p]:=⟨rfl,fun y hy=>by rw [List.mem_singleton.1 hy]; exact h.lies,fun i t y h1 h2=>by cases i with | zero=>(simp at h1 h2; subst h1 h2; exact h) | succ i=>simp at h1⟩
theorem cy6 {S : Nat → Prop} {w : World} {x0 x1 x2 x3 : Value} {p q r s : T3} (h0 : QTripV S w x0 p) (h1 : QTripV S w x1 q) (h2 : QTripV S w x2 r) (h3 : QTripV S w x3 s) : ElsV true 12 aq1 S w [x0,x1,x2,x3] [p,q,r,s]:=
 ((((df3 (F:=aq1)).snoc h0.lies h0).snoc h1.lies h1).snoc h2.lies h2).snoc h3.lies h3
def d00 (l : Nat → Nat → Int) : Value:=.agg #[.int .i64 (l 0 0),.int .i64 (l 0 1),.int .i64 (l 0 2),.int .i64 (l 0 3),.int .i64 (l 0 4),.int .i64 (l 0 5),.int .i64 (l 1 0),.int .i64 (l 1 1),.int .i64 (l 1 2),.int .i64 (l 1 3),.int .i64 (l 1 4),.int .i64 (l 1 5),.int .i64 (l 2 0),.int .i64 (l 2 1),.int .i64 (l 2 2),.int .i64 (l 2 3),.int .i64 (l 2 4),.int .i64 (l 2 5),.int .i64 (l 3 0),.int .i64 (l 3 1),.int .i64 (l 3 2),.int .i64 (l 3 3),.int .i64 (l 3 4),.int .i64 (l 3 5)]
theorem da7 {l : Nat → Nat → Int} {m : Nat} : (SV.agg [.int .i64 (l 0 0),.int .i64 (l 0 1),.int .i64 (l 0 2),.int .i64 (l 0 3),.int .i64 (l 0 4),.int .i64 (l 0 5),.int .i64 (l 1 0),.int .i64 (l 1 1),.int .i64 (l 1 2),.int .i64 (l 1 3),.int .i64 (l 1 4),.int .i64 (l 1 5),.int .i64 (l 2 0),.int .i64 (l 2 1),.int .i64 (l 2 2),.int .i64 (l 2 3),.int .i64 (l 2 4),.int .i64 (l 2 5),.int .i64 (l 3 0),.int .i64 (l 3 1),.int .i64 (l 3 2),.int .i64 (l 3 3),.int .i64 (l 3 4),.int .i64 (l 3 5)]).Ok m:=F0 ⟨trivial,trivial,trivial,trivial,trivial,trivial,trivial,trivial,trivial,trivial,trivial,trivial,trivial,trivial,trivial,trivial,trivial,trivial,trivial,trivial,trivial,trivial,trivial,trivial,trivial⟩
def dv8 (a : Nat → Int) : Prop:=∀ i,i < 9 → -9223372036854775808 ≤ a i ∧ a i ≤ 9223372036854775807
noncomputable def cg9 (m : Nat → Int) : M3:=⟨⟨((m 0 : Int) : Rat),((m 1 : Int) : Rat),((m 2 : Int) : Rat)⟩,⟨((m 3 : Int) : Rat),((m 4 : Int) : Rat),((m 5 : Int) : Rat)⟩,⟨((m 6 : Int) : Rat),((m 7 : Int) : Rat),((m 8 : Int) : Rat)⟩⟩
noncomputable def cj1 (c : Nat → Int) : C6:=⟨((c 0 : Int) : Rat),((c 1 : Int) : Rat),((c 2 : Int) : Rat),((c 3 : Int) : Rat),((c 4 : Int) : Rat),((c 5 : Int) : Rat)⟩
theorem R4 {z : Int} (h : -9223372036854775808 ≤ z ∧ z ≤ 9223372036854775807) : rl (z : Rat) 3:=⟨bc8 h,Nat.le_trans (K8 (k:=1) (show 1 < 1000000000 ^ 1 by decide)) (by decide)⟩
theorem db9 {m : Nat → Int} (h : dv8 m) : ml (cg9 m) 3:=⟨⟨R4 (h 0 (by decide)),R4 (h 1 (by decide)),R4 (h 2 (by decide))⟩,⟨R4 (h 3 (by decide)),R4 (h 4 (by decide)),R4 (h 5 (by decide))⟩,⟨R4 (h 6 (by decide)),R4 (h 7 (by decide)),R4 (h 8 (by decide))⟩⟩
theorem dd9 {c : Nat → Int} (h : Six c) : cl (cj1 c) 3:=⟨R4 (h 0 (by decide)),R4 (h 1 (by decide)),R4 (h 2 (by decide)),R4 (h 3 (by decide)),R4 (h 4 (by decide)),R4 (h 5 (by decide))⟩
theorem cd9 {S : Nat → Prop} {w : World} {m : Nat → Int} {M : M3} {a1 a2 a3 b1 b2 b3 c1 c2 c3 : Value} (e : M = cg9 m) (h : QMapC S w (cg9 m) a1 a2 a3 b1 b2 b3 c1 c2 c3) : bv6 S w (dv7 a1 a2 a3 b1 b2 b3 c1 c2 c3) M:=by rw [e]; exact ⟨_,_,_,_,_,_,_,_,_,rfl,h⟩
theorem cd8 {S : Nat → Prop} {w : World} {c : Nat → Int} {k : C6} {c1 c2 c3 c4 c5 c6 : Value} (e : k = cj1 c) (h : QConC S w (cj1 c) c1 c2 c3 c4 c5 c6) : cf7 S w (dv6 c1 c2 c3 c4 c5 c6) k:=by rw [e]; exact ⟨_,_,_,_,_,_,rfl,h⟩
theorem dp5 {m : M3} {p : T3} (h : ml m 3) (hp : tl p 3) : tl (m.apply p).normal 60:=az8 (bb8 (ax3 h hp)) (by decide)
theorem bt9 {w : World} {l : Nat → Nat → Int} {m c : Nat → Int} (ht : Tab w) (hl : ∀ i,i < 4 → Six (l i)) (hm : dv8 m) (hc : Six c) :
  Gives prog 3 [d00 l,dy9 m,dz2 c] w fun v' w'=>v' = .bool true ∧ Ext w w':=by
 have hS : Up All w:=Up.all
 obtain ⟨p0,E0⟩ : ∃ p,p = a23 (l 0):=⟨_,rfl⟩
 obtain ⟨p1,E1⟩ : ∃ p,p = a23 (l 1):=⟨_,rfl⟩
 obtain ⟨p2,E2⟩ : ∃ p,p = a23 (l 2):=⟨_,rfl⟩
 obtain ⟨p3,E3⟩ : ∃ p,p = a23 (l 3):=⟨_,rfl⟩
 obtain ⟨M,EM⟩ : ∃ M,M = cg9 m:=⟨_,rfl⟩
 obtain ⟨C,EC⟩ : ∃ k,k = cj1 c:=⟨_,rfl⟩
 have L0 : tl p0 3:=E0 ▸ ay8 (hl 0 (by decide))
 have L1 : tl p1 3:=E1 ▸ ay8 (hl 1 (by decide))
 have L2 : tl p2 3:=E2 ▸ ay8 (hl 2 (by decide))
 have L3 : tl p3 3:=E3 ▸ ay8 (hl 3 (by decide))
 have hlt1 : ∀ t ∈ [p0],tl t 3:=a09 L0
 have hlt2 : ∀ t ∈ [p0,p1],tl t 3:=bp4 L0 L1
 have hlt4 : ∀ t ∈ [p0,p1,p2,p3],tl t 3:=cw3 L0 L1 L2 L3
 have hMl : ml M 3:=EM ▸ db9 hm
 have hKl : cl C 3:=EC ▸ dd9 hc
 have N0 : tl p0.normal 9:=az8 (bb8 L0) (by decide)
 have NJ : tl (p0.cross p1).normal 39:=az8 (bb8 (y6 L0 L1)) (by decide)
 have NA:=dp5 hMl L0
 have mE : M9 M = if M.det = 0 then 60 else 0:=c85 hMl (by decide)
 refine n7 (E:=env) (S0:=All) (G:=Gh.nil) (l:=[.agg [.int .i64 (l 0 0),.int .i64 (l 0 1),.int .i64 (l 0 2),.int .i64 (l 0 3),.int .i64 (l 0 4),.int .i64 (l 0 5),.int .i64 (l 1 0),.int .i64 (l 1 1),.int .i64 (l 1 2),.int .i64 (l 1 3),.int .i64 (l 1 4),.int .i64 (l 1 5),.int .i64 (l 2 0),.int .i64 (l 2 1),.int .i64 (l 2 2),.int .i64 (l 2 3),.int .i64 (l 2 4),.int .i64 (l 2 5),.int .i64 (l 3 0),.int .i64 (l 3 1),.int .i64 (l 3 2),.int .i64 (l 3 3),.int .i64 (l 3 4),.int .i64 (l 3 5)],.agg [.int .i64 (m 0),.int .i64 (m 1),.int .i64 (m 2),.int .i64 (m 3),.int .i64 (m 4),.int .i64 (m 5),.int .i64 (m 6),.int .i64 (m 7),.int .i64 (m 8)],.agg [.int .i64 (c 0),.int .i64 (c 1),.int .i64 (c 2),.int .i64 (c 3),.int .i64 (c 4),.int .i64 (c 5)]]) func3 rfl rfl rfl ⟨da7,dj1,cx7,trivial⟩ rfl trivial ?_
 refine r4 ?_
 refine G3 (fun x0=>.one (.ag 12 x0)) (fun x0=>o6 x0 (p0)) (fun β S w hS hs hw hG=>(kx ((ay5 hS (hl 0 (by decide))).mono fun v' w' h=>⟨h.1,E0 ▸ h.2⟩))) ?_
 intro x0
 refine r4 ?_
 refine G3 (fun x0=>.one (.ag 12 x0)) (fun x0=>o6 x0 (p1)) (fun β S w hS hs hw hG=>(kx ((ay5 hS (hl 1 (by decide))).mono fun v' w' h=>⟨h.1,E1 ▸ h.2⟩))) ?_
 intro x1
 refine r4 ?_
 refine G3 (fun x0=>.one (.ag 12 x0)) (fun x0=>o6 x0 (p2)) (fun β S w hS hs hw hG=>(kx ((ay5 hS (hl 2 (by decide))).mono fun v' w' h=>⟨h.1,E2 ▸ h.2⟩))) ?_
 intro x2
 refine r4 ?_
 refine G3 (fun x0=>.one (.ag 12 x0)) (fun x0=>o6 x0 (p3)) (fun β S w hS hs hw hG=>(kx ((ay5 hS (hl 3 (by decide))).mono fun v' w' h=>⟨h.1,E3 ▸ h.2⟩))) ?_
 intro x3
 refine r4 ?_
 refine G3 (fun x0=>.one (.ag 9 x0)) (fun x0=>q7 x0 (p0)) (fun β S w hS hs hw hG=>(kx (D5 hS hG.2.2.2.1 L0 (by decide)))) ?_
 intro ya
 refine S4 (fun x0=>pr (.ag 9 (J8 x0)) (.int .i64 ((A6 p0)))) (fun x0=>O9 x0 ((if A6 p0 = 0 then T3.normal p0 else ⟨0,0,0⟩)) ((A6 p0))) (fun _ _ _ h=>ag4 h) (fun β S w hS hs hw hG=>(kx (cl3 (ht.to hw) hS hG.1 L0 (by decide) N0 (by decide)))) ?_
 intro yb
 refine K7 (.one (.int .i64 (A6 p0))) rfl (fun β S w hS hM hs hw hG=>have g3:=hG.2.2.1; have g2:=hG.2.2.2.1; have g1:=hG.2.2.2.2.1; have g0:=hG.2.2.2.2.2.1; (kx ((am4 (r5 hS) (al6 (F:=aq1) (l:=[p0]) 3 0 1 4 34 [x0,x1,x2,x3] hM (by kernel_rfl) (by intro x hx; simp only [List.mem_cons,List.not_mem_nil,or_false] at hx; rcases hx with rfl | rfl | rfl | rfl; exact g0.lies; exact g1.lies; exact g2.lies; exact g3.lies) (b65 g0) rfl (by decide) (by simp) (by decide)) (fun t h=>G6 (hlt1 t h) (by decide))).mono fun v' w' h=>⟨by rw [h.1,br8]; rfl,h.2⟩))) ?_
 refine a59 (ι:=Unit) [(47,69)] (fun x=>[(69,.one (.bb false))]) (fun _=>[]) (fun x=>((O9 yb ((if A6 p0 = 0 then T3.normal p0 else ⟨0,0,0⟩)) ((A6 p0))).and ((q7 ya (p0)).and ((o6 x3 (p3)).and ((o6 x2 (p2)).and ((o6 x1 (p1)).and ((o6 x0 (p0)).and (Gh.nil)))))))) (fun x=>True) ⟨d6,hS,j6⟩ (by kernel_rfl) (fun hso=>?_) (fun x hx=>?_)
 ·refine F6 (p:=¬ A6 p0 = A6 p0) 50 (fun h=>h rfl) ?_
  by_cases e : A6 p0 = 0
  ·refine F6 (p:=¬ A6 p0 = 0) 53 (fun h=>h e) ?_
   refine I3 (p:=A6 p0 = 0) 62 (e) ?_
   refine A3 (.one (.bb true)) rfl (fun β S w hS hs hw hG=>(kx (dk0 (ht.to hw) hS hG.1.2 hG.2.2.2.2.2.1 L0 (by decide) (bx6 e) (if_pos e)))) ?_
   exact J5 (()) hso (trivial) (fun S w hw hG=>⟨x9 rfl,fun p hp=>by cases hp⟩) (fun S w hw hG=>hG)
  refine I3 (p:=¬ A6 p0 = 0) 53 (e) ?_
  refine A3 (.one (.bb true)) rfl (fun β S w hS hs hw hG=>(kx (bo8 hS hG.1.2 (by rw [if_neg e]; exact ⟨rfl,rfl,rfl⟩)))) ?_
  refine F6 (p:=A6 p0 = 0) 62 (e) ?_
  exact J5 (()) hso (trivial) (fun S w hw hG=>⟨x9 rfl,fun p hp=>by cases hp⟩) (fun S w hw hG=>hG)
 refine K7 (.one (.int .i64 (M8 p0 p1))) rfl (fun β S w hS hM hs hw hG=>have g3:=hG.2.2.1; have g2:=hG.2.2.2.1; have g1:=hG.2.2.2.2.1; have g0:=hG.2.2.2.2.2.1; (kx ((am4 (r5 hS) (al6 (F:=aq1) (l:=[p0,p1]) 3 0 2 4 34 [x0,x1,x2,x3] hM (by kernel_rfl) (by intro x hx; simp only [List.mem_cons,List.not_mem_nil,or_false] at hx; rcases hx with rfl | rfl | rfl | rfl; exact g0.lies; exact g1.lies; exact g2.lies; exact g3.lies) (ElsV.take (cy6 g0 g1 g2 g3) 2) rfl (by decide) (by simp) (by decide)) (fun t h=>G6 (hlt2 t h) (by decide))).mono fun v' w' h=>⟨by rw [h.1,dp8]; rfl,h.2⟩))) ?_
 refine n9 12 ?_
 refine d7 2 ?_
 refine q6 (fun x0=>.one (.ag 9 x0)) (fun x0=>q7 x0 (p0)) (fun β η S w hS hs hw hG hd=>(kx (D5 hS hG.2.2.2.2.2.1 L0 (by decide)))) ?_
 refine d7 2 ?_
 refine q6 (fun x0=>.one (.ag 9 x0)) (fun x0=>q7 x0 (p1)) (fun β η S w hS hs hw hG hd=>(kx (D5 hS hG.2.2.2.2.1 L1 (by decide)))) ?_
 refine h_1 (fun x0=>pr (.ag 9 (J8 x0)) (.int .i64 ((M2 p0 p1)))) (fun x0=>O9 x0 ((ac4 p0 p1)) ((M2 p0 p1))) (fun η=>(by kernel_rfl)) (fun _ _ _ h=>ag4 h) (fun β η S w hS hs hw hG hd=>(kx (cf6 (ht.to hw) hS (p8 hd 2 : (q7 (η 2) (p0)).p S w) (p8 hd 5 : (q7 (η 5) (p1)).p S w) L0 L1 (by decide) NJ (by decide)))) ?_
 refine d7 5 ?_
 refine n5 [true,false,false] ((o6 x3 (p3)).and ((o6 x2 (p2)).and ((o6 x1 (p1)).and ((o6 x0 (p0)).and (Gh.nil))))) (by exact fun _ _ h=>⟨h.2.2.1,h.2.2.2.1,h.2.2.2.2.1,h.2.2.2.2.2.1,trivial⟩) (fun g η=>(O9 (η 6) ((ac4 p0 p1)) ((M2 p0 p1))).and g) (fun g η=>(by kernel_rfl)) ?_
 intro η_1
 refine n9 11 ?_
 refine d7 2 ?_
 refine q6 (fun x0=>.one (.ag 9 x0)) (fun x0=>q7 x0 (p0)) (fun β η S w hS hs hw hG hd=>(kx (D5 hS hG.2.2.2.2.1 L0 (by decide)))) ?_
 refine d7 2 ?_
 refine q6 (fun x0=>.one (.ag 9 x0)) (fun x0=>q7 x0 (p1)) (fun β η S w hS hs hw hG hd=>(kx (D5 hS hG.2.2.2.1 L1 (by decide)))) ?_
 refine h_K (pr (.tp (OnP p0 p1)) (.int .i64 (M8 p0 p1))) (fun η=>(by kernel_rfl)) (R2 rfl) rfl (fun β η S w hS hs hw hG hd=>(kx (dl5 (ht.to hw) hS (p8 hd 2 : (q7 (η 2) (p0)).p S w) (p8 hd 5 : (q7 (η 5) (p1)).p S w) L0 L1 (by decide)))) ?_
 refine d7 4 ?_
 refine n5 [false,false,false] ((O9 (η_1 6) ((ac4 p0 p1)) ((M2 p0 p1))).and ((o6 x3 (p3)).and ((o6 x2 (p2)).and ((o6 x1 (p1)).and ((o6 x0 (p0)).and (Gh.nil)))))) (by exact fun _ _ h=>⟨h.1,h.2.1,h.2.2.1,h.2.2.2.1,h.2.2.2.2.1,trivial⟩) (fun g η=>g) (fun g η=>(by kernel_rfl)) ?_
 intro η_2
 refine a59 (ι:=Unit) [(92,111)] (fun x=>[(111,.one (.bb false))]) (fun _=>[]) (fun x=>((O9 (η_1 6) ((ac4 p0 p1)) ((M2 p0 p1))).and ((o6 x3 (p3)).and ((o6 x2 (p2)).and ((o6 x1 (p1)).and ((o6 x0 (p0)).and (Gh.nil))))))) (fun x=>True) ⟨d6,hS,j6⟩ (by kernel_rfl) (fun hso=>?_) (fun x hx=>?_)
 ·by_cases e : M8 p0 p1 = 0
  ·refine F6 (p:=¬ M8 p0 p1 = 0) 94 (fun h=>h e) ?_
   exact J5 (()) hso (trivial) (fun S w hw hG=>⟨x9 rfl,fun p hp=>by cases hp⟩) (fun S w hw hG=>hG)
  have je : M2 p0 p1 = M8 p0 p1:=by unfold M2; rw [if_neg e]
  have jt : ac4 p0 p1 = ⟨0,0,0⟩:=by unfold ac4; rw [if_neg (by rw [je]; exact e)]
  refine I3 (p:=¬ M8 p0 p1 = 0) 94 (e) ?_
  refine F6 (p:=¬ M2 p0 p1 = M8 p0 p1) 98 (fun h=>h je) ?_
  refine F6 (p:=¬ M8 p0 p1 = M8 p0 p1) 103 (fun h=>h rfl) ?_
  refine A3 (.one (.bb true)) rfl (fun β S w hS hs hw hG=>(kx (bo8 hS hG.1.2 (by rw [jt]; exact ⟨rfl,rfl,rfl⟩)))) ?_
  refine F6 (p:=OnP p0 p1) 111 (fun h=>e h.1) ?_
  exact J5 (()) hso (trivial) (fun S w hw hG=>⟨x9 rfl,fun p hp=>by cases hp⟩) (fun S w hw hG=>hG)
 refine K7 (.one (.int .i64 (B4 [p0,p1,p2,p3]))) rfl (fun β S w hS hM hs hw hG=>have g3:=hG.2.1; have g2:=hG.2.2.1; have g1:=hG.2.2.2.1; have g0:=hG.2.2.2.2.1; (kx ((am4 (r5 hS) (al6 (F:=aq1) (l:=[p0,p1,p2,p3]) 3 0 4 4 34 [x0,x1,x2,x3] hM (by kernel_rfl) (by intro x hx; simp only [List.mem_cons,List.not_mem_nil,or_false] at hx; rcases hx with rfl | rfl | rfl | rfl; exact g0.lies; exact g1.lies; exact g2.lies; exact g3.lies) (cy6 g0 g1 g2 g3) rfl (by decide) (by simp) (by decide)) (fun t h=>G6 (hlt4 t h) (by decide))).mono fun v' w' h=>⟨by rw [h.1]; rfl,h.2⟩))) ?_
 refine n9 20 ?_
 refine d7 2 ?_
 refine q6 (fun x0=>.one (.ag 9 x0)) (fun x0=>q7 x0 (p0)) (fun β η S w hS hs hw hG hd=>(kx (D5 hS hG.2.2.2.2.1 L0 (by decide)))) ?_
 refine d7 2 ?_
 refine q6 (fun x0=>.one (.ag 9 x0)) (fun x0=>q7 x0 (p1)) (fun β η S w hS hs hw hG hd=>(kx (D5 hS hG.2.2.2.1 L1 (by decide)))) ?_
 refine d7 2 ?_
 refine q6 (fun x0=>.one (.ag 9 x0)) (fun x0=>q7 x0 (p2)) (fun β η S w hS hs hw hG hd=>(kx (D5 hS hG.2.2.1 L2 (by decide)))) ?_
 refine d7 2 ?_
 refine q6 (fun x0=>.one (.ag 9 x0)) (fun x0=>q7 x0 (p3)) (fun β η S w hS hs hw hG hd=>(kx (D5 hS hG.2.1 L3 (by decide)))) ?_
 refine h_1 (fun x0=>.tup [(true,[.ag 3 (K3 x0 0)]),(false,[.tp ((a15 p0 p1 p2 p3))]),(false,[.int .i64 ((ac0 p0 p1 p2 p3))])]) (fun x0=>dy4 x0 ((c48 p0 p1 p2 p3)) ((a15 p0 p1 p2 p3)) ((ac0 p0 p1 p2 p3))) (fun η=>(by kernel_rfl)) (fun _ _ _ h=>dc7 h) (fun β η S w hS hs hw hG hd=>(kx ((bj4 (ht.to hw) hS (p8 hd 2 : (q7 (η 2) (p0)).p S w) (p8 hd 5 : (q7 (η 5) (p1)).p S w) (p8 hd 8 : (q7 (η 8) (p2)).p S w) (p8 hd 11 : (q7 (η 11) (p3)).p S w) L0 L1 L2 L3 (by decide)).mono fun v' w' h=>⟨h.1,by obtain ⟨x,e,hx⟩:=h.2; subst e; exact ⟨rfl,hx⟩⟩))) ?_
 refine d7 7 ?_
 refine n5 [false,false,false,false,false] ((o6 x3 (p3)).and ((o6 x2 (p2)).and ((o6 x1 (p1)).and ((o6 x0 (p0)).and (Gh.nil))))) (by exact fun _ _ h=>⟨h.2.1,h.2.2.1,h.2.2.2.1,h.2.2.2.2.1,trivial⟩) (fun g η=>g) (fun g η=>(by kernel_rfl)) ?_
 intro η_3
 refine a59 (ι:=Unit) [(131,140)] (fun x=>[(140,.one (.bb false))]) (fun _=>[]) (fun x=>((o6 x3 (p3)).and ((o6 x2 (p2)).and ((o6 x1 (p1)).and ((o6 x0 (p0)).and (Gh.nil)))))) (fun x=>True) ⟨d6,hS,j6⟩ (by kernel_rfl) (fun hso=>?_) (fun x hx=>?_)
 ·by_cases e : B4 [p0,p1,p2,p3] = 0
  ·refine F6 (p:=¬ B4 [p0,p1,p2,p3] = 0) 133 (fun h=>h e) ?_
   exact J5 (()) hso (trivial) (fun S w hw hG=>⟨x9 rfl,fun p hp=>by cases hp⟩) (fun S w hw hG=>hG)
  have je : ac0 p0 p1 p2 p3 = B4 [p0,p1,p2,p3]:=by unfold ac0; rw [if_neg e]
  refine I3 (p:=¬ B4 [p0,p1,p2,p3] = 0) 133 (e) ?_
  refine F6 (p:=¬ ac0 p0 p1 p2 p3 = B4 [p0,p1,p2,p3]) 137 (fun h=>h je) ?_
  refine F6 (p:=a15 p0 p1 p2 p3) 140 (fun h=>e (by rw [← je]; exact h.1)) ?_
  exact J5 (()) hso (trivial) (fun S w hw hG=>⟨x9 rfl,fun p hp=>by cases hp⟩) (fun S w hw hG=>hG)
 refine r4 ?_
 refine n9 11 ?_
 refine d7 8 ?_
 refine q6 (fun x0=>.one (.ag 4 x0)) (fun x0=>qG x0 (((m 0 : Int) : Rat))) (fun β η S w hS hs hw hG hd=>(kx (N1 hS (hm 0 (by decide)).1 (hm 0 (by decide)).2))) ?_
 refine d7 2 ?_
 refine n5 [true] ((o6 x3 (p3)).and ((o6 x2 (p2)).and ((o6 x1 (p1)).and ((o6 x0 (p0)).and (Gh.nil))))) (by exact fun _ _ h=>⟨h.1,h.2.1,h.2.2.1,h.2.2.2.1,trivial⟩) (fun g η=>(qG (η 8) (((m 0 : Int) : Rat))).and g) (fun g η=>(by kernel_rfl)) ?_
 intro η_4
 refine r4 ?_
 refine n9 11 ?_
 refine d7 8 ?_
 refine q6 (fun x0=>.one (.ag 4 x0)) (fun x0=>qG x0 (((m 1 : Int) : Rat))) (fun β η S w hS hs hw hG hd=>(kx (N1 hS (hm 1 (by decide)).1 (hm 1 (by decide)).2))) ?_
 refine d7 2 ?_
 refine n5 [true] ((qG (η_4 8) (((m 0 : Int) : Rat))).and ((o6 x3 (p3)).and ((o6 x2 (p2)).and ((o6 x1 (p1)).and ((o6 x0 (p0)).and (Gh.nil)))))) (by exact fun _ _ h=>⟨h.1,h.2.1,h.2.2.1,h.2.2.2.1,h.2.2.2.2.1,trivial⟩) (fun g η=>(qG (η 8) (((m 1 : Int) : Rat))).and g) (fun g η=>(by kernel_rfl)) ?_
 intro η_5
 refine r4 ?_
 refine n9 11 ?_
 refine d7 8 ?_
 refine q6 (fun x0=>.one (.ag 4 x0)) (fun x0=>qG x0 (((m 2 : Int) : Rat))) (fun β η S w hS hs hw hG hd=>(kx (N1 hS (hm 2 (by decide)).1 (hm 2 (by decide)).2))) ?_
 refine d7 2 ?_
 refine n5 [true] ((qG (η_5 8) (((m 1 : Int) : Rat))).and ((qG (η_4 8) (((m 0 : Int) : Rat))).and ((o6 x3 (p3)).and ((o6 x2 (p2)).and ((o6 x1 (p1)).and ((o6 x0 (p0)).and (Gh.nil))))))) (by exact fun _ _ h=>⟨h.1,h.2.1,h.2.2.1,h.2.2.2.1,h.2.2.2.2.1,h.2.2.2.2.2.1,trivial⟩) (fun g η=>(qG (η 8) (((m 2 : Int) : Rat))).and g) (fun g η=>(by kernel_rfl)) ?_
 intro η_6
 refine r4 ?_
 refine n9 11 ?_
 refine d7 8 ?_
 refine q6 (fun x0=>.one (.ag 4 x0)) (fun x0=>qG x0 (((m 3 : Int) : Rat))) (fun β η S w hS hs hw hG hd=>(kx (N1 hS (hm 3 (by decide)).1 (hm 3 (by decide)).2))) ?_
 refine d7 2 ?_
 refine n5 [true] ((qG (η_6 8) (((m 2 : Int) : Rat))).and ((qG (η_5 8) (((m 1 : Int) : Rat))).and ((qG (η_4 8) (((m 0 : Int) : Rat))).and ((o6 x3 (p3)).and ((o6 x2 (p2)).and ((o6 x1 (p1)).and ((o6 x0 (p0)).and (Gh.nil)))))))) (by exact fun _ _ h=>⟨h.1,h.2.1,h.2.2.1,h.2.2.2.1,h.2.2.2.2.1,h.2.2.2.2.2.1,h.2.2.2.2.2.2.1,trivial⟩) (fun g η=>(qG (η 8) (((m 3 : Int) : Rat))).and g) (fun g η=>(by kernel_rfl)) ?_
 intro η_7
 refine r4 ?_
 refine n9 11 ?_
 refine d7 8 ?_
 refine q6 (fun x0=>.one (.ag 4 x0)) (fun x0=>qG x0 (((m 4 : Int) : Rat))) (fun β η S w hS hs hw hG hd=>(kx (N1 hS (hm 4 (by decide)).1 (hm 4 (by decide)).2))) ?_
 refine d7 2 ?_
 refine n5 [true] ((qG (η_7 8) (((m 3 : Int) : Rat))).and ((qG (η_6 8) (((m 2 : Int) : Rat))).and ((qG (η_5 8) (((m 1 : Int) : Rat))).and ((qG (η_4 8) (((m 0 : Int) : Rat))).and ((o6 x3 (p3)).and ((o6 x2 (p2)).and ((o6 x1 (p1)).and ((o6 x0 (p0)).and (Gh.nil))))))))) (by exact fun _ _ h=>⟨h.1,h.2.1,h.2.2.1,h.2.2.2.1,h.2.2.2.2.1,h.2.2.2.2.2.1,h.2.2.2.2.2.2.1,h.2.2.2.2.2.2.2.1,trivial⟩) (fun g η=>(qG (η 8) (((m 4 : Int) : Rat))).and g) (fun g η=>(by kernel_rfl)) ?_
 intro η_8
 refine r4 ?_
 refine n9 11 ?_
 refine d7 8 ?_
 refine q6 (fun x0=>.one (.ag 4 x0)) (fun x0=>qG x0 (((m 5 : Int) : Rat))) (fun β η S w hS hs hw hG hd=>(kx (N1 hS (hm 5 (by decide)).1 (hm 5 (by decide)).2))) ?_
 refine d7 2 ?_
 refine n5 [true] ((qG (η_8 8) (((m 4 : Int) : Rat))).and ((qG (η_7 8) (((m 3 : Int) : Rat))).and ((qG (η_6 8) (((m 2 : Int) : Rat))).and ((qG (η_5 8) (((m 1 : Int) : Rat))).and ((qG (η_4 8) (((m 0 : Int) : Rat))).and ((o6 x3 (p3)).and ((o6 x2 (p2)).and ((o6 x1 (p1)).and ((o6 x0 (p0)).and (Gh.nil)))))))))) (by exact fun _ _ h=>⟨h.1,h.2.1,h.2.2.1,h.2.2.2.1,h.2.2.2.2.1,h.2.2.2.2.2.1,h.2.2.2.2.2.2.1,h.2.2.2.2.2.2.2.1,h.2.2.2.2.2.2.2.2.1,trivial⟩) (fun g η=>(qG (η 8) (((m 5 : Int) : Rat))).and g) (fun g η=>(by kernel_rfl)) ?_
 intro η_9
 refine r4 ?_
 refine n9 11 ?_
 refine d7 8 ?_
 refine q6 (fun x0=>.one (.ag 4 x0)) (fun x0=>qG x0 (((m 6 : Int) : Rat))) (fun β η S w hS hs hw hG hd=>(kx (N1 hS (hm 6 (by decide)).1 (hm 6 (by decide)).2))) ?_
 refine d7 2 ?_
 refine n5 [true] ((qG (η_9 8) (((m 5 : Int) : Rat))).and ((qG (η_8 8) (((m 4 : Int) : Rat))).and ((qG (η_7 8) (((m 3 : Int) : Rat))).and ((qG (η_6 8) (((m 2 : Int) : Rat))).and ((qG (η_5 8) (((m 1 : Int) : Rat))).and ((qG (η_4 8) (((m 0 : Int) : Rat))).and ((o6 x3 (p3)).and ((o6 x2 (p2)).and ((o6 x1 (p1)).and ((o6 x0 (p0)).and (Gh.nil))))))))))) (by exact fun _ _ h=>⟨h.1,h.2.1,h.2.2.1,h.2.2.2.1,h.2.2.2.2.1,h.2.2.2.2.2.1,h.2.2.2.2.2.2.1,h.2.2.2.2.2.2.2.1,h.2.2.2.2.2.2.2.2.1,h.2.2.2.2.2.2.2.2.2.1,trivial⟩) (fun g η=>(qG (η 8) (((m 6 : Int) : Rat))).and g) (fun g η=>(by kernel_rfl)) ?_
 intro η_10
 refine r4 ?_
 refine n9 11 ?_
 refine d7 8 ?_
 refine q6 (fun x0=>.one (.ag 4 x0)) (fun x0=>qG x0 (((m 7 : Int) : Rat))) (fun β η S w hS hs hw hG hd=>(kx (N1 hS (hm 7 (by decide)).1 (hm 7 (by decide)).2))) ?_
 refine d7 2 ?_
 refine n5 [true] ((qG (η_10 8) (((m 6 : Int) : Rat))).and ((qG (η_9 8) (((m 5 : Int) : Rat))).and ((qG (η_8 8) (((m 4 : Int) : Rat))).and ((qG (η_7 8) (((m 3 : Int) : Rat))).and ((qG (η_6 8) (((m 2 : Int) : Rat))).and ((qG (η_5 8) (((m 1 : Int) : Rat))).and ((qG (η_4 8) (((m 0 : Int) : Rat))).and ((o6 x3 (p3)).and ((o6 x2 (p2)).and ((o6 x1 (p1)).and ((o6 x0 (p0)).and (Gh.nil)))))))))))) (by exact fun _ _ h=>⟨h.1,h.2.1,h.2.2.1,h.2.2.2.1,h.2.2.2.2.1,h.2.2.2.2.2.1,h.2.2.2.2.2.2.1,h.2.2.2.2.2.2.2.1,h.2.2.2.2.2.2.2.2.1,h.2.2.2.2.2.2.2.2.2.1,h.2.2.2.2.2.2.2.2.2.2.1,trivial⟩) (fun g η=>(qG (η 8) (((m 7 : Int) : Rat))).and g) (fun g η=>(by kernel_rfl)) ?_
 intro η_11
 refine r4 ?_
 refine n9 11 ?_
 refine d7 8 ?_
 refine q6 (fun x0=>.one (.ag 4 x0)) (fun x0=>qG x0 (((m 8 : Int) : Rat))) (fun β η S w hS hs hw hG hd=>(kx (N1 hS (hm 8 (by decide)).1 (hm 8 (by decide)).2))) ?_
 refine d7 2 ?_
 refine n5 [true] ((qG (η_11 8) (((m 7 : Int) : Rat))).and ((qG (η_10 8) (((m 6 : Int) : Rat))).and ((qG (η_9 8) (((m 5 : Int) : Rat))).and ((qG (η_8 8) (((m 4 : Int) : Rat))).and ((qG (η_7 8) (((m 3 : Int) : Rat))).and ((qG (η_6 8) (((m 2 : Int) : Rat))).and ((qG (η_5 8) (((m 1 : Int) : Rat))).and ((qG (η_4 8) (((m 0 : Int) : Rat))).and ((o6 x3 (p3)).and ((o6 x2 (p2)).and ((o6 x1 (p1)).and ((o6 x0 (p0)).and (Gh.nil))))))))))))) (by exact fun _ _ h=>⟨h.1,h.2.1,h.2.2.1,h.2.2.2.1,h.2.2.2.2.1,h.2.2.2.2.2.1,h.2.2.2.2.2.2.1,h.2.2.2.2.2.2.2.1,h.2.2.2.2.2.2.2.2.1,h.2.2.2.2.2.2.2.2.2.1,h.2.2.2.2.2.2.2.2.2.2.1,h.2.2.2.2.2.2.2.2.2.2.2.1,trivial⟩) (fun g η=>(qG (η 8) (((m 8 : Int) : Rat))).and g) (fun g η=>(by kernel_rfl)) ?_
 intro η_12
 refine r4 ?_
 refine A3 (.one (.int .i64 (M9 M))) rfl (fun β S w hS hs hw hG=>(kx ((b11 hS (cd9 EM ⟨hG.2.2.2.2.2.2.2.2.1,hG.2.2.2.2.2.2.2.1,hG.2.2.2.2.2.2.1,hG.2.2.2.2.2.1,hG.2.2.2.2.1,hG.2.2.2.1,hG.2.2.1,hG.2.1,hG.1⟩) hMl (by decide)).mono fun v' w' h=>⟨by rw [h.1,mE]; rfl,h.2⟩))) ?_
 refine G3 (fun x0=>.one (.ag 27 x0)) (fun x0=>ag5 x0 (M)) (fun β S w hS hs hw hG=>(kx (bm7 hS (cd9 EM ⟨hG.2.2.2.2.2.2.2.2.1,hG.2.2.2.2.2.2.2.1,hG.2.2.2.2.2.2.1,hG.2.2.2.2.2.1,hG.2.2.2.2.1,hG.2.2.2.1,hG.2.2.1,hG.2.1,hG.1⟩) hMl (by decide)))) ?_
 intro y10
 refine A3 (.one (.int .i64 (M9 M))) rfl (fun β S w hS hs hw hG=>(kx (bx1 (ht.to hw) hS hG.1 hMl (by decide)))) ?_
 refine Z8 (p:=¬ M9 M = M9 M) (fun h=>h rfl) ?_
 refine a59 (ι:=Unit) [(11,11),(167,170)] (fun x=>[(11,.one (.int .i64 (J7 M p0)))]) (fun _=>[]) (fun x=>((ag5 y10 (M)).and ((qG (η_12 8) (((m 8 : Int) : Rat))).and ((qG (η_11 8) (((m 7 : Int) : Rat))).and ((qG (η_10 8) (((m 6 : Int) : Rat))).and ((qG (η_9 8) (((m 5 : Int) : Rat))).and ((qG (η_8 8) (((m 4 : Int) : Rat))).and ((qG (η_7 8) (((m 3 : Int) : Rat))).and ((qG (η_6 8) (((m 2 : Int) : Rat))).and ((qG (η_5 8) (((m 1 : Int) : Rat))).and ((qG (η_4 8) (((m 0 : Int) : Rat))).and ((o6 x3 (p3)).and ((o6 x2 (p2)).and ((o6 x1 (p1)).and ((o6 x0 (p0)).and (Gh.nil)))))))))))))))) (fun x=>True) ⟨d6,hS,j6⟩ (by kernel_rfl) (fun hso=>?_) (fun x hx=>?_)
 ·refine W0 (p:=M9 M = 0) (fun e=>?_) (fun e=>?_)
  ·have e2 : J7 M p0 = A6 p0:=by unfold J7; rw [if_pos e]
   refine K7 (.one (.int .i64 (J7 M p0))) rfl (fun β S w hS hM hs hw hG=>have g3:=hG.2.2.2.2.2.2.2.2.2.2.1; have g2:=hG.2.2.2.2.2.2.2.2.2.2.2.1; have g1:=hG.2.2.2.2.2.2.2.2.2.2.2.2.1; have g0:=hG.2.2.2.2.2.2.2.2.2.2.2.2.2.1; (kx ((am4 (r5 hS) (al6 (F:=aq1) (l:=[p0]) 3 0 1 4 34 [x0,x1,x2,x3] hM (by kernel_rfl) (by intro x hx; simp only [List.mem_cons,List.not_mem_nil,or_false] at hx; rcases hx with rfl | rfl | rfl | rfl; exact g0.lies; exact g1.lies; exact g2.lies; exact g3.lies) (b65 g0) rfl (by decide) (by simp) (by decide)) (fun t h=>G6 (hlt1 t h) (by decide))).mono fun v' w' h=>⟨by rw [h.1,br8,e2]; rfl,h.2⟩))) ?_
   exact J5 (()) hso (trivial) (fun S w hw hG=>⟨x9 rfl,fun p hp=>by cases hp⟩) (fun S w hw hG=>hG)
  have e2 : J7 M p0 = M9 M:=by unfold J7; rw [if_neg e]
  refine o5 (cw6 11 (M9 M) (J7 M p0) (by kernel_rfl) (e2.symm) ?_)
  exact J5 (()) hso (trivial) (fun S w hw hG=>⟨x9 rfl,fun p hp=>by cases hp⟩) (fun S w hw hG=>hG)
 refine n9 11 ?_
 refine d7 1 ?_
 refine q6 (fun x0=>.one (.ag 27 x0)) (fun x0=>ag5 x0 (M)) (fun β η S w hS hs hw hG hd=>(kx (bm7 hS (cd9 EM ⟨hG.2.2.2.2.2.2.2.2.2.1,hG.2.2.2.2.2.2.2.2.1,hG.2.2.2.2.2.2.2.1,hG.2.2.2.2.2.2.1,hG.2.2.2.2.2.1,hG.2.2.2.2.1,hG.2.2.2.1,hG.2.2.1,hG.2.1⟩) hMl (by decide)))) ?_
 refine d7 2 ?_
 refine q6 (fun x0=>.one (.ag 9 x0)) (fun x0=>q7 x0 (p0)) (fun β η S w hS hs hw hG hd=>(kx (D5 hS hG.2.2.2.2.2.2.2.2.2.2.2.2.2.1 L0 (by decide)))) ?_
 refine h_1 (fun x0=>pr (.ag 9 (J8 x0)) (.int .i64 ((J7 M p0)))) (fun x0=>O9 x0 ((if J7 M p0 = 0 then (M.apply p0).normal else ⟨0,0,0⟩)) ((J7 M p0))) (fun η=>(by kernel_rfl)) (fun _ _ _ h=>ag4 h) (fun β η S w hS hs hw hG hd=>(kx (c83 (ht.to hw) hS (p8 hd 1 : (ag5 (η 1) (M)).p S w) (p8 hd 4 : (q7 (η 4) (p0)).p S w) hMl (by decide) L0 (by decide) NA (by decide)))) ?_
 refine d7 5 ?_
 refine n5 [true,false,false] ((qG (η_12 8) (((m 8 : Int) : Rat))).and ((qG (η_11 8) (((m 7 : Int) : Rat))).and ((qG (η_10 8) (((m 6 : Int) : Rat))).and ((qG (η_9 8) (((m 5 : Int) : Rat))).and ((qG (η_8 8) (((m 4 : Int) : Rat))).and ((qG (η_7 8) (((m 3 : Int) : Rat))).and ((qG (η_6 8) (((m 2 : Int) : Rat))).and ((qG (η_5 8) (((m 1 : Int) : Rat))).and ((qG (η_4 8) (((m 0 : Int) : Rat))).and ((o6 x3 (p3)).and ((o6 x2 (p2)).and ((o6 x1 (p1)).and ((o6 x0 (p0)).and (Gh.nil)))))))))))))) (by exact fun _ _ h=>⟨h.2.1,h.2.2.1,h.2.2.2.1,h.2.2.2.2.1,h.2.2.2.2.2.1,h.2.2.2.2.2.2.1,h.2.2.2.2.2.2.2.1,h.2.2.2.2.2.2.2.2.1,h.2.2.2.2.2.2.2.2.2.1,h.2.2.2.2.2.2.2.2.2.2.1,h.2.2.2.2.2.2.2.2.2.2.2.1,h.2.2.2.2.2.2.2.2.2.2.2.2.1,h.2.2.2.2.2.2.2.2.2.2.2.2.2.1,trivial⟩) (fun g η=>(O9 (η 5) ((if J7 M p0 = 0 then (M.apply p0).normal else ⟨0,0,0⟩)) ((J7 M p0))).and g) (fun g η=>(by kernel_rfl)) ?_
 intro η_13
 refine a59 (ι:=Unit) [(180,204)] (fun x=>[(204,.one (.bb false))]) (fun _=>[]) (fun x=>((O9 (η_13 5) ((if J7 M p0 = 0 then (M.apply p0).normal else ⟨0,0,0⟩)) ((J7 M p0))).and ((qG (η_12 8) (((m 8 : Int) : Rat))).and ((qG (η_11 8) (((m 7 : Int) : Rat))).and ((qG (η_10 8) (((m 6 : Int) : Rat))).and ((qG (η_9 8) (((m 5 : Int) : Rat))).and ((qG (η_8 8) (((m 4 : Int) : Rat))).and ((qG (η_7 8) (((m 3 : Int) : Rat))).and ((qG (η_6 8) (((m 2 : Int) : Rat))).and ((qG (η_5 8) (((m 1 : Int) : Rat))).and ((qG (η_4 8) (((m 0 : Int) : Rat))).and ((o6 x3 (p3)).and ((o6 x2 (p2)).and ((o6 x1 (p1)).and ((o6 x0 (p0)).and (Gh.nil)))))))))))))))) (fun x=>True) ⟨d6,hS,j6⟩ (by kernel_rfl) (fun hso=>?_) (fun x hx=>?_)
 ·by_cases e : J7 M p0 = 0
  ·have ed:=e
   refine n9 22 ?_
   refine d7 3 ?_
   refine Z9 (p:=¬ J7 M p0 = J7 M p0) false ⟨fun h=>absurd h (fun h=>h rfl),fun h=>by cases h⟩ ?_
   refine d7 2 ?_
   refine Z9 (p:=¬ J7 M p0 = 0) false ⟨fun h=>absurd h (fun h=>h e),fun h=>by cases h⟩ ?_
   refine d7 8 ?_
   refine Z9 (p:=J7 M p0 = 0) true ⟨fun _=>rfl,fun _=>e⟩ ?_
   refine d7 4 ?_
   refine q6 (fun x0=>.one (.ag 12 x0)) (fun x0=>o6 x0 ((M.apply p0))) (fun β η S w hS hs hw hG hd=>(kx (cx2 hS (cd9 EM ⟨hG.2.2.2.2.2.2.2.2.2.1,hG.2.2.2.2.2.2.2.2.1,hG.2.2.2.2.2.2.2.1,hG.2.2.2.2.2.2.1,hG.2.2.2.2.2.1,hG.2.2.2.2.1,hG.2.2.2.1,hG.2.2.1,hG.2.1⟩) hG.2.2.2.2.2.2.2.2.2.2.2.2.2.1 hMl L0 (by decide)))) ?_
   refine h_K (.one (.bb true)) (fun η=>(by kernel_rfl)) (R2 rfl) rfl (fun β η S w hS hs hw hG hd=>(kx (dk0 (ht.to hw) hS hG.1.2 (p8 hd 20 : (o6 (η 20) ((M.apply p0))).p S w) (ax3 hMl L0) (by decide) (bd7 (bq3 (a80 e).1).2 (a80 e).2) (if_pos e)))) ?_
   refine bo5 (fun η=>((Gh.nil).and ((o6 (η 20) ((M.apply p0))).and ((O9 (η_13 5) ((if J7 M p0 = 0 then (M.apply p0).normal else ⟨0,0,0⟩)) ((J7 M p0))).and ((qG (η_12 8) (((m 8 : Int) : Rat))).and ((qG (η_11 8) (((m 7 : Int) : Rat))).and ((qG (η_10 8) (((m 6 : Int) : Rat))).and ((qG (η_9 8) (((m 5 : Int) : Rat))).and ((qG (η_8 8) (((m 4 : Int) : Rat))).and ((qG (η_7 8) (((m 3 : Int) : Rat))).and ((qG (η_6 8) (((m 2 : Int) : Rat))).and ((qG (η_5 8) (((m 1 : Int) : Rat))).and ((qG (η_4 8) (((m 0 : Int) : Rat))).and ((o6 x3 (p3)).and ((o6 x2 (p2)).and ((o6 x1 (p1)).and ((o6 x0 (p0)).and (Gh.nil)))))))))))))))))) (by kernel_rfl) (fun η=>(by kernel_rfl)) ?_
   intro η_14
   exact J5 (()) hso (trivial) (fun S w hw hG=>⟨x9 rfl,fun p hp=>by cases hp⟩) (fun S w hw hG=>hG.2.2)
  have ed:=e
  refine n9 22 ?_
  refine d7 3 ?_
  refine Z9 (p:=¬ J7 M p0 = J7 M p0) false ⟨fun h=>absurd h (fun h=>h rfl),fun h=>by cases h⟩ ?_
  refine d7 2 ?_
  refine Z9 (p:=¬ J7 M p0 = 0) true ⟨fun _=>rfl,fun _=>e⟩ ?_
  refine d7 1 ?_
  refine h_K (.one (.bb true)) (fun η=>(by kernel_rfl)) (R2 rfl) rfl (fun β η S w hS hs hw hG hd=>(kx (bo8 hS hG.1.2 (by rw [if_neg e]; exact ⟨rfl,rfl,rfl⟩)))) ?_
  refine d7 6 ?_
  refine Z9 (p:=J7 M p0 = 0) false ⟨fun h=>absurd h (e),fun h=>by cases h⟩ ?_
  refine d7 6 ?_
  refine bo5 (fun η=>((Gh.nil).and ((O9 (η_13 5) ((if J7 M p0 = 0 then (M.apply p0).normal else ⟨0,0,0⟩)) ((J7 M p0))).and ((qG (η_12 8) (((m 8 : Int) : Rat))).and ((qG (η_11 8) (((m 7 : Int) : Rat))).and ((qG (η_10 8) (((m 6 : Int) : Rat))).and ((qG (η_9 8) (((m 5 : Int) : Rat))).and ((qG (η_8 8) (((m 4 : Int) : Rat))).and ((qG (η_7 8) (((m 3 : Int) : Rat))).and ((qG (η_6 8) (((m 2 : Int) : Rat))).and ((qG (η_5 8) (((m 1 : Int) : Rat))).and ((qG (η_4 8) (((m 0 : Int) : Rat))).and ((o6 x3 (p3)).and ((o6 x2 (p2)).and ((o6 x1 (p1)).and ((o6 x0 (p0)).and (Gh.nil))))))))))))))))) (by kernel_rfl) (fun η=>(by kernel_rfl)) ?_
  intro η_14
  exact J5 (()) hso (trivial) (fun S w hw hG=>⟨x9 rfl,fun p hp=>by cases hp⟩) (fun S w hw hG=>hG.2)
 refine r4 ?_
 refine G3 (fun x0=>.one (.ag 4 x0)) (fun x0=>qG x0 (((c 0 : Int) : Rat))) (fun β S w hS hs hw hG=>(kx (N1 hS (hc 0 (by decide)).1 (hc 0 (by decide)).2))) ?_
 intro z0
 refine r4 ?_
 refine G3 (fun x0=>.one (.ag 4 x0)) (fun x0=>qG x0 (((c 1 : Int) : Rat))) (fun β S w hS hs hw hG=>(kx (N1 hS (hc 1 (by decide)).1 (hc 1 (by decide)).2))) ?_
 intro z1
 refine r4 ?_
 refine G3 (fun x0=>.one (.ag 4 x0)) (fun x0=>qG x0 (((c 2 : Int) : Rat))) (fun β S w hS hs hw hG=>(kx (N1 hS (hc 2 (by decide)).1 (hc 2 (by decide)).2))) ?_
 intro z2
 refine r4 ?_
 refine G3 (fun x0=>.one (.ag 4 x0)) (fun x0=>qG x0 (((c 3 : Int) : Rat))) (fun β S w hS hs hw hG=>(kx (N1 hS (hc 3 (by decide)).1 (hc 3 (by decide)).2))) ?_
 intro z3
 refine r4 ?_
 refine G3 (fun x0=>.one (.ag 4 x0)) (fun x0=>qG x0 (((c 4 : Int) : Rat))) (fun β S w hS hs hw hG=>(kx (N1 hS (hc 4 (by decide)).1 (hc 4 (by decide)).2))) ?_
 intro z4
 refine r4 ?_
 refine G3 (fun x0=>.one (.ag 4 x0)) (fun x0=>qG x0 (((c 5 : Int) : Rat))) (fun β S w hS hs hw hG=>(kx (N1 hS (hc 5 (by decide)).1 (hc 5 (by decide)).2))) ?_
 intro z5
 refine r4 ?_
 refine A3 (.one (.int .i64 (W5 C))) rfl (fun β S w hS hs hw hG=>(kx (bi2 hS (cd8 EC ⟨hG.2.2.2.2.2.1,hG.2.2.2.2.1,hG.2.2.2.1,hG.2.2.1,hG.2.1,hG.1⟩) hKl (by decide)))) ?_
 refine G3 (fun x0=>.one (.ag 18 x0)) (fun x0=>aj9 x0 (C)) (fun β S w hS hs hw hG=>(kx (b33 hS (cd8 EC ⟨hG.2.2.2.2.2.1,hG.2.2.2.2.1,hG.2.2.2.1,hG.2.2.1,hG.2.1,hG.1⟩) hKl (by decide)))) ?_
 intro y15
 refine A3 (.one (.int .i64 (W5 C))) rfl (fun β S w hS hs hw hG=>(kx (bj2 (ht.to hw) hS hG.1 hKl (by decide)))) ?_
 refine Z8 (p:=¬ W5 C = W5 C) (fun h=>h rfl) ?_
 refine a59 (ι:=Unit) [(11,11),(222,225)] (fun x=>[(11,.one (.int .i64 (cpE C p0)))]) (fun _=>[]) (fun x=>((aj9 y15 (C)).and ((qG z5 (((c 5 : Int) : Rat))).and ((qG z4 (((c 4 : Int) : Rat))).and ((qG z3 (((c 3 : Int) : Rat))).and ((qG z2 (((c 2 : Int) : Rat))).and ((qG z1 (((c 1 : Int) : Rat))).and ((qG z0 (((c 0 : Int) : Rat))).and ((O9 (η_13 5) ((if J7 M p0 = 0 then (M.apply p0).normal else ⟨0,0,0⟩)) ((J7 M p0))).and ((qG (η_12 8) (((m 8 : Int) : Rat))).and ((qG (η_11 8) (((m 7 : Int) : Rat))).and ((qG (η_10 8) (((m 6 : Int) : Rat))).and ((qG (η_9 8) (((m 5 : Int) : Rat))).and ((qG (η_8 8) (((m 4 : Int) : Rat))).and ((qG (η_7 8) (((m 3 : Int) : Rat))).and ((qG (η_6 8) (((m 2 : Int) : Rat))).and ((qG (η_5 8) (((m 1 : Int) : Rat))).and ((qG (η_4 8) (((m 0 : Int) : Rat))).and ((o6 x3 (p3)).and ((o6 x2 (p2)).and ((o6 x1 (p1)).and ((o6 x0 (p0)).and (Gh.nil))))))))))))))))))))))) (fun x=>True) ⟨d6,hS,j6⟩ (by kernel_rfl) (fun hso=>?_) (fun x hx=>?_)
 ·refine W0 (p:=W5 C = 0) (fun e=>?_) (fun e=>?_)
  ·have e2 : cpE C p0 = A6 p0:=by unfold cpE; rw [if_pos e]
   refine K7 (.one (.int .i64 (cpE C p0))) rfl (fun β S w hS hM hs hw hG=>have g3:=hG.2.2.2.2.2.2.2.2.2.2.2.2.2.2.2.2.2.1; have g2:=hG.2.2.2.2.2.2.2.2.2.2.2.2.2.2.2.2.2.2.1; have g1:=hG.2.2.2.2.2.2.2.2.2.2.2.2.2.2.2.2.2.2.2.1; have g0:=hG.2.2.2.2.2.2.2.2.2.2.2.2.2.2.2.2.2.2.2.2.1; (kx ((am4 (r5 hS) (al6 (F:=aq1) (l:=[p0]) 3 0 1 4 34 [x0,x1,x2,x3] hM (by kernel_rfl) (by intro x hx; simp only [List.mem_cons,List.not_mem_nil,or_false] at hx; rcases hx with rfl | rfl | rfl | rfl; exact g0.lies; exact g1.lies; exact g2.lies; exact g3.lies) (b65 g0) rfl (by decide) (by simp) (by decide)) (fun t h=>G6 (hlt1 t h) (by decide))).mono fun v' w' h=>⟨by rw [h.1,br8,e2]; rfl,h.2⟩))) ?_
   exact J5 (()) hso (trivial) (fun S w hw hG=>⟨x9 rfl,fun p hp=>by cases hp⟩) (fun S w hw hG=>hG)
  have e2 : cpE C p0 = W5 C:=by unfold cpE; rw [if_neg e]
  refine o5 (cw6 11 (W5 C) (cpE C p0) (by kernel_rfl) (e2.symm) ?_)
  exact J5 (()) hso (trivial) (fun S w hw hG=>⟨x9 rfl,fun p hp=>by cases hp⟩) (fun S w hw hG=>hG)
 refine n9 10 ?_
 refine d7 1 ?_
 refine q6 (fun x0=>.one (.ag 18 x0)) (fun x0=>aj9 x0 (C)) (fun β η S w hS hs hw hG hd=>(kx (b33 hS (cd8 EC ⟨hG.2.2.2.2.2.2.1,hG.2.2.2.2.2.1,hG.2.2.2.2.1,hG.2.2.2.1,hG.2.2.1,hG.2.1⟩) hKl (by decide)))) ?_
 refine d7 2 ?_
 refine q6 (fun x0=>.one (.ag 9 x0)) (fun x0=>q7 x0 (p0)) (fun β η S w hS hs hw hG hd=>(kx (D5 hS hG.2.2.2.2.2.2.2.2.2.2.2.2.2.2.2.2.2.2.2.2.1 L0 (by decide)))) ?_
 refine h_K (pr (.tp (cpE C p0 = 0 ∧ C.val p0 = 0)) (.int .i64 (cpE C p0))) (fun η=>(by kernel_rfl)) (R2 rfl) rfl (fun β η S w hS hs hw hG hd=>(kx (b56 (ht.to hw) hS (p8 hd 1 : (aj9 (η 1) (C)).p S w) (p8 hd 4 : (q7 (η 4) (p0)).p S w) hKl L0 (by decide)))) ?_
 refine d7 4 ?_
 refine n5 [false,false,false] ((qG z5 (((c 5 : Int) : Rat))).and ((qG z4 (((c 4 : Int) : Rat))).and ((qG z3 (((c 3 : Int) : Rat))).and ((qG z2 (((c 2 : Int) : Rat))).and ((qG z1 (((c 1 : Int) : Rat))).and ((qG z0 (((c 0 : Int) : Rat))).and ((o6 x0 (p0)).and (Gh.nil)))))))) (by exact fun _ _ h=>⟨h.2.1,h.2.2.1,h.2.2.2.1,h.2.2.2.2.1,h.2.2.2.2.2.1,h.2.2.2.2.2.2.1,h.2.2.2.2.2.2.2.2.2.2.2.2.2.2.2.2.2.2.2.2.1,trivial⟩) (fun g η=>g) (fun g η=>(by kernel_rfl)) ?_
 intro η_14
 refine I3 (p:=cpE C p0 = cpE C p0) 238 (rfl) ?_
 by_cases e : cpE C p0 = 0
 ·refine I3 (p:=cpE C p0 = 0) 242 (e) ?_
  refine A3 (.one (.tp (C.poly p0 = 0))) rfl (fun β S w hS hs hw hG=>(kx (cc7 hS (cd8 EC ⟨hG.2.2.2.2.2.1,hG.2.2.2.2.1,hG.2.2.2.1,hG.2.2.1,hG.2.1,hG.1⟩) hG.2.2.2.2.2.2.1 hKl L0 (by decide) (by decide)))) ?_
  refine I3 (p:=((cpE C p0 = 0 ∧ C.val p0 = 0) ↔ C.poly p0 = 0)) 250 (⟨fun h=>b44.1 h.2,fun h=>⟨e,b44.2 h⟩⟩) ?_
  refine A3 (.one (.bb true)) rfl (fun β S w hS hs hw hG=>(kx (b02 (ht.to hw)))) ?_
  exact n8 (.bool true) rfl (fun S w hs hw hG=>⟨rfl,hw⟩)
 refine F6 (p:=cpE C p0 = 0) 242 (e) ?_
 refine I3 (p:=((cpE C p0 = 0 ∧ C.val p0 = 0) ↔ (false = true))) 250 (⟨fun h=>absurd h.1 e,fun h=>by cases h⟩) ?_
 refine A3 (.one (.bb true)) rfl (fun β S w hS hs hw hG=>(kx (b02 (ht.to hw)))) ?_
 exact n8 (.bool true) rfl (fun S w hs hw hG=>⟨rfl,hw⟩)
end Go.Proofs.YtmjbiocildkhnaaGreatDoor
end
section
namespace Go.Proofs.YtmjbiocildkhnaaGreatDoor
open Go Go.RowKit Go.ChangeShapes Go.WideShapes Go.Proofs.Tryz
theorem ce4 {H : Type} {enc : TypeId × Value → H} {P : Program} {w : World} {base n : Nat} {spare : Nat → Bool} {held : Bool} {e f : TypeId} {fuel : Nat} {cs : List Value} {x : DataW H × List MemPlace}
  (he : P.underlying e = some (.array n f)) (hf : P.underlying f = some (.int .i64)) (hcf : P.cellsOf f = 1) (hce : P.cellsOf e = n) (h : DataW.trod enc P w base spare held fuel e cs = some x) : ∃ a : Nat → Int,cs = (List.range n).map (fun i=>Value.int .i64 (a i)) ∧ ∀ i,i < n → -9223372036854775808 ≤ a i ∧ a i ≤ 9223372036854775807:=by
 cases fuel with
 | zero=>simp [DataW.trod] at h
 | succ fuel=>
  rw [DataW.trod_step] at h
  unfold DataW.trodStep at h
  rw [he] at h
  simp only at h
  split at h
  ·rename_i hl
   rw [hce] at hl
   simp only [Option.map_eq_some_iff] at h
   obtain ⟨xs,hx,rfl⟩:=h
   have hel : ∀ i,i < n → ∃ z : Int,(cs.drop i).take 1 = [.int .i64 z] ∧ -9223372036854775808 ≤ z ∧ z ≤ 9223372036854775807:=by
    intro i hi
    have h1:=mapM_some_get hx i i (by rw [List.getElem?_range hi])
    have hxl:=mapM_some_length hx
    simp at hxl
    rw [List.getElem?_eq_getElem (by omega)] at h1
    rw [hcf,Nat.mul_one] at h1
    obtain ⟨z,h2,_,h3⟩:=DataW.trod_int hf h1
    refine ⟨z,h2,?_⟩
    simp only [Lit.wf,IntKind.min,IntKind.max,IntKind.signed,IntKind.bits,Bool.and_eq_true,decide_eq_true_eq] at h3
    refine ⟨?_,?_⟩ <;> · have h4:=h3; simp at h4; omega
   have hall : ∀ i : Nat,∃ z : Int,i < n → (cs.drop i).take 1 = [.int .i64 z] ∧ -9223372036854775808 ≤ z ∧ z ≤ 9223372036854775807:=by
    intro i
    by_cases hi : i < n
    ·obtain ⟨z,hz⟩:=hel i hi
     exact ⟨z,fun _=>hz⟩
    exact ⟨0,fun h=>absurd h hi⟩
   refine ⟨fun i=>(hall i).choose,?_,fun i hi=>((hall i).choose_spec hi).2⟩
   refine List.ext_getElem? fun i=>?_
   by_cases hi : i < n
   ·have h1:=((hall i).choose_spec hi).1
    have h2 : ((cs.drop i).take 1)[0]? = cs[i]?:=by simp
    rw [List.getElem?_map,List.getElem?_range hi]
    exact h2.symm.trans (congrArg (fun l : List Value=>l[0]?) h1)
   rw [List.getElem?_eq_none (by omega),List.getElem?_eq_none (by simp; omega)]
  cases h
theorem ay3 {P : Program} {w : World} {r : Reach} {base n : Nat} {t e : TypeId} {v : Value} (ht : P.underlying t = some (.array n e)) (h : Value.okWide P w r base t v) : ∃ cs,v = .agg cs:=by
 unfold Value.okWide at h
 rw [ht] at h
 obtain ⟨cs,h1,_⟩:=h
 exact ⟨cs,h1⟩
def c99 (n : Nat) (a : Nat → Int) : Value:=.agg ((List.range n).map fun i=>Value.int .i64 (a i)).toArray
theorem bm0 {H : Type} {enc : TypeId × Value → H} {P : Program} {w W : World} {r : Reach} {base b2 n : Nat} {spare : Nat → Bool} {held : Bool} {e f : TypeId} {v : Value} {d : DataW H} {p : List MemPlace}
  (he : P.underlying e = some (.array n f)) (hf : P.underlying f = some (.int .i64)) (hcf : P.cellsOf f = 1) (hce : P.cellsOf e = n) (hv : Value.okWide P W r b2 e v) (h : DataW.Trod enc P w base spare held e v d p) : ∃ a : Nat → Int,v = c99 n a ∧ ∀ i,i < n → -9223372036854775808 ≤ a i ∧ a i ≤ 9223372036854775807:=by
 obtain ⟨cs,rfl⟩:=ay3 he hv
 obtain ⟨fuel,h⟩:=h
 obtain ⟨a,h1,h2⟩:=ce4 he hf hcf hce h
 refine ⟨a,?_,h2⟩
 unfold c99
 rw [← h1]
 simp [Value.cells]
theorem cr8 {α : Type} {n : Nat} {cs : List α} : ∀ k,k * n ≤ cs.length → (List.range k).flatMap (fun i=>(cs.drop (i * n)).take n) = cs.take (k * n):=by
 intro k
 induction k with
 | zero=>intro _; simp
 | succ k ih=>
  intro h
  rw [Nat.add_mul,Nat.one_mul] at h ⊢
  rw [List.range_succ,List.flatMap_append,ih (by omega),List.take_add]
  simp
def ct5 (m n : Nat) (l : Nat → Nat → Int) : List Value:=(List.range m).flatMap fun i=>(List.range n).map fun j=>Value.int .i64 (l i j)
def cz4 (m n : Nat) (l : Nat → Nat → Int) : Value:=.agg (ct5 m n l).toArray
theorem de9 {H : Type} {enc : TypeId × Value → H} {P : Program} {w : World} {base m n : Nat} {spare : Nat → Bool} {held : Bool} {g e f : TypeId} {fuel : Nat} {cs : List Value} {x : DataW H × List MemPlace}
  (hg : P.underlying g = some (.array m e)) (he : P.underlying e = some (.array n f)) (hf : P.underlying f = some (.int .i64)) (hcf : P.cellsOf f = 1) (hce : P.cellsOf e = n) (hcg : P.cellsOf g = m * n) (h : DataW.trod enc P w base spare held fuel g cs = some x) :
  ∃ l : Nat → Nat → Int,cs = ct5 m n l ∧ ∀ i,i < m → ∀ j,j < n → -9223372036854775808 ≤ l i j ∧ l i j ≤ 9223372036854775807:=by
 cases fuel with
 | zero=>simp [DataW.trod] at h
 | succ fuel=>
  rw [DataW.trod_step] at h
  unfold DataW.trodStep at h
  rw [hg] at h
  simp only at h
  split at h
  ·rename_i hl
   rw [hcg] at hl
   simp only [Option.map_eq_some_iff] at h
   obtain ⟨xs,hx,rfl⟩:=h
   have hel : ∀ i,i < m → ∃ a : Nat → Int,(cs.drop (i * n)).take n = (List.range n).map (fun j=>Value.int .i64 (a j)) ∧ ∀ j,j < n → -9223372036854775808 ≤ a j ∧ a j ≤ 9223372036854775807:=by
    intro i hi
    have h1:=mapM_some_get hx i i (by rw [List.getElem?_range hi])
    have hxl:=mapM_some_length hx
    simp at hxl
    rw [List.getElem?_eq_getElem (by omega)] at h1
    rw [hce] at h1
    exact ce4 he hf hcf hce h1
   have hall : ∀ i : Nat,∃ a : Nat → Int,i < m → (cs.drop (i * n)).take n = (List.range n).map (fun j=>Value.int .i64 (a j)) ∧ ∀ j,j < n → -9223372036854775808 ≤ a j ∧ a j ≤ 9223372036854775807:=by
    intro i
    by_cases hi : i < m
    ·obtain ⟨a,ha⟩:=hel i hi
     exact ⟨a,fun _=>ha⟩
    exact ⟨fun _=>0,fun h=>absurd h hi⟩
   refine ⟨fun i=>(hall i).choose,?_,fun i hi=>((hall i).choose_spec hi).2⟩
   have e1:=cr8 (n:=n) (cs:=cs) m (by omega)
   rw [List.take_of_length_le (by omega)] at e1
   refine e1.symm.trans ?_
   unfold ct5
   rw [List.flatMap_def,List.flatMap_def]
   congr 1
   exact List.map_congr_left fun i hi=>((hall i).choose_spec (List.mem_range.1 hi)).1
  cases h
theorem cl7 {H : Type} {enc : TypeId × Value → H} {P : Program} {w W : World} {r : Reach} {base b2 m n : Nat} {spare : Nat → Bool} {held : Bool} {g e f : TypeId} {v : Value} {d : DataW H} {p : List MemPlace}
  (hg : P.underlying g = some (.array m e)) (he : P.underlying e = some (.array n f)) (hf : P.underlying f = some (.int .i64)) (hcf : P.cellsOf f = 1) (hce : P.cellsOf e = n) (hcg : P.cellsOf g = m * n) (hv : Value.okWide P W r b2 g v) (h : DataW.Trod enc P w base spare held g v d p) :
  ∃ l : Nat → Nat → Int,v = cz4 m n l ∧ ∀ i,i < m → ∀ j,j < n → -9223372036854775808 ≤ l i j ∧ l i j ≤ 9223372036854775807:=by
 obtain ⟨cs,rfl⟩:=ay3 hg hv
 obtain ⟨fuel,h⟩:=h
 obtain ⟨l,h1,h2⟩:=de9 hg he hf hcf hce hcg h
 refine ⟨l,?_,h2⟩
 unfold cz4
 rw [← h1]
 simp [Value.cells]
end Go.Proofs.YtmjbiocildkhnaaGreatDoor
end
section
namespace Go.Proofs.YtmjbiocildkhnaaGreatDoor
open Go Go.ChangeShapes Go.WideShapes Go.ChangeAt Go.WideMaps Go.WideElems Go.RowKit Go.Proofs.Tryz
theorem own : ownKnob prog.godebug = none:=by kernel_rfl
theorem d57 : prog.globalNamed "internal/strconv.uint64pow10" = some 3 := by kernel_rfl
theorem d31 : (prog.globals[3]?).map (·.type) = some 267:=by kernel_rfl
theorem d59 : prog.cellsOf 267 = 20:=by kernel_rfl
theorem dx6 : prog.cellsOf 161 = 1:=by kernel_rfl
theorem d26 : (Rows.laid_internal_strconv_uint64pow10 : DataW Unit) = Lib.tabData .u64 Lib.pow10Tab:=by rfl
theorem dm5 {W : World} (h : laidMetH prog Rows.viewChecksRow.laid W) : Tab W:=by
 rw [MakeChecks.laidMetH_plain _ _ _ (by kernel_rfl)] at h
 obtain ⟨ps,⟨g0,t0,cs0,f0,p0,q0,hg0,ht0,hv0,hd0,⟨g1,t1,cs1,f1,p1,q1,hg1,ht1,hv1,hd1,⟨g2,t2,cs2,f2,p2,q2,hg2,ht2,hv2,hd2,_⟩,_⟩,_⟩,_⟩:=h
 obtain rfl:=Option.some.inj (d57.symm.trans hg2)
 obtain rfl:=Option.some.inj (d31.symm.trans ht2)
 rw [d26] at hd2
 unfold Tab Lib.TabIs
 rw [hv2,← Lib.cells_of_tab underlying267 underlying161 dx6 d59 hd2]
theorem de1 (os : Os) (args : Array Value) : laidMetH prog Rows.viewChecksRow.laid ((World.laidAll prog os Rows.viewChecksRow.laid).forCall (fun _ _=>0) ⟨#[],args,[]⟩).memory:=by
 rw [MakeChecks.laidMetH_plain _ _ _ (by kernel_rfl)]
 exact laidMet_laidAll _ (by kernel_rfl) (by kernel_rfl)
theorem bn9 : laidOutB prog = true:=by kernel_rfl
theorem ca7 : prog.cellsOf 3 = 1:=by kernel_rfl
theorem a61 : prog.cellsOf 24 = 4 * 6:=by kernel_rfl
theorem bd4 : prog.cellsOf 23 = 6:=by kernel_rfl
theorem ds5 : prog.cellsOf 25 = 9:=by kernel_rfl
theorem dt2 : prog.cellsOf 22 = 6:=by kernel_rfl
theorem bi0 (os : Os) (started : os.Started) (H : Type) (enc : TypeId × Value → H) :
  ReturnsInHanded {} Tryz.checked os 3 .any (fun w args=>(Rows.viewChecksSpec.pre enc prog Tryz.f3 [] false w args ∧ laidMetH prog Rows.viewChecksRow.laid w) ∧ sizedMet enc prog Tryz.f3 (OpenSpec.ofChange Rows.viewChecksSpec) false w args)
   (Rows.viewChecksSpec.post enc prog Tryz.f3 false true false false):=by
 refine returnsInHanded_of_change_and (C:=Tryz.checked) (X:=fun w _=>laidMetH prog Rows.viewChecksRow.laid w) (fun _ _ _ hh h=>h.of_heap hh) own started (by kernel_rfl) func3
  (ChangeSpec.witness_shaped (enc:=enc) (C:=Tryz.checked) (os:=os) (X:=fun w _=>laidMetH prog Rows.viewChecksRow.laid w) false (World.laidAll prog os Rows.viewChecksRow.laid) #[.agg #[.int .i64 0,.int .i64 0,.int .i64 0,.int .i64 0,.int .i64 0,.int .i64 0,.int .i64 0,.int .i64 0,.int .i64 0,.int .i64 0,.int .i64 0,.int .i64 0,.int .i64 0,.int .i64 0,.int .i64 0,.int .i64 0,.int .i64 0,.int .i64 0,.int .i64 0,.int .i64 0,.int .i64 0,.int .i64 0,.int .i64 0,.int .i64 0],.agg #[.int .i64 0,.int .i64 0,.int .i64 0,.int .i64 0,.int .i64 0,.int .i64 0,.int .i64 0,.int .i64 0,.int .i64 0],.agg #[.int .i64 0,.int .i64 0,.int .i64 0,.int .i64 0,.int .i64 0,.int .i64 0]] 8 (World.laidAll_os _ _ _) (World.shaped_of_ZipB (by kernel_rfl) (by kernel_rfl)) (by kernel_rfl) (by kernel_rfl) (by kernel_rfl) (de1 os _)) ?_
 intro W base args ds gs before hval0 hW _ _ hL _
 have U3 : ∀ (j : Nat) t v,Tryz.f3.params[j]? = some t → args[j]? = some v → Value.okWide prog W .any base t v:=hval0
 have hW':=hW
 obtain ⟨p,q,hA0,hV,rfl,hfz,hnd⟩:=hW
 have hA : DataW.TrodAll enc prog W 0 (fun _=>true) true Tryz.f3.params.toList args.toList ds p:=hA0
 rw [params3] at hA U3
 obtain ⟨v0,v1,v2,d0,d1,d2,p0,p1,p2,rfl,rfl,rfl,h0,h1,h2⟩:=trodAll_three hA
 obtain ⟨rfl,rfl⟩:=trodVars_none hV
 have h0k:=h0
 have h1k:=h1
 have h2k:=h2
 obtain ⟨a,rfl,ba⟩:=cl7 underlying24 underlying23 underlying3 ca7 bd4 a61 (U3 0 24 v0 rfl rfl) h0
 obtain ⟨b,rfl,bb⟩:=bm0 underlying25 underlying3 ca7 ds5 (U3 1 25 v1 rfl rfl) h1
 obtain ⟨c,rfl,bc⟩:=bm0 underlying22 underlying3 ca7 dt2 (U3 2 22 v2 rfl rfl) h2
 clear hA0 hval0
 have hlt : ∀ x ∈ p0 ++ p1 ++ p2,x.block < W.heap.size:=fun x hx=>hW'.lt x (List.mem_append_left _ hx)
 have hargs0 : ∀ (W' : World),Below W.heap.size W W' → DataW.Trod enc prog W' 0 (fun b=>decide (b < W.heap.size)) true 24 (cz4 4 6 a) d0 p0:=
  fun W' hn=>Below.trod bn9 (by kernel_rfl) (of_decide_eq_true (by kernel_rfl)) h0k hn fun x hx=>hlt x (by simp [hx])
 have hargs1 : ∀ (W' : World),Below W.heap.size W W' → DataW.Trod enc prog W' 0 (fun b=>decide (b < W.heap.size)) true 25 (c99 9 b) d1 p1:=
  fun W' hn=>Below.trod bn9 (by kernel_rfl) (of_decide_eq_true (by kernel_rfl)) h1k hn fun x hx=>hlt x (by simp [hx])
 have hargs2 : ∀ (W' : World),Below W.heap.size W W' → DataW.Trod enc prog W' 0 (fun b=>decide (b < W.heap.size)) true 22 (c99 6 c) d2 p2:=
  fun W' hn=>Below.trod bn9 (by kernel_rfl) (of_decide_eq_true (by kernel_rfl)) h2k hn fun x hx=>hlt x (by simp [hx])
 refine Calls.mono (bt9 (l:=a) (m:=b) (c:=c) (dm5 hL) (fun i hi j hj=>ba i hi j hj) (fun i hi=>bb i hi) (fun i hi=>bc i hi)) fun e W' ⟨v,he,hv,hw⟩=>?_
 subst he hv
 refine ⟨_,rfl,_,_,_,[],p0 ++ p1 ++ p2,[],hW',?_,?_,rfl,hw.below.frame _,fun h=>by cases h⟩
 ·exact trodAll_mk1 (shut_bool underlying4 _)
 rw [List.append_assoc]; exact trodAll_mk3 (hargs0 W' hw.below) (hargs1 W' hw.below) (hargs2 W' hw.below)
theorem b62 : Rows.ViewChecksSaid:=
 OpenClaim.holds_of_wide 3 Tryz.f3 rfl rfl rfl rfl rfl rfl rfl ⟨rfl,rfl,rfl,rfl,rfl⟩ rfl rfl rfl rfl rfl (by kernel_rfl) func3 (by kernel_rfl)
  (of_decide_eq_true (by kernel_rfl)) (by unfold Func.isWrapper; first | (rw [if_pos (by decide +kernel)]; kernel_rfl) | (rw [if_neg (by decide +kernel)]; exact ⟨rfl,rfl⟩))
  (fun os started H enc _=>bi0 os started H enc)
theorem checks_holds : Rows.ViewChecksCardSaid:=
 Claim7.holds_tied_plain_at .later [] [.data,.data,.data,.data,.sentinel,.sentinel,.pinned] true Rows.viewChecksCard.stood.harness true
  b62 (fun _ h=>by cases h) (by kernel_rfl) (fun _ h=>by cases h) viewChecks_row_tie rfl ⟨rfl,rfl⟩ (by kernel_rfl) rfl
  (fun f fn hf hfn=>by
   obtain rfl : f = 3 := Option.some.inj ((show prog.funcNamed "rabbet/rabbetlaw06.ViewChecks" = some 3 by kernel_rfl).symm.trans hf) |>.symm
   obtain rfl : fn = Tryz.f3:=(Option.some.inj (func3.symm.trans hfn)).symm
   exact ⟨by kernel_rfl,fun j t ht=>by
    rw [params3] at ht
    rcases j with _ | _ | _ | j
    ·obtain rfl : t = 24:=by simpa using ht.symm
     exact (show prog.wantsStandIn 24 = false by kernel_rfl)
    ·obtain rfl : t = 25:=by simpa using ht.symm
     exact (show prog.wantsStandIn 25 = false by kernel_rfl)
    ·obtain rfl : t = 22:=by simpa using ht.symm
     exact (show prog.wantsStandIn 22 = false by kernel_rfl)
    simp at ht⟩)
  (by kernel_rfl)
end Go.Proofs.YtmjbiocildkhnaaGreatDoor
end

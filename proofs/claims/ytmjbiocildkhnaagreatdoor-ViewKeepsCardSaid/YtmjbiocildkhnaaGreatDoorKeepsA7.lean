/- The statement ViewKeeps, proved: for every two maps, two points and four numbers the law returns true; the listed tables of the library hold what the program's text lays (the given tie). -/
import Derived.Test.YtmjbiocildkhnaaGreatDoorKeepsA6
import Derived.Test.YtmjbiocildkhnaaGreatDoorKeepsA5
import Derived.Carry
import Derived.Test.YtmjbiocildkhnaaGreatDoorKeepsA2
import Derived.Test.YtmjbiocildkhnaaGreatDoorCards
import Derived.Test.YtmjbiocildkhnaaGreatDoorTie
import Derived.ProofKit
import Derived.LaidMore
import Derived.OpenShut
import Derived.Stop.Joined
import Derived.SevenTiedAt
import Derived.Lay
set_option linter.unusedSimpArgs false
set_option linter.unusedVariables false
set_option maxRecDepth 100000
set_option maxHeartbeats 8000000
section
namespace Go.Proofs.YtmjbiocildkhnaaGreatDoor
open Go Go.RowKit Go.Proofs.Tryz
abbrev ad4 (m : M3) (a1 a2 a3 b1 b2 b3 c1 c2 c3 : Value) : Gh:=⟨fun S w=>MapC S w m a1 a2 a3 b1 b2 b3 c1 c2 c3,fun h k=>h.keep k,fun h k=>h.mono k⟩
theorem a77 {S : Nat → Prop} {w : World} {v : Value} {m : M3} (hS : Up S w) (h : MapV S w v m) :
  Gives prog 85 [v] w fun v' w'=>Ext w w' ∧ MapV S w' v' m.turned:=by
 obtain ⟨a1,a2,a3,b1,b2,b3,c1,c2,c3,rfl,hm⟩:=h.ex
 refine n8 (E:=env) (S0:=S) (G:=(ad4 m a1 a2 a3 b1 b2 b3 c1 c2 c3)) (l:=[.agg [.ag 3 a1,.ag 3 a2,.ag 3 a3,.ag 3 b1,.ag 3 b2,.ag 3 b3,.ag 3 c1,.ag 3 c2,.ag 3 c3]]) func85 rfl rfl rfl ⟨hm.ok _,trivial⟩ rfl hm ?_
 refine n9 ?_
 refine j7 5 ?_
 refine b7 5 ?_
 refine j3 [] ((ad4 m a1 a2 a3 b1 b2 b3 c1 c2 c3).and (Gh.nil)) (by exact fun _ _ h=>⟨h,trivial⟩) (fun g η=>g) (fun g η=>(by kernel_rfl)) ?_
 intro η_1
 refine n9 ?_
 refine j7 5 ?_
 refine b7 5 ?_
 refine j3 [] ((ad4 m a1 a2 a3 b1 b2 b3 c1 c2 c3).and (Gh.nil)) (by exact fun _ _ h=>⟨h.1,trivial⟩) (fun g η=>g) (fun g η=>(by kernel_rfl)) ?_
 intro η_2
 refine n9 ?_
 refine j7 5 ?_
 refine b7 5 ?_
 refine j3 [] ((ad4 m a1 a2 a3 b1 b2 b3 c1 c2 c3).and (Gh.nil)) (by exact fun _ _ h=>⟨h.1,trivial⟩) (fun g η=>g) (fun g η=>(by kernel_rfl)) ?_
 intro η_3
 refine n9 ?_
 refine j7 5 ?_
 refine b7 5 ?_
 refine j3 [] ((ad4 m a1 a2 a3 b1 b2 b3 c1 c2 c3).and (Gh.nil)) (by exact fun _ _ h=>⟨h.1,trivial⟩) (fun g η=>g) (fun g η=>(by kernel_rfl)) ?_
 intro η_4
 refine n9 ?_
 refine j7 5 ?_
 refine b7 5 ?_
 refine j3 [] ((ad4 m a1 a2 a3 b1 b2 b3 c1 c2 c3).and (Gh.nil)) (by exact fun _ _ h=>⟨h.1,trivial⟩) (fun g η=>g) (fun g η=>(by kernel_rfl)) ?_
 intro η_5
 refine n9 ?_
 refine j7 5 ?_
 refine b7 5 ?_
 refine j3 [] ((ad4 m a1 a2 a3 b1 b2 b3 c1 c2 c3).and (Gh.nil)) (by exact fun _ _ h=>⟨h.1,trivial⟩) (fun g η=>g) (fun g η=>(by kernel_rfl)) ?_
 intro η_6
 refine n9 ?_
 refine j7 5 ?_
 refine b7 5 ?_
 refine j3 [] ((ad4 m a1 a2 a3 b1 b2 b3 c1 c2 c3).and (Gh.nil)) (by exact fun _ _ h=>⟨h.1,trivial⟩) (fun g η=>g) (fun g η=>(by kernel_rfl)) ?_
 intro η_7
 refine n9 ?_
 refine j7 5 ?_
 refine b7 5 ?_
 refine j3 [] ((ad4 m a1 a2 a3 b1 b2 b3 c1 c2 c3).and (Gh.nil)) (by exact fun _ _ h=>⟨h.1,trivial⟩) (fun g η=>g) (fun g η=>(by kernel_rfl)) ?_
 intro η_8
 refine n9 ?_
 refine j7 5 ?_
 refine b7 5 ?_
 refine j3 [] ((ad4 m a1 a2 a3 b1 b2 b3 c1 c2 c3).and (Gh.nil)) (by exact fun _ _ h=>⟨h.1,trivial⟩) (fun g η=>g) (fun g η=>(by kernel_rfl)) ?_
 intro η_9
 refine n9 ?_
 exact o6 (ad0 a1 b1 c1 a2 b2 c2 a3 b3 c3) rfl (fun S w hs hw hG=>have hm:=hG.1; ⟨hw,(MapC.mono (m:=m.turned) ⟨hm.a1,hm.b1,hm.c1,hm.a2,hm.b2,hm.c2,hm.a3,hm.b3,hm.c3⟩ fun k _ hk=>hs k hk).map⟩)
theorem ao1 {S : Nat → Prop} {w : World} {v vp : Value} {m : M3} {p : T3} {k n : Nat} (hS : Up S w) (h : MapV S w v m) (hp : TripV S w vp p) (hk : ml m k) (hn : tl p n) (hkn : 3 * (k + n + 1) + 1 ≤ 3344) :
  Gives prog 72 [v,vp] w fun v' w'=>Ext w w' ∧ TripV S w' v' (m.apply p):=by
 obtain ⟨a1,a2,a3,b1,b2,b3,c1,c2,c3,rfl,hm⟩:=h.ex
 refine n8 (E:=env) (S0:=S) (G:=((o8 vp (p)).and (ad4 m a1 a2 a3 b1 b2 b3 c1 c2 c3))) (l:=[.agg [.ag 3 a1,.ag 3 a2,.ag 3 a3,.ag 3 b1,.ag 3 b2,.ag 3 b3,.ag 3 c1,.ag 3 c2,.ag 3 c3],.one (.ag 9 vp)]) func72 rfl rfl rfl ⟨hm.ok _,hp.ok,trivial⟩ rfl ⟨hp,hm⟩ ?_
 refine n9 ?_
 refine B0 (fun x0=>.one (.ag 3 x0)) (fun x0=>l6 x0 ((m.a.dot p))) (fun _ _ _ h=>⟨h.ok,rfl⟩) (fun β S w hS hs hw hG=>(kx (be8 hS ⟨_,_,_,rfl,hG.2.a1,hG.2.a2,hG.2.a3⟩ hG.1 hk.1 hn hkn))) ?_
 intro x
 refine n9 ?_
 refine B0 (fun x0=>.one (.ag 3 x0)) (fun x0=>l6 x0 ((m.b.dot p))) (fun _ _ _ h=>⟨h.ok,rfl⟩) (fun β S w hS hs hw hG=>(kx (be8 hS ⟨_,_,_,rfl,hG.2.2.b1,hG.2.2.b2,hG.2.2.b3⟩ hG.2.1 hk.2.1 hn hkn))) ?_
 intro y
 refine n9 ?_
 refine B0 (fun x0=>.one (.ag 3 x0)) (fun x0=>l6 x0 ((m.c.dot p))) (fun _ _ _ h=>⟨h.ok,rfl⟩) (fun β S w hS hs hw hG=>(kx (be8 hS ⟨_,_,_,rfl,hG.2.2.2.c1,hG.2.2.2.c2,hG.2.2.2.c3⟩ hG.2.2.1 hk.2.2 hn hkn))) ?_
 intro z
 refine n9 ?_
 exact o6 (aw8 x y z) rfl (fun S w hs hw hG=>⟨hw,_,_,_,rfl,hG.2.2.1.mono fun k _ hk=>hs k hk,hG.2.1.mono fun k _ hk=>hs k hk,hG.1.mono fun k _ hk=>hs k hk⟩)
theorem U8 {m : M3} {k : Nat} (h : ml m k) : ml m.turned k:=⟨⟨h.1.1,h.2.1.1,h.2.2.1⟩,⟨h.1.2.1,h.2.1.2.1,h.2.2.2.1⟩,⟨h.1.2.2,h.2.1.2.2,h.2.2.2.2⟩⟩
theorem ar4 {m : M3} {p : T3} {k n : Nat} (h : ml m k) (hp : tl p n) : tl (m.apply p) (3 * (k + n) + 2):=⟨ca5 h.1 hp,ca5 h.2.1 hp,ca5 h.2.2 hp⟩
theorem cf1 {m : M3} {k : Nat} (h : ml m k) : ml m.adj (4 * k + 1):=U8 ⟨F3 (r5 h.2.1 h.2.2),F3 (r5 h.2.2 h.1),F3 (r5 h.1 h.2.1)⟩
theorem c95 {m n : M3} {k l : Nat} (h : ml m k) (hn : ml n l) : ml (m.after n) (3 * (k + l) + 2):=U8 ⟨ar4 h (U8 hn).1,ar4 h (U8 hn).2.1,ar4 h (U8 hn).2.2⟩
theorem dc4 {S : Nat → Prop} {w : World} {v u : Value} {m n : M3} {k l : Nat} (hS : Up S w) (h : MapV S w v m) (hu : MapV S w u n) (hk : ml m k) (hl : ml n l) (hkl : 3 * (k + l + 1) + 1 ≤ 3344) :
  Gives prog 93 [v,u] w fun v' w'=>Ext w w' ∧ MapV S w' v' (m.after n):=by
 have ht:=U8 hl
 refine n8 (E:=env) (S0:=S) (G:=((A4 v (m)).and (A4 u (n)))) (l:=[.one (.ag 27 v),.one (.ag 27 u)]) func93 rfl rfl rfl ⟨h.ok,hu.ok,trivial⟩ rfl ⟨h,hu⟩ ?_
 refine B0 (fun x0=>.agg [.ag 3 (cel x0 0 3),.ag 3 (cel x0 3 3),.ag 3 (cel x0 6 3),.ag 3 (cel x0 9 3),.ag 3 (cel x0 12 3),.ag 3 (cel x0 15 3),.ag 3 (cel x0 18 3),.ag 3 (cel x0 21 3),.ag 3 (cel x0 24 3)]) (fun x0=>ai1 x0 (n.turned)) (fun _ _ _ h=>bl4 h) (fun β S w hS hs hw hG=>have h:=hG.1; (kx ((a77 hS hG.2).mono fun v' w' h=>⟨h.1,c74 h.2⟩))) ?_
 intro t
 refine n9 ?_
 refine B0 (fun x0=>.agg [.ag 3 (cel x0 0 3),.ag 3 (cel x0 3 3),.ag 3 (cel x0 6 3)]) (fun x0=>O5 x0 ((m.apply n.turned.a))) (fun _ _ _ h=>M0 h) (fun β S w hS hs hw hG=>have h:=hG.2.1; (kx ((ao1 hS h ⟨_,_,_,rfl,hG.1.2.a1,hG.1.2.a2,hG.1.2.a3⟩ hk ht.1 hkl).mono fun v' w' h=>⟨h.1,a89 h.2⟩))) ?_
 intro x
 refine n9 ?_
 refine B0 (fun x0=>.agg [.ag 3 (cel x0 0 3),.ag 3 (cel x0 3 3),.ag 3 (cel x0 6 3)]) (fun x0=>O5 x0 ((m.apply n.turned.b))) (fun _ _ _ h=>M0 h) (fun β S w hS hs hw hG=>have h:=hG.2.2.1; (kx ((ao1 hS h ⟨_,_,_,rfl,hG.2.1.2.b1,hG.2.1.2.b2,hG.2.1.2.b3⟩ hk ht.2.1 hkl).mono fun v' w' h=>⟨h.1,a89 h.2⟩))) ?_
 intro y
 refine n9 ?_
 refine B0 (fun x0=>.agg [.ag 3 (cel x0 0 3),.ag 3 (cel x0 3 3),.ag 3 (cel x0 6 3)]) (fun x0=>O5 x0 ((m.apply n.turned.c))) (fun _ _ _ h=>M0 h) (fun β S w hS hs hw hG=>have g:=hG.2.2.1; have h:=hG.2.2.2.1; (kx ((ao1 hS h ⟨_,_,_,rfl,g.2.c1,g.2.c2,g.2.c3⟩ hk ht.2.2 hkl).mono fun v' w' h=>⟨h.1,a89 h.2⟩))) ?_
 intro z
 refine n9 ?_
 refine B0 (fun x0=>.one (.ag 27 x0)) (fun x0=>A4 x0 ((m.after n))) (fun _ _ _ h=>⟨h.ok,rfl⟩) (fun β S w hS hs hw hG=>(kx (a77 hS (MapC.map (m:=⟨m.apply n.turned.a,m.apply n.turned.b,m.apply n.turned.c⟩) ⟨hG.2.2.1.2.1,hG.2.2.1.2.2.1,hG.2.2.1.2.2.2,hG.2.1.2.1,hG.2.1.2.2.1,hG.2.1.2.2.2,hG.1.2.1,hG.1.2.2.1,hG.1.2.2.2⟩)))) ?_
 intro q
 exact o6 (q) rfl (fun S w hs hw hG=>⟨hw,(A4 _ _).mono hG.1 fun k _ hk=>hs k hk⟩)
namespace M3
def list (m : M3) : List Rat:=[m.a.x,m.a.y,m.a.z,m.b.x,m.b.y,m.b.z,m.c.x,m.c.y,m.c.z]
noncomputable def lead (m : M3) : Rat:=O3 m.list
def over (m : M3) (k : Rat) : M3:=⟨m.a.over k,m.b.over k,m.c.over k⟩
noncomputable def normal (m : M3) : M3:=m.over m.lead
theorem normal_list (m : M3) : a90 m.list = m.normal.list:=rfl
theorem fpos_list {m : M3} (h : m.det ≠ 0) : 0 ≤ U1 bm8 m.list 0:=by
 refine a74.1 ?_
 by_cases h1 : m.a.x = 0
 ·by_cases h2 : m.a.y = 0
  ·by_cases h3 : m.a.z = 0
   ·exact absurd (be3 ⟨h1,h2,h3⟩) h
   exact ⟨m.a.z,by simp [list],h3⟩
  exact ⟨m.a.y,by simp [list],h2⟩
 exact ⟨m.a.x,by simp [list],h1⟩
end M3
theorem al2 {m : M3} {k : Nat} (h : ml m k) : ∀ x ∈ m.list,rl x k:=by
 intro x hx
 simp only [M3.list,List.mem_cons,List.not_mem_nil,or_false] at hx
 rcases hx with rfl | rfl | rfl | rfl | rfl | rfl | rfl | rfl | rfl
 ·exact h.1.1
 ·exact h.1.2.1
 ·exact h.1.2.2
 ·exact h.2.1.1
 ·exact h.2.1.2.1
 ·exact h.2.1.2.2
 ·exact h.2.2.1
 ·exact h.2.2.2.1
 exact h.2.2.2.2
theorem ce0 {S : Nat → Prop} {w : World} {b n : Nat} {T : TypeId} {vs : List Value} {l : List Rat} (hS : Up S w) (hB : Blk w b T (A3 vs)) (hv : ElsV true 3 W5 S w vs l) (hn : l.length = n) (hb : ¬ S b) (hm : n ≤ maxLen) (hne : 0 ≤ U1 bm8 l 0) (hl : ∀ x ∈ l,rl x 400000000000) (hf : ∀ x ∈ a90 l,R0 x) :
  Gives prog 131 [.slice (some ⟨b,0,none⟩) n n] w fun r w'=>Wrt b w w' ∧ r = .tuple #[] ∧ ∃ vs',Blk w' b T (A3 vs') ∧ ElsV true 3 W5 S w' vs' (a90 l):=by
 subst hn
 have ho : Own 0 T 3 w (.slice (some ⟨b,0,none⟩) l.length l.length) l.length (A3 vs):=ak2 hB (Nat.zero_le _) hm (by rw [R2 hv.lies,hv.len])
 refine (bq0 (T:=T) hS ho hv (fun k hk e=>hb (by cases e; exact hk)) hl (fun x hx=>hf _ (List.mem_map.2 ⟨x,hx,rfl⟩)) hne).mono ?_
 rintro r w' ⟨rfl,k,vs',h1,h2⟩
 exact ⟨k.mono fun i hi e=>hi (by cases e; rfl),rfl,vs',cn8 h1,h2⟩
theorem MapC.els {S : Nat → Prop} {w : World} {m : M3} {a1 a2 a3 b1 b2 b3 c1 c2 c3 : Value} (h : MapC S w m a1 a2 a3 b1 b2 b3 c1 c2 c3) : ElsV true 3 W5 S w [a1,a2,a3,b1,b2,b3,c1,c2,c3] m.list:=by
 refine ⟨rfl,fun x hx=>?_,fun i q x hq hx=>?_⟩
 ·simp only [List.mem_cons,List.not_mem_nil,or_false] at hx
  rcases hx with rfl | rfl | rfl | rfl | rfl | rfl | rfl | rfl | rfl
  ·exact h.a1.lies
  ·exact h.a2.lies
  ·exact h.a3.lies
  ·exact h.b1.lies
  ·exact h.b2.lies
  ·exact h.b3.lies
  ·exact h.c1.lies
  ·exact h.c2.lies
  exact h.c3.lies
 match i with
 | 0=>simp [M3.list] at hq hx; subst hq hx; exact h.a1
 | 1=>simp [M3.list] at hq hx; subst hq hx; exact h.a2
 | 2=>simp [M3.list] at hq hx; subst hq hx; exact h.a3
 | 3=>simp [M3.list] at hq hx; subst hq hx; exact h.b1
 | 4=>simp [M3.list] at hq hx; subst hq hx; exact h.b2
 | 5=>simp [M3.list] at hq hx; subst hq hx; exact h.b3
 | 6=>simp [M3.list] at hq hx; subst hq hx; exact h.c1
 | 7=>simp [M3.list] at hq hx; subst hq hx; exact h.c2
 | 8=>simp [M3.list] at hq hx; subst hq hx; exact h.c3
 | i + 9=>simp [M3.list] at hq
theorem cx2 {S : Nat → Prop} {w : World} {m : M3} {vs : List Value} (h : ElsV true 3 W5 S w vs m.list) : ∃ x,(ai1 x m).p S w ∧ ∀ β,d6 β [.ag 3 (cel x 0 3),.ag 3 (cel x 3 3),.ag 3 (cel x 6 3),.ag 3 (cel x 9 3),.ag 3 (cel x 12 3),.ag 3 (cel x 15 3),.ag 3 (cel x 18 3),.ag 3 (cel x 21 3),.ag 3 (cel x 24 3)] = A3 vs:=by
 have hl : vs.length = 9:=h.len
 match vs,hl with
 | [a1,a2,a3,b1,b2,b3,c1,c2,c3],_=>
  have hc : MapC S w m a1 a2 a3 b1 b2 b3 c1 c2 c3:=⟨h.el 0 _ _ rfl rfl,h.el 1 _ _ rfl rfl,h.el 2 _ _ rfl rfl,h.el 3 _ _ rfl rfl,h.el 4 _ _ rfl rfl,h.el 5 _ _ rfl rfl,h.el 6 _ _ rfl rfl,h.el 7 _ _ rfl rfl,h.el 8 _ _ rfl rfl⟩
  have hx:=c74 hc.map
  refine ⟨ad0 a1 a2 a3 b1 b2 b3 c1 c2 c3,hx,fun β=>?_⟩
  have hl : ∀ x ∈ [a1,a2,a3,b1,b2,b3,c1,c2,c3],M2 true 3 x:=h.lies
  have hk : (ad0 a1 a2 a3 b1 b2 b3 c1 c2 c3).cells.toList = A3 [a1,a2,a3,b1,b2,b3,c1,c2,c3]:=by simp [ad0,A3,SV.den,d6,Ch.cells,Value.cells]
  have e0 : cel (ad0 a1 a2 a3 b1 b2 b3 c1 c2 c3) 0 3 = a1:=I9 (g:=true) (i:=0) hk hl rfl
  have e1 : cel (ad0 a1 a2 a3 b1 b2 b3 c1 c2 c3) 3 3 = a2:=I9 (g:=true) (i:=1) hk hl rfl
  have e2 : cel (ad0 a1 a2 a3 b1 b2 b3 c1 c2 c3) 6 3 = a3:=I9 (g:=true) (i:=2) hk hl rfl
  have e3 : cel (ad0 a1 a2 a3 b1 b2 b3 c1 c2 c3) 9 3 = b1:=I9 (g:=true) (i:=3) hk hl rfl
  have e4 : cel (ad0 a1 a2 a3 b1 b2 b3 c1 c2 c3) 12 3 = b2:=I9 (g:=true) (i:=4) hk hl rfl
  have e5 : cel (ad0 a1 a2 a3 b1 b2 b3 c1 c2 c3) 15 3 = b3:=I9 (g:=true) (i:=5) hk hl rfl
  have e6 : cel (ad0 a1 a2 a3 b1 b2 b3 c1 c2 c3) 18 3 = c1:=I9 (g:=true) (i:=6) hk hl rfl
  have e7 : cel (ad0 a1 a2 a3 b1 b2 b3 c1 c2 c3) 21 3 = c2:=I9 (g:=true) (i:=7) hk hl rfl
  have e8 : cel (ad0 a1 a2 a3 b1 b2 b3 c1 c2 c3) 24 3 = c3:=I9 (g:=true) (i:=8) hk hl rfl
  rw [e0,e1,e2,e3,e4,e5,e6,e7,e8]
  simp [d6,Ch.cells,A3]
theorem b08 {S : Nat → Prop} {w : World} {v : Value} {m : M3} {k : Nat} (hS : Up S w) (h : MapV S w v m) (hd : m.det ≠ 0) (hl : ml m 400000000000) (hk : ml m.normal k) (hk2 : k ≤ 3344) :
  Gives prog 88 [v] w fun v' w'=>Ext w w' ∧ MapV S w' v' m.normal:=by
 obtain ⟨a1,a2,a3,b1,b2,b3,c1,c2,c3,rfl,hm⟩:=h.ex
 refine n8 (E:=env) (S0:=S) (G:=(ad4 m a1 a2 a3 b1 b2 b3 c1 c2 c3)) (l:=[.agg [.ag 3 a1,.ag 3 a2,.ag 3 a3,.ag 3 b1,.ag 3 b2,.ag 3 b3,.ag 3 c1,.ag 3 c2,.ag 3 c3]]) func88 rfl rfl rfl ⟨hm.ok _,trivial⟩ rfl hm ?_
 refine n9 ?_
 refine j7 4 ?_
 refine b7 4 ?_
 refine j3 [] ((ad4 m a1 a2 a3 b1 b2 b3 c1 c2 c3).and (Gh.nil)) (by exact fun _ _ h=>⟨h,trivial⟩) (fun g η=>g) (fun g η=>(by kernel_rfl)) ?_
 intro η_1
 refine o5 (a61 (by kernel_rfl) ⟨b9,hS,j6⟩ ?_)
 refine n9 ?_
 refine j7 4 ?_
 refine b7 4 ?_
 refine j3 [] ((ad4 m a1 a2 a3 b1 b2 b3 c1 c2 c3).and (Gh.nil)) (by exact fun _ _ h=>⟨h.1,trivial⟩) (fun g η=>g) (fun g η=>(by kernel_rfl)) ?_
 intro η_2
 refine o5 (a61 (by kernel_rfl) ⟨b9,hS,j6⟩ ?_)
 refine n9 ?_
 refine j7 4 ?_
 refine b7 4 ?_
 refine j3 [] ((ad4 m a1 a2 a3 b1 b2 b3 c1 c2 c3).and (Gh.nil)) (by exact fun _ _ h=>⟨h.1,trivial⟩) (fun g η=>g) (fun g η=>(by kernel_rfl)) ?_
 intro η_3
 refine o5 (a61 (by kernel_rfl) ⟨b9,hS,j6⟩ ?_)
 refine n9 ?_
 refine o5 (ci6 131 2 171 ([.ag 3 a1,.ag 3 a2,.ag 3 a3,.ag 3 b1,.ag 3 b2,.ag 3 b3,.ag 3 c1,.ag 3 c2,.ag 3 c3]) ⟨b9,hS,j6⟩ (by kernel_rfl) (fun _=>.und) (fun x0=>[.ag 3 (cel x0 0 3),.ag 3 (cel x0 3 3),.ag 3 (cel x0 6 3),.ag 3 (cel x0 9 3),.ag 3 (cel x0 12 3),.ag 3 (cel x0 15 3),.ag 3 (cel x0 18 3),.ag 3 (cel x0 21 3),.ag 3 (cel x0 24 3)]) (fun _=>True) (fun x0=>ai1 x0 (m.normal)) (by kernel_rfl) (fun β S w hS hs hw hG hB hn=>(kx ((ce0 (T:=171) (n:=9) (vs:=[a1,a2,a3,b1,b2,b3,c1,c2,c3]) hS (by have e:=hB; have e2 : d6 β ([a1,a2,a3,b1,b2,b3,c1,c2,c3].map (Ch.ag 3)) = A3 [a1,a2,a3,b1,b2,b3,c1,c2,c3]:=aj7; rw [← e2]; exact e) hG.1.els rfl hn (by decide) (M3.fpos_list hd) (al2 hl) (by rw [M3.normal_list]; exact fun x hx=>Q1 (al2 hk x hx) hk2)).mono fun r w' ⟨k,e,vs',h1,h2⟩=>by subst e; rw [M3.normal_list] at h2; obtain ⟨x,h3,h4⟩:=cx2 h2; exact ⟨k,x,rfl,trivial,trivial,by rw [h4]; exact h1,h3.2.ok _,h3⟩))) ?_)
 intro x _
 refine n9 ?_
 refine j7 6 ?_
 refine b7 6 ?_
 refine j3 [] ((ai1 x (m.normal)).and (Gh.nil)) (by exact fun _ _ h=>⟨h.1,trivial⟩) (fun g η=>g) (fun g η=>(by kernel_rfl)) ?_
 intro η_4
 refine o5 (a61 (by kernel_rfl) ⟨b9,hS,j6⟩ ?_)
 refine n9 ?_
 refine j7 6 ?_
 refine b7 6 ?_
 refine j3 [] ((ai1 x (m.normal)).and (Gh.nil)) (by exact fun _ _ h=>⟨h.1,trivial⟩) (fun g η=>g) (fun g η=>(by kernel_rfl)) ?_
 intro η_5
 refine o5 (a61 (by kernel_rfl) ⟨b9,hS,j6⟩ ?_)
 refine n9 ?_
 refine j7 6 ?_
 refine b7 6 ?_
 refine j3 [] ((ai1 x (m.normal)).and (Gh.nil)) (by exact fun _ _ h=>⟨h.1,trivial⟩) (fun g η=>g) (fun g η=>(by kernel_rfl)) ?_
 intro η_6
 refine o5 (a61 (by kernel_rfl) ⟨b9,hS,j6⟩ ?_)
 refine n9 ?_
 exact o6 (ad0 (cel x 0 3) (cel x 3 3) (cel x 6 3) (cel x 9 3) (cel x 12 3) (cel x 15 3) (cel x 18 3) (cel x 21 3) (cel x 24 3)) rfl (fun S w hs hw hG=>⟨hw,(A4 _ m.normal).mono hG.1.2.map fun k _ hk=>hs k hk⟩)
def si (p : T3) (B : Nat) : Prop:=∃ a b c : Int,p = ⟨(a : Rat),(b : Rat),(c : Rat)⟩ ∧ a.natAbs ≤ B ∧ b.natAbs ≤ B ∧ c.natAbs ≤ B
def sm (p : T3) (B : Nat) : Prop:=∃ (k : Rat) (a b c : Int),k ≠ 0 ∧ p = ⟨k * a,k * b,k * c⟩ ∧ a.natAbs ≤ B ∧ b.natAbs ≤ B ∧ c.natAbs ≤ B
theorem si.sm {p : T3} {B : Nat} (h : si p B) : sm p B:=by
 obtain ⟨a,b,c,rfl,h1,h2,h3⟩:=h
 exact ⟨1,a,b,c,by decide,by ext <;> simp only <;> grind,h1,h2,h3⟩
theorem si.tl {p : T3} {B : Nat} (h : si p B) (hB : B < 1000000000) : tl p 1:=by
 obtain ⟨a,b,c,rfl,h1,h2,h3⟩:=h
 exact ⟨H2 (by omega),H2 (by omega),H2 (by omega)⟩
theorem X7 {a b : Int} {B C : Nat} (h : a.natAbs ≤ B) (k : b.natAbs ≤ C) : (a * b).natAbs ≤ B * C:=by rw [Int.natAbs_mul]; exact Nat.mul_le_mul h k
theorem da0 {p q : T3} {B C : Nat} (hp : sm p B) (hq : sm q C) : sm (p.cross q) (2 * (B * C)):=by
 obtain ⟨k,a,b,c,h1,h2,h3,h4,h5⟩:=hp
 obtain ⟨k',a',b',c',h1',h2',h3',h4',h5'⟩:=hq
 have e : ∀ {x y z u : Int},x.natAbs ≤ B → y.natAbs ≤ C → z.natAbs ≤ B → u.natAbs ≤ C → (x * y - z * u).natAbs ≤ 2 * (B * C):=fun g1 g2 g3 g4=>by
  have q1:=X7 g1 g2
  have q2:=X7 g3 g4
  omega
 refine ⟨k * k',b * c' - c * b',c * a' - a * c',a * b' - b * a',by grind,?_,e h4 h5' h5 h4',e h5 h3' h3 h5',e h3 h4' h4 h3'⟩
 rw [h2,h2']
 ext <;> simp only [T3.cross,Rat.intCast_sub,Rat.intCast_mul] <;> grind
theorem d46 {p : T3} {B : Nat} (h : sm p B) (hB : B < 1000000000) : il p 1:=by
 obtain ⟨k,a,b,c,h1,h2,h3,h4,h5⟩:=h
 have e : ∀ {z : Int},z.natAbs ≤ B → zl z ≤ 1:=fun h=>L5 (k:=1) (by show Int.natAbs _ < _; omega)
 exact ⟨k,a,b,c,h1,h2,e h3,e h4,e h5⟩
theorem bo6 {p : T3} {B : Nat} (h : sm p B) (hn : ¬ p.None) : sm p.normal B:=by
 obtain ⟨k,a,b,c,h1,h2,h3,h4,h5⟩:=h
 have hl:=T3.lead_ne hn
 have ex : p.x = k * a:=congrArg T3.x h2
 have ey : p.y = k * b:=congrArg T3.y h2
 have ez : p.z = k * c:=congrArg T3.z h2
 refine ⟨k / p.lead,a,b,c,by grind,?_,h3,h4,h5⟩
 ext <;> simp only [T3.normal,T3.over,ex,ey,ez] <;> grind
theorem as4 {p : T3} {B : Nat} (h : sm p B) (hB : B < 1000000000) : tl p.normal 1:=ct0 (d46 h hB) (Nat.le_refl _)
theorem ch6 {p q : T3} {B C : Nat} (hp : si p B) (hq : si q C) : ∃ z : Int,p.dot q = (z : Rat) ∧ z.natAbs ≤ 3 * (B * C):=by
 obtain ⟨a,b,c,rfl,h3,h4,h5⟩:=hp
 obtain ⟨a',b',c',rfl,h3',h4',h5'⟩:=hq
 have q1:=X7 h3 h3'
 have q2:=X7 h4 h4'
 have q3:=X7 h5 h5'
 exact ⟨a * a' + b * b' + c * c',by simp only [T3.dot,Rat.intCast_add,Rat.intCast_mul],by omega⟩
def mi (m : M3) (B : Nat) : Prop:=si m.a B ∧ si m.b B ∧ si m.c B
theorem aj5 {m : M3} {p : T3} {B C : Nat} (hm : mi m B) (hp : si p C) : si (m.apply p) (3 * (B * C)):=by
 obtain ⟨x,ex,hx⟩:=ch6 hm.1 hp
 obtain ⟨y,ey,hy⟩:=ch6 hm.2.1 hp
 obtain ⟨z,ez,hz⟩:=ch6 hm.2.2 hp
 exact ⟨x,y,z,by unfold M3.apply; rw [ex,ey,ez],hx,hy,hz⟩
theorem bd6 (a : Nat → Int) : mi (ai8 a) 3:=by
 have h : ∀ i,(y5 (a i)).natAbs ≤ 3:=fun i=>by have:=W7 (a i); omega
 unfold ai8
 split
 ·exact ⟨⟨1,0,0,rfl,by decide,by decide,by decide⟩,⟨0,1,0,rfl,by decide,by decide,by decide⟩,⟨0,0,1,rfl,by decide,by decide,by decide⟩⟩
 exact ⟨⟨_,_,_,rfl,h 0,h 1,h 2⟩,⟨_,_,_,rfl,h 3,h 4,h 5⟩,⟨_,_,_,rfl,h 6,h 7,h 8⟩⟩
theorem ca8 {p : T3} {B : Nat} (h : si p B) (hB : B < 1000000000) (hn : ¬ p.None) : D9 p = 0:=ac5 (h.tl hB) (by decide) hn
abbrev ah8 (x : Value) (m : M3) : Gh:=ai1 x m
abbrev cp0 (v : Value) (l : List M3) : Gh:=b34 true 27 ah8 v l
open Classical in
noncomputable def an0 (l : List Rat) : Int:=if af4 l then 60 else if am6 l then 11 else 0
theorem b23 {l : List Rat} (h : an0 l = 0) : ¬ af4 l ∧ ¬ am6 l:=by
 unfold an0 at h
 split at h
 ·omega
 split at h
 ·omega
 exact ⟨‹_›,‹_›⟩
theorem ao8 {S : Nat → Prop} {w : World} {v : Value} {l : List Rat} (ht : Tab w) (hS : Up S w) (h : SeqV true 3 W5 S w v l) (hl : ∀ x ∈ l,rl x 1000000) (hb : an0 l = 0) : Gives prog 95 [v] w fun v' w'=>v' = .tuple #[] ∧ Ext w w':=
 ax2 ht hS h hl (b23 hb).1 (b23 hb).2
theorem b54 {S : Nat → Prop} {w : World} {v : Value} {l : List Rat} (ht : Tab w) (hS : Up S w) (h : SeqV true 3 W5 S w v l) (hl : ∀ x ∈ l,rl x 1000000) (hb : ¬ an0 l = 0) : Pan prog 95 [v] w (I8 (an0 l)):=by
 unfold an0 at hb ⊢
 by_cases h1 : af4 l
 ·rw [if_pos h1]; exact bl1 hS h h1
 rw [if_neg h1] at hb ⊢
 by_cases h2 : am6 l
 ·rw [if_pos h2]; exact be6 ht hS h hl h1 h2
 rw [if_neg h2] at hb; exact absurd rfl hb
noncomputable def O2 (m : M3) : Int:=if an0 m.list = 0 then (if m.det = 0 then 60 else 0) else an0 m.list
def M3.at (l : List M3) (i : Nat) : M3:=l.getD i ⟨⟨0,0,0⟩,⟨0,0,0⟩,⟨0,0,0⟩⟩
theorem M3.at_get {l : List M3} {j : Nat} (h : j < l.length) : l[j]? = some (M3.at l j):=by unfold M3.at; rw [List.getD_eq_getElem?_getD,List.getElem?_eq_getElem h]; rfl
theorem aw3 {m : M3} (h : O2 m = 0) : an0 m.list = 0 ∧ m.det ≠ 0:=by
 unfold O2 at h
 split at h
 ·split at h
  ·omega
  exact ⟨‹_›,‹_›⟩
 exact absurd h ‹_›
theorem aj0 {base : Bs} {hp : List HE} {β : Nat → Nat} {w : World} {s n : Nat} (i : Nat) (T : TypeId) (vs : List Value) (hM : Mem base hp β w) (hb : nth hp i = some (.blk T (vs.map (Ch.ag s)))) (hl : ∀ x ∈ vs,M2 true s x) (hn : vs.length = n) (hm : n ≤ maxLen) :
  ∃ S' T',Row S' T' s w (.slice (some ⟨β i,0,none⟩) n n) n (A3 vs) ∧ ∀ u ∈ A3 vs,u.oneCell' = true:=by
 rw [M5] at hb
 obtain ⟨hB,hok⟩:=hM.blk i T _ hb
 rw [aj7] at hB
 have ho : Own 0 T s w (.slice (some ⟨β i,0,none⟩) n n) n (A3 vs):=ak2 hB (Nat.zero_le _) hm (by rw [R2 hl,hn])
 obtain ⟨S',hr⟩:=bd3 ho
 exact ⟨S',T,hr,by rw [← aj7 (β:=β) (n:=s)]; exact S9 hok⟩
section
variable {S : Nat → Prop} {w : World} {m : M3} {a1 a2 a3 b1 b2 b3 c1 c2 c3 : Value}
theorem MapC.la (h : MapC S w m a1 a2 a3 b1 b2 b3 c1 c2 c3) : ∀ x ∈ [a1,a2,a3],M2 true 3 x:=fun x hx=>h.els.lies x (by simp only [List.mem_cons,List.not_mem_nil,or_false] at hx ⊢; rcases hx with h1 | h1 | h1 <;> simp [h1])
theorem MapC.lb (h : MapC S w m a1 a2 a3 b1 b2 b3 c1 c2 c3) : ∀ x ∈ [b1,b2,b3],M2 true 3 x:=fun x hx=>h.els.lies x (by simp only [List.mem_cons,List.not_mem_nil,or_false] at hx ⊢; rcases hx with h1 | h1 | h1 <;> simp [h1])
theorem MapC.lc (h : MapC S w m a1 a2 a3 b1 b2 b3 c1 c2 c3) : ∀ x ∈ [c1,c2,c3],M2 true 3 x:=fun x hx=>h.els.lies x (by simp only [List.mem_cons,List.not_mem_nil,or_false] at hx ⊢; rcases hx with h1 | h1 | h1 <;> simp [h1])
end
theorem d60 (a1 a2 a3 b1 b2 b3 c1 c2 c3 : Value) : ([] ++ A3 [a1,a2,a3]) ++ A3 [b1,b2,b3] ++ A3 [c1,c2,c3] = A3 [a1,a2,a3,b1,b2,b3,c1,c2,c3]:=by simp [A3]
theorem dl9 {base : Bs} {hp : List HE} {β : Nat → Nat} {S : Nat → Prop} {w : World} {m : M3} {x v : Value} {T : TypeId} (hM : Mem base hp β w) (hb : nth hp 0 = some (.row T 3 v 9 (([] ++ A3 [(cel x 0 3),(cel x 3 3),(cel x 6 3)]) ++ A3 [(cel x 9 3),(cel x 12 3),(cel x 15 3)] ++ A3 [(cel x 18 3),(cel x 21 3),(cel x 24 3)]))) (h : MapC S w m (cel x 0 3) (cel x 3 3) (cel x 6 3) (cel x 9 3) (cel x 12 3) (cel x 15 3) (cel x 18 3) (cel x 21 3) (cel x 24 3)) :
  SeqV true 3 W5 (fun k=>S k ∨ some k = v.ownBlock) w v m.list:=by
 rw [d60] at hb
 exact h.els.seq (a01 hb hM) rfl
theorem au1 {S : Nat → Prop} {w : World} {v : Value} {l : List M3} {k : Nat} (ht : Tab w) (hS : Up S w) (h : SeqV true 27 ah8 S w v l) (hl : ∀ m ∈ l,ml m k) (hk2 : 40 * k + 40 ≤ 3344) (hk : ∀ m ∈ l,O2 m = 0) : Gives prog 70 [v] w fun v' w'=>v' = .tuple #[] ∧ Ext w w':=by
 have hmx:=h.len_le
 unfold maxLen at hmx
 refine n8 (E:=env) (S0:=S) (G:=(cp0 v l)) (l:=[.one (.sl v l.length)]) func70 rfl rfl rfl ⟨h.sl,trivial⟩ rfl h ?_
 refine ad5 (ι:=Nat) [(3,4),(6,6),(9,27)] (fun j=>[(9,.one (.int .i64 (j : Int)))]) (fun _=>[]) (fun j=>(cp0 v l)) (fun j=>j ≤ l.length) (fun j=>l.length - j) (0) ⟨b9,hS,j6⟩ (by kernel_rfl) (by kernel_rfl) (fun β=>(by kernel_rfl)) (fun β=>(by kernel_rfl)) (by kernel_rfl) (Nat.zero_le _) (fun S w hw hG=>⟨B5 rfl,fun p hp=>by cases hp⟩) (fun S w hw hG=>hG) (fun hso j hj=>?_)
 refine Z8 (p:=(j : Int) < (l.length : Int)) (fun hlt=>?_) (fun hlt=>?_)
 ·have hlt' : j < l.length:=by omega
  have hx0:=M3.at_get hlt'
  have hm:=List.mem_of_getElem? hx0
  obtain ⟨e1,e3⟩:=aw3 (hk _ hm)
  refine dq0 (T:=41) (s:=3) ?_
  refine o5 (bf5 v l.length (j : Int) 63 27 (fun u0=>atG true 27 (fun x0=>ai1 x0 ((M3.at l j))) u0) (by kernel_rfl) ⟨b9,hS,j6⟩ (fun β S w hM hw hG=>hG.el rfl rfl hx0) ?_)
  intro u_1
  refine o5 (bg8 u_1 63 27 true (fun x0=>.agg [.ag 3 (cel x0 0 3),.ag 3 (cel x0 3 3),.ag 3 (cel x0 6 3),.ag 3 (cel x0 9 3),.ag 3 (cel x0 12 3),.ag 3 (cel x0 15 3),.ag 3 (cel x0 18 3),.ag 3 (cel x0 21 3),.ag 3 (cel x0 24 3)]) (fun x0=>ai1 x0 ((M3.at l j))) (by kernel_rfl) ⟨b9,hS,j6⟩ (fun S w hw hG=>hG.1) (fun _ _ _ h=>bl4 h) ?_)
  intro x
  refine n9 ?_
  refine o5 (a62 (cs:=[]) 0 (.slice none 0 0) 0 (.win 2 0 3 3) 41 3 56 3 (A3 [(cel x 0 3),(cel x 3 3),(cel x 6 3)]) (by kernel_rfl) (by kernel_rfl) ⟨b9,hS,j6⟩ (by decide) (by decide) (by decide) (fun β S w hM hw hG=>aj0 2 42 [(cel x 0 3),(cel x 3 3),(cel x 6 3)] hM (by kernel_rfl) hG.1.2.la rfl (by decide)) ?_)
  intro v1
  refine n9 ?_
  refine o5 (a62 (cs:=([] ++ A3 [(cel x 0 3),(cel x 3 3),(cel x 6 3)])) 0 v1 3 (.win 3 0 3 3) 41 3 56 3 (A3 [(cel x 9 3),(cel x 12 3),(cel x 15 3)]) (by kernel_rfl) (by kernel_rfl) ⟨b9,hS,j6⟩ (by decide) (by decide) (by decide) (fun β S w hM hw hG=>aj0 3 42 [(cel x 9 3),(cel x 12 3),(cel x 15 3)] hM (by kernel_rfl) hG.1.2.lb rfl (by decide)) ?_)
  intro v2
  refine n9 ?_
  refine o5 (a62 (cs:=(([] ++ A3 [(cel x 0 3),(cel x 3 3),(cel x 6 3)]) ++ A3 [(cel x 9 3),(cel x 12 3),(cel x 15 3)])) 0 v2 6 (.win 4 0 3 3) 41 3 56 3 (A3 [(cel x 18 3),(cel x 21 3),(cel x 24 3)]) (by kernel_rfl) (by kernel_rfl) ⟨b9,hS,j6⟩ (by decide) (by decide) (by decide) (fun β S w hM hw hG=>aj0 4 42 [(cel x 18 3),(cel x 21 3),(cel x 24 3)] hM (by kernel_rfl) hG.1.2.lc rfl (by decide)) ?_)
  intro v3
  refine n9 ?_
  refine O6 (.und) rfl (fun β S w hS hM hs hw hG=>have hx:=hG.1; (kx (ao8 (ht.to hw) (x9 hS) (dl9 (T:=41) (v:=v3) hM (by kernel_rfl) hx.2) (fun x hx=>j9 (al2 (hl _ hm) x hx)) e1))) ?_
  refine B0 (fun x0=>.one (.ag 3 x0)) (fun x0=>l6 x0 ((M3.at l j).det)) (fun _ _ _ h=>⟨h.ok,rfl⟩) (fun β S w hS hs hw hG=>(kx (ch4 hS hG.1.2.map (hl _ hm) hk2))) ?_
  intro d
  refine B6 (.one (.tp ((M3.at l j).det = 0))) rfl (fun β S w hS hs hw hG=>(kx (F8 hS hG.1))) ?_
  refine ad2 (p:=(M3.at l j).det = 0) (e3) ?_
  refine am7 (ps:=[InR .i64 ((j : Int) + 1)]) (by simp only [K7,InR,and_true]; omega) ?_
  exact Y0 (j + 1) ⟨b9,hS,j6⟩ hso (by kernel_rfl) (by kernel_rfl) (fun β=>(by kernel_rfl)) (fun β=>(by kernel_rfl)) (by kernel_rfl) (by omega) (by omega) (fun S w hw hG=>⟨B5 rfl,fun p hp=>by cases hp⟩) (fun S w hw hG=>hG.2.2.2)
 refine ag6 ?_
 exact o6 (.tuple #[]) rfl (fun S w hs hw hG=>⟨rfl,hw⟩)
theorem dk3 {S : Nat → Prop} {w : World} {v : Value} {l : List M3} {n k : Nat} (ht : Tab w) (hS : Up S w) (h : SeqV true 27 ah8 S w v l) (hl : ∀ m ∈ l,ml m k) (hk2 : 40 * k + 40 ≤ 3344) (hn : n < l.length) (hb : O2 (M3.at l n) ≠ 0) (hk : ∀ i,i < n → O2 (M3.at l i) = 0) : Pan prog 70 [v] w (I8 (O2 (M3.at l n))):=by
 have hmx:=h.len_le
 unfold maxLen at hmx
 refine L8 (E:=env) (S0:=S) (G:=(cp0 v l)) (l:=[.one (.sl v l.length)]) func70 rfl rfl rfl ⟨h.sl,trivial⟩ rfl h ?_
 refine ad5 (ι:=Nat) [(3,4),(6,6),(9,27)] (fun j=>[(9,.one (.int .i64 (j : Int)))]) (fun _=>[]) (fun j=>(cp0 v l)) (fun j=>j ≤ n) (fun j=>n - j) (0) ⟨b9,hS,j6⟩ (by kernel_rfl) (by kernel_rfl) (fun β=>(by kernel_rfl)) (fun β=>(by kernel_rfl)) (by kernel_rfl) (Nat.zero_le _) (fun S w hw hG=>⟨B5 rfl,fun p hp=>by cases hp⟩) (fun S w hw hG=>hG) (fun hso j hj=>?_)
 have hlt' : j < l.length:=by omega
 refine W0 (p:=(j : Int) < (l.length : Int)) (by omega) ?_
 have hx0:=M3.at_get hlt'
 have hm:=List.mem_of_getElem? hx0
 refine dq0 (T:=41) (s:=3) ?_
 refine o5 (bf5 v l.length (j : Int) 63 27 (fun u0=>atG true 27 (fun x0=>ai1 x0 ((M3.at l j))) u0) (by kernel_rfl) ⟨b9,hS,j6⟩ (fun β S w hM hw hG=>hG.el rfl rfl hx0) ?_)
 intro u_1
 refine o5 (bg8 u_1 63 27 true (fun x0=>.agg [.ag 3 (cel x0 0 3),.ag 3 (cel x0 3 3),.ag 3 (cel x0 6 3),.ag 3 (cel x0 9 3),.ag 3 (cel x0 12 3),.ag 3 (cel x0 15 3),.ag 3 (cel x0 18 3),.ag 3 (cel x0 21 3),.ag 3 (cel x0 24 3)]) (fun x0=>ai1 x0 ((M3.at l j))) (by kernel_rfl) ⟨b9,hS,j6⟩ (fun S w hw hG=>hG.1) (fun _ _ _ h=>bl4 h) ?_)
 intro x
 refine n9 ?_
 refine o5 (a62 (cs:=[]) 0 (.slice none 0 0) 0 (.win 2 0 3 3) 41 3 56 3 (A3 [(cel x 0 3),(cel x 3 3),(cel x 6 3)]) (by kernel_rfl) (by kernel_rfl) ⟨b9,hS,j6⟩ (by decide) (by decide) (by decide) (fun β S w hM hw hG=>aj0 2 42 [(cel x 0 3),(cel x 3 3),(cel x 6 3)] hM (by kernel_rfl) hG.1.2.la rfl (by decide)) ?_)
 intro v1
 refine n9 ?_
 refine o5 (a62 (cs:=([] ++ A3 [(cel x 0 3),(cel x 3 3),(cel x 6 3)])) 0 v1 3 (.win 3 0 3 3) 41 3 56 3 (A3 [(cel x 9 3),(cel x 12 3),(cel x 15 3)]) (by kernel_rfl) (by kernel_rfl) ⟨b9,hS,j6⟩ (by decide) (by decide) (by decide) (fun β S w hM hw hG=>aj0 3 42 [(cel x 9 3),(cel x 12 3),(cel x 15 3)] hM (by kernel_rfl) hG.1.2.lb rfl (by decide)) ?_)
 intro v2
 refine n9 ?_
 refine o5 (a62 (cs:=(([] ++ A3 [(cel x 0 3),(cel x 3 3),(cel x 6 3)]) ++ A3 [(cel x 9 3),(cel x 12 3),(cel x 15 3)])) 0 v2 6 (.win 4 0 3 3) 41 3 56 3 (A3 [(cel x 18 3),(cel x 21 3),(cel x 24 3)]) (by kernel_rfl) (by kernel_rfl) ⟨b9,hS,j6⟩ (by decide) (by decide) (by decide) (fun β S w hM hw hG=>aj0 4 42 [(cel x 18 3),(cel x 21 3),(cel x 24 3)] hM (by kernel_rfl) hG.1.2.lc rfl (by decide)) ?_)
 intro v3
 refine n9 ?_
 by_cases e : j = n
 ·by_cases e1 : an0 (M3.at l j).list = 0
  ·refine O6 (.und) rfl (fun β S w hS hM hs hw hG=>have hx:=hG.1; (kx (ao8 (ht.to hw) (x9 hS) (dl9 (T:=41) (v:=v3) hM (by kernel_rfl) hx.2) (fun x hx=>j9 (al2 (hl _ hm) x hx)) e1))) ?_
   refine B0 (fun x0=>.one (.ag 3 x0)) (fun x0=>l6 x0 ((M3.at l j).det)) (fun _ _ _ h=>⟨h.ok,rfl⟩) (fun β S w hS hs hw hG=>(kx (ch4 hS hG.1.2.map (hl _ hm) hk2))) ?_
   intro d
   refine B6 (.one (.tp ((M3.at l j).det = 0))) rfl (fun β S w hS hs hw hG=>(kx (F8 hS hG.1))) ?_
   have e2 : (M3.at l j).det = 0:=by
    refine Classical.byContradiction fun g=>hb ?_
    rw [← e]
    unfold O2
    rw [if_pos e1,if_neg g]
   have e3 : O2 (M3.at l n) = 60:=by
    rw [← e]
    unfold O2
    rw [if_pos e1,if_pos e2]
   rw [e3]
   refine W0 (p:=(M3.at l j).det = 0) (e2) ?_
   exact bt8 ⟨b9,hS,j6⟩ (by kernel_rfl) (by kernel_rfl) (fun β S w hS hM hs hw hG=>(kx (bu7 (ac2 (e:=60)) (fun w' hk' ρ=>⟨rfl,hw.trans hk'⟩))))
  have e2 : O2 (M3.at l n) = an0 (M3.at l j).list:=by
   rw [← e]
   unfold O2
   rw [if_neg e1]
  rw [e2]
  exact bt8 ⟨b9,hS,j6⟩ (by kernel_rfl) (by kernel_rfl) (fun β S w hS hM hs hw hG=>have hx:=hG.1; (kx (bu7 (b54 (ht.to hw) (x9 hS) (dl9 (T:=41) (v:=v3) hM (by kernel_rfl) hx.2) (fun x hx=>j9 (al2 (hl _ hm) x hx)) e1) (fun w' hk' ρ=>⟨rfl,hw.trans hk'⟩))))
 obtain ⟨e1,e3⟩:=aw3 (hk j (by omega))
 refine O6 (.und) rfl (fun β S w hS hM hs hw hG=>have hx:=hG.1; (kx (ao8 (ht.to hw) (x9 hS) (dl9 (T:=41) (v:=v3) hM (by kernel_rfl) hx.2) (fun x hx=>j9 (al2 (hl _ hm) x hx)) e1))) ?_
 refine B0 (fun x0=>.one (.ag 3 x0)) (fun x0=>l6 x0 ((M3.at l j).det)) (fun _ _ _ h=>⟨h.ok,rfl⟩) (fun β S w hS hs hw hG=>(kx (ch4 hS hG.1.2.map (hl _ hm) hk2))) ?_
 intro d
 refine B6 (.one (.tp ((M3.at l j).det = 0))) rfl (fun β S w hS hs hw hG=>(kx (F8 hS hG.1))) ?_
 refine ad2 (p:=(M3.at l j).det = 0) (e3) ?_
 refine am7 (ps:=[InR .i64 ((j : Int) + 1)]) (by simp only [K7,InR,and_true]; omega) ?_
 exact Y0 (j + 1) ⟨b9,hS,j6⟩ hso (by kernel_rfl) (by kernel_rfl) (fun β=>(by kernel_rfl)) (fun β=>(by kernel_rfl)) (by kernel_rfl) (by omega) (by omega) (fun S w hw hG=>⟨B5 rfl,fun p hp=>by cases hp⟩) (fun S w hw hG=>hG.2.2.2)
theorem c86 {l : List Rat} : af4 l ↔ ∀ x ∈ l,x = 0:=by
 unfold af4
 constructor
 ·intro h x hx
  exact Classical.byContradiction fun g=>h ⟨x,hx,g⟩
 rintro h ⟨x,hx,g⟩
 exact g (h x hx)
theorem cx3 {m : M3} {n : Nat} (h : ml m n) (hn : n ≤ 4) : O2 m = if m.det = 0 then 60 else 0:=by
 have hL : ¬ am6 m.list:=by
  rintro ⟨x,hx,hl⟩
  exact bh1 (al2 h x hx) hn hl
 unfold O2 an0
 by_cases h1 : af4 m.list
 ·have e:=c86.1 h1
  have hd : m.det = 0:=be3 ⟨e m.a.x (by simp [M3.list]),e m.a.y (by simp [M3.list]),e m.a.z (by simp [M3.list])⟩
  rw [if_pos h1,if_neg (by decide),if_pos hd]
 rw [if_neg h1,if_neg hL,if_pos rfl]
def Y6 : List Value:=[.bool false,.slice none 0 0,.slice none 0 0,.bool false,.slice none 0 0,.slice none 0 0,.bool false,.slice none 0 0,.slice none 0 0,.bool false,.slice none 0 0,.slice none 0 0,.bool false,.slice none 0 0,.slice none 0 0,.bool false,.slice none 0 0,.slice none 0 0,.bool false,.slice none 0 0,.slice none 0 0,.bool false,.slice none 0 0,.slice none 0 0,.bool false,.slice none 0 0,.slice none 0 0]
theorem bk3 : ∀ v ∈ Y6,v.oneCell' = true:=by
 intro v hv
 simp only [Y6,List.mem_cons,List.not_mem_nil,or_false] at hv
 rcases hv with rfl | rfl | rfl | rfl | rfl | rfl | rfl | rfl | rfl | rfl | rfl | rfl | rfl | rfl | rfl | rfl | rfl | rfl | rfl | rfl | rfl | rfl | rfl | rfl | rfl | rfl | rfl <;> rfl
theorem b83 {w : World} {g1 g2 : Nat} : GivesD prog 130 [.pointer (some ⟨g1,0,none⟩),.pointer (some ⟨g2,0,none⟩)] .returning w fun u' w'=>u' = .returning ∧ w' = w:=by
 refine E8 func130 rfl rfl rfl rfl rfl (.inl ⟨rfl,rfl,rfl⟩) ?_
 repeat (first | refine O9 rfl ?_ | refine wW ?_ | refine wp_skip ?_ | refine wp_cond_false rfl ?_)
 exact ⟨[],rfl,rfl,rfl⟩
theorem b45 {w : World} {g1 g2 : Nat} {cs1 : List Value} {e : Value} {E : Int} (h1 : Blk w g1 63 cs1) (hl : cs1.length = 27) (h2 : Blk w g2 44 [e]) :
  GivesD prog 130 [.pointer (some ⟨g1,0,none⟩),.pointer (some ⟨g2,0,none⟩)] (.panicking (I8 E)) w fun u' w'=>settle u' = .returning ∧
   Keeps (fun k=>k ≠ g1 ∧ k ≠ g2) w w' ∧ Blk w' g1 63 Y6 ∧ Blk w' g2 44 [.int .i64 E]:=by
 have hne : g1 ≠ g2:=h1.ne h2 (by decide)
 refine E8 func130 rfl rfl rfl rfl rfl (.inr ⟨_,rfl,rfl,rfl⟩) ?_
 repeat (first | refine aa0 rfl ?_ | refine ap1 rfl ?_ | refine wW ?_ | refine B4 rfl rfl ?_ | refine wp_cond_true rfl ?_)
 refine q8 (cs:=[.int .i64 0]) rfl ?_
 intro w1 g3 k1 hg3 hgs3
 have hl1:=h1.lt
 have hl2:=h2.lt
 refine z8 (us:=[.int .i64 E]) rfl (by conv=>(lhs; whnf)) rfl rfl hg3 rfl (fun v hv=>by rw [List.mem_singleton.1 hv]; rfl) ?_
 intro w2 k2 hg32
 repeat (first | refine av0 rfl ?_ | refine wW ?_ | refine d7 ?_ | refine wp_skip ?_ | refine wp_cond_false rfl ?_)
 refine q8 (cs:=Y6) rfl ?_
 intro w3 g5 k3 hg5 hgs5
 have k : Ext w w3:=(Keeps.past k1 k2 hgs3).trans k3
 have hg33:=hg32.to k3
 have hl3:=hg32.lt
 repeat refine wW ?_
 refine aj3 (R:=OneW g1 63 cs1 Y6) 4 OneW.trans OneW.drew (by kernel_rfl) (by kernel_rfl) ?_
 apply D4
 ·intro x w1 k1 hd
  refine n7 rfl (hg5.wr k1.1 (by omega)) rfl ?_
  refine b8 ?_
  exact N5 OneW.refl
 apply D4
 ·intro x w1 k1 hd
  refine j5 rfl ?_
  refine b8 ?_
  exact N5 OneW.refl
 apply D4
 ·intro x w1 k1 hd
  refine f5 rfl (hg33.wr k1.1 (by omega)) rfl ?_
  refine b8 ?_
  exact N5 OneW.refl
 refine D4 (e:=EntR.of (fun v w=>Blk w g1 63 Y6) (fun v w w' h k=>k.2.2 h)) ?_ ?_
 ·intro x w1 k1 hd
  rcases k1.2.1 (.inl (h1.to k)) with hgx | hgx
  ·refine z8 (us:=Y6) rfl (by conv=>(lhs; whnf)) rfl rfl hgx hl bk3 ?_
   intro w12 k12 hg12
   exact b8 (R8 (OneW.wrote k12 hg12) hg12)
  refine z8 (us:=Y6) rfl (by conv=>(lhs; whnf)) rfl rfl hgx rfl bk3 ?_
  intro w12 k12 hg12
  exact b8 (R8 (OneW.wrote k12 hg12) hg12)
 refine az5 (a29 ?_)
 intro x w12 k12 hall
 have h14 : Blk w12 g1 63 Y6:=hall.1
 refine J4 (u:=.int .i64 E) rfl rfl ((h2.to k).wr k12.1 (fun e=>hne e.symm)) (show 0 < 1 by decide) rfl ?_
 intro w5 k5 h25
 repeat (first | refine b8 ?_)
 refine ⟨[],rfl,rfl,?_,h14.wr k5 hne,h25⟩
 exact ((Keeps.of k).trans (k12.1.mono fun i hi=>hi.1)).trans (k5.mono fun i hi=>hi.2)
theorem bg5 {S : Nat → Prop} {w : World} {F : FuncId} [ci : CallI prog F] {cap : List Value} {t : M3} {E : Int} {Y Z : Prop} (hS : Up S w)
  (h : ∀ S' w',Up S' w' → Ext w w' → (∀ k,S' k → S k) → (∀ k,k < w.heap.size → S k → S' k) → GivesE prog F cap w' (fun v w''=>Ext w' w'' ∧ MapV S' w'' v t ∧ Y) fun ch w''=>ch = I8 E ∧ Ext w' w'' ∧ Z) :
  Gives prog 86 [.func (.func F) #[] cap.toArray] w fun v' w'=>Ext w w' ∧ ((∃ x,v' = .tuple #[x,.int .i64 0] ∧ MapV S w' x t ∧ Y) ∨ (v' = .tuple #[.agg Y6.toArray,.int .i64 E] ∧ Z)):=by
 refine P6 func86 rfl rfl rfl ?_
 refine az6 ?_
 repeat (first | refine Z0 ?_)
 refine q8 (cs:=Y6) rfl ?_
 intro w1 g1 k1 hg1 hgs1
 skip
 refine q8 (cs:=[.int .i64 0]) rfl ?_
 intro w2 g2 k2 hg2 hgs2
 have hgl:=hg1.lt
 have hgl2:=hg2.lt
 replace hg1:=hg1.to k2
 have k:=k1.trans k2
 have hk1:=k1.size
 have hk2:=k2.size
 have hS2 : Up (fun k=>S k ∧ k ≠ g1 ∧ k ≠ g2) w2:=fun i hi=>⟨hS i (by omega),by omega,by omega⟩
 have hc:=h (fun k=>S k ∧ k ≠ g1 ∧ k ≠ g2) w2 hS2 k (fun _ h=>h.1) (fun i hi hs=>⟨hs,by omega,by omega⟩)
 repeat refine wW ?_
 refine S3 ?_
 refine ay8 ?_ (fun e a ρ w hm hq=>ap0 hm hq)
 repeat refine wW ?_
 refine aq0 (first:=[]) (cap:=cap) rfl hc rfl ?_ ?_
 ·rintro v3 w3 ⟨k3,hf,hy⟩
  obtain ⟨us,hv,hul,hu1⟩:=hf.ok
  skip
  refine z8 (us:=us) rfl (by conv=>(lhs; whnf)) (by rw [hv]; rfl) hul (hg1.to k3) rfl hu1 ?_
  intro w4 k4 hg4
  have hg24:=(hg2.to k3).wr k4 (by omega)
  refine J4 (u:=.int .i64 0) rfl rfl hg24 (show 0 < 1 by decide) rfl ?_
  intro w5 k5 hg5
  have hg45:=hg4.wr k5 (by omega)
  repeat refine wW ?_
  refine b83.mono ?_
  rintro u' w' ⟨rfl,rfl⟩
  refine ⟨rfl,[.agg us.toArray,.int .i64 0],⟨_,_,n6 hg45 hul,⟨_,_,N1 (by conv=>(lhs; whnf)) hg5,rfl,rfl⟩,rfl⟩,?_⟩
  refine ⟨((Keeps.past (k.trans k3) k4 (by omega)).past k5 (by omega)),.inl ⟨_,rfl,?_,hy⟩⟩
  rw [← hv]
  exact ((hf.keep (k4.mono fun i hi=>hi.2.1)).keep (k5.mono fun i hi=>hi.2.2)).mono fun i _ hi=>hi.1
 rintro ch w3 ⟨rfl,k3,hf⟩
 refine L3 ?_
 refine (b45 (hg1.to k3) rfl (hg2.to k3)).mono ?_
 rintro u' w' ⟨hu,k4,h1,h2⟩
 refine ⟨hu,[.agg Y6.toArray,.int .i64 E],⟨_,_,n6 h1 rfl,⟨_,_,N1 (by conv=>(lhs; whnf)) h2,rfl,rfl⟩,rfl⟩,?_⟩
 exact ⟨Keeps.later (k.trans k3) k4 (fun i hi _=>⟨by omega,by omega⟩),.inr ⟨rfl,hf⟩⟩
structure C6 where
 a : Rat
 b : Rat
 c : Rat
 f : Rat
 g : Rat
 h : Rat
def cl (k : C6) (n : Nat) : Prop:=rl k.a n ∧ rl k.b n ∧ rl k.c n ∧ rl k.f n ∧ rl k.g n ∧ rl k.h n
section
variable {S S' : Nat → Prop} {w w' : World} {v : Value} {k : C6} {c1 c2 c3 c4 c5 c6 : Value}
end
section
variable {S S' : Nat → Prop} {w w' : World} {v : Value} {k : C6} {c1 c2 c3 c4 c5 c6 : Value}
end
abbrev ai2 (u : Value) (m : M3) : Gh:=atG true 27 (fun x=>A4 x m) u
def M3.zero : M3:=⟨⟨0,0,0⟩,⟨0,0,0⟩,⟨0,0,0⟩⟩
theorem c38 {S : Nat → Prop} {w : World} : MapV S w (.agg Y6.toArray) M3.zero:=MapC.map (m:=M3.zero) (a1:=Q4) (a2:=Q4) (a3:=Q4) (b1:=Q4) (b2:=Q4) (b3:=Q4) (c1:=Q4) (c2:=Q4) (c3:=Q4) ⟨y6,y6,y6,y6,y6,y6,y6,y6,y6⟩
abbrev am8 (v : Value) (t : M3) (e : Int) : Gh:=⟨fun S w=>v = .tuple #[A8 v,.int .i64 e] ∧ MapV S w (A8 v) t,fun h k=>⟨h.1,(A4 _ t).keep h.2 k⟩,fun h k=>⟨h.1,(A4 _ t).mono h.2 k⟩⟩
theorem bc3 {v : Value} {t : M3} {S : Nat → Prop} {w : World} (h : (am8 v t 0).p S w) : (pr (.ag 27 (A8 v)) (.lit .i64 0)).Ok 0 ∧ (pr (.ag 27 (A8 v)) (.lit .i64 0)).den (fun _=>0) = v:=⟨bq2 h.2.ok trivial,h.1.symm⟩
theorem dv1 {S : Nat → Prop} {w : World} (F : FuncId) [ci : CallI prog F] (cap : List Value) {t : T3} {E : Int} (hS : Up S w) (h0 : E = 0 → bb0 S w fun S' w'=>Gives prog F cap w' fun v w''=>Ext w' w'' ∧ TripV S' w'' v t) (h1 : ¬ E = 0 → bb0 S w fun S' w'=>Pan prog F cap w' (I8 E)) :
  Gives prog 38 [.func (.func F) #[] cap.toArray] w fun v' w'=>Ext w w' ∧ (F2 v' (if E = 0 then t else ⟨0,0,0⟩) E).p S w':=by
 by_cases e : E = 0
 ·refine (ax6 (F:=F) (cap:=cap) (t:=t) (E:=0) (Y:=True) (Z:=False) hS fun S' w' hS' k' hs hs'=>Gives.toE ((h0 e S' w' hS' k' hs hs').mono fun v w'' h=>⟨h.1,h.2,trivial⟩)).mono ?_
  rintro v' w' ⟨k',⟨x,rfl,h,_⟩ | ⟨rfl,hf⟩⟩
  ·exact ⟨k',by rw [e]; rfl,by rw [if_pos e]; exact h⟩
  exact hf.elim
 refine (ax6 (F:=F) (cap:=cap) (t:=t) (E:=E) (Y:=False) (Z:=True) hS fun S' w' hS' k' hs hs'=>(h1 e S' w' hS' k' hs hs').mono (fun _ _ h=>h.elim) fun ch w'' h=>⟨h.1,h.2,trivial⟩).mono ?_
 rintro v' w' ⟨k',⟨x,rfl,h,hf⟩ | ⟨rfl,_⟩⟩
 ·exact hf.elim
 exact ⟨k',rfl,by rw [if_neg e]; exact b52⟩
theorem d28 {S : Nat → Prop} {w : World} (F : FuncId) [ci : CallI prog F] (cap : List Value) {t : M3} {E : Int} (hS : Up S w) (h0 : E = 0 → bb0 S w fun S' w'=>Gives prog F cap w' fun v w''=>Ext w' w'' ∧ MapV S' w'' v t) (h1 : ¬ E = 0 → bb0 S w fun S' w'=>Pan prog F cap w' (I8 E)) :
  Gives prog 86 [.func (.func F) #[] cap.toArray] w fun v' w'=>Ext w w' ∧ (am8 v' (if E = 0 then t else M3.zero) E).p S w':=by
 by_cases e : E = 0
 ·refine (bg5 (F:=F) (cap:=cap) (t:=t) (E:=0) (Y:=True) (Z:=False) hS fun S' w' hS' k' hs hs'=>Gives.toE ((h0 e S' w' hS' k' hs hs').mono fun v w'' h=>⟨h.1,h.2,trivial⟩)).mono ?_
  rintro v' w' ⟨k',⟨x,rfl,h,_⟩ | ⟨rfl,hf⟩⟩
  ·exact ⟨k',by rw [e]; rfl,by rw [if_pos e]; exact h⟩
  exact hf.elim
 refine (bg5 (F:=F) (cap:=cap) (t:=t) (E:=E) (Y:=False) (Z:=True) hS fun S' w' hS' k' hs hs'=>(h1 e S' w' hS' k' hs hs').mono (fun _ _ h=>h.elim) fun ch w'' h=>⟨h.1,h.2,trivial⟩).mono ?_
 rintro v' w' ⟨k',⟨x,rfl,h,hf⟩ | ⟨rfl,_⟩⟩
 ·exact hf.elim
 exact ⟨k',rfl,by rw [if_neg e]; exact c38⟩
theorem a78 {S : Nat → Prop} {w : World} {x : Value} {m : M3} (h : MapV S w x m) : ElsV true 27 ah8 S w [x] [m]:=⟨rfl,fun y hy=>by rw [List.mem_singleton.1 hy]; exact h.lies,fun i t y h1 h2=>by cases i with | zero=>(simp at h1 h2; subst h1 h2; exact c74 h) | succ i=>simp at h1⟩
theorem dr4 {S : Nat → Prop} {w : World} {x y : Value} {m n : M3} (h : MapV S w x m) (g : MapV S w y n) : ElsV true 27 ah8 S w [x,y] [m,n]:=by
 refine ⟨rfl,fun z hz=>?_,fun i t z h1 h2=>?_⟩
 ·simp only [List.mem_cons,List.not_mem_nil,or_false] at hz
  rcases hz with rfl | rfl
  ·exact h.lies
  exact g.lies
 match i with
 | 0=>simp at h1 h2; subst h1 h2; exact c74 h
 | 1=>simp at h1 h2; subst h1 h2; exact c74 g
 | i + 2=>simp at h1
theorem br8 {S : Nat → Prop} {w : World} {x : Value} {p : T3} (h : TripV S w x p) : ElsV true 9 ay0 S w [x] [p]:=⟨rfl,fun y hy=>by rw [List.mem_singleton.1 hy]; exact h.lies,fun i t y h1 h2=>by cases i with | zero=>(simp at h1 h2; subst h1 h2; exact h) | succ i=>simp at h1⟩
theorem au2 {α : Type} {a : α} {P : α → Prop} (h : P a) : ∀ x ∈ [a],P x:=fun x hx=>by rw [List.mem_singleton.1 hx]; exact h
theorem d27 {m n : M3} {P : M3 → Prop} (h : P m) (g : P n) : ∀ x ∈ [m,n],P x:=fun x hx=>by
 simp only [List.mem_cons,List.not_mem_nil,or_false] at hx
 rcases hx with rfl | rfl
 ·exact h
 exact g
theorem c68 {S : Nat → Prop} {w : World} {v : Value} {m : M3} {k : Nat} (ht : Tab w) (hS : Up S w) (h : SeqV true 27 ah8 S w v [m]) (hl : ml m k) (hk2 : 40 * k + 40 ≤ 3344) (hb : ¬ O2 m = 0) : Pan prog 70 [v] w (I8 (O2 m)):=
 dk3 (l:=[m]) (n:=0) ht hS h (au2 hl) hk2 (Nat.zero_lt_one) hb (fun i hi=>absurd hi (Nat.not_lt_zero _))
theorem bi4 {S : Nat → Prop} {w : World} {v : Value} {p : T3} (ht : Tab w) (hS : Up S w) (h : SeqV true 9 ay0 S w v [p]) (hl : tl p 1000000) (hb : ¬ D9 p = 0) : Pan prog 40 [v] w (I8 (D9 p)):=
 at7 (l:=[p]) (n:=0) ht hS h (au2 hl) (Nat.zero_lt_one) hb (fun i hi=>absurd hi (Nat.not_lt_zero _))
theorem ca3 {m : M3} {p : T3} (h : m.det ≠ 0) (hp : D9 p = 0) : ¬ (m.apply p).None:=fun g=>(a60 hp).1 (at3.2 ((M3.apply_none h).1 g))
theorem dc7 {m : M3} {p : T3} (h : m.det ≠ 0) (hp : D9 p = 0) : ¬ (m.cof.apply p).None:=fun g=>(a60 hp).1 (at3.2 ((M3.cof_none h).1 g))
theorem dp7 {m : M3} {a b : Nat} (h : ml m a) (k : a ≤ b) : ml m b:=⟨bq7 h.1 k,bq7 h.2.1 k,bq7 h.2.2 k⟩
noncomputable def am1 (m : M3) (p : T3) : Int:=if O2 m = 0 then D9 p else O2 m
theorem ci3 {m : M3} {p : T3} (h : am1 m p = 0) : O2 m = 0 ∧ D9 p = 0:=by
 unfold am1 at h
 split at h
 ·exact ⟨‹_›,h⟩
 exact absurd h ‹_›
theorem dg7 {S : Nat → Prop} {w : World} {u : Value} {m : M3} {k : Nat} (ht : Tab w) (hS : Up S w) (o : u.oneCell' = true) (h : (ai2 u m).p S w) (hl : ml m k) (hk2 : 40 * k + 40 ≤ 3344) (e1 : O2 m = 0) :
  Gives prog 69 [u] w fun v' w'=>v' = .bool (tst True) ∧ Ext w w':=by
 refine n8 (E:=env) (S0:=S) (G:=(ai2 u m)) (l:=[.one (.val u)]) func69 rfl rfl rfl ⟨o,trivial⟩ rfl h ?_
 refine o5 (r6 u 63 27 true (fun x0=>.one (.ag 27 x0)) (fun x0=>A4 x0 (m)) (fun β S w hM hw hG=>let ⟨y,e1,e2,e3⟩:=hG; ⟨S,y,e1,e2,e3⟩) ?_)
 intro x
 refine O6 (.und) rfl (fun β S w hS hM hs hw hG=>(kx (au1 (ht.to hw) (x9 hS) (H3 (F:=ah8) (l:=[m]) 0 63 [x] hM (by kernel_rfl) (a78 hG.1) (show 1 ≤ maxLen by decide)) (au2 hl) hk2 (au2 e1)))) ?_
 exact o6 (.bool true) rfl (fun S w hs hw hG=>⟨by rw [m6 trivial],hw⟩)
theorem cr4 {S : Nat → Prop} {w : World} {u1 u2 : Value} {m : M3} {p : T3} {k n q : Nat} (ht : Tab w) (hS : Up S w) (o1 : u1.oneCell' = true) (o2 : u2.oneCell' = true) (h1 : (ai2 u1 m).p S w) (h2 : (D2 u2 p).p S w) (hl : ml m k) (hk2 : 40 * k + 40 ≤ 3344) (hn : tl p n) (hkn : 3 * (k + n + 1) + 1 ≤ 3344) (hq : tl (m.apply p).normal q) (hq2 : q ≤ 3344) (e1 : O2 m = 0) (e2 : D9 p = 0) :
  Gives prog 71 [u1,u2] w fun v' w'=>Ext w w' ∧ TripV S w' v' (m.apply p).normal:=by
 refine n8 (E:=env) (S0:=S) (G:=((ai2 u1 m).and (D2 u2 p))) (l:=[.one (.val u1),.one (.val u2)]) func71 rfl rfl rfl ⟨o1,o2,trivial⟩ rfl ⟨h1,h2⟩ ?_
 refine o5 (r6 u1 63 27 true (fun x0=>.one (.ag 27 x0)) (fun x0=>A4 x0 (m)) (fun β S w hM hw hG=>let ⟨y,e1,e2,e3⟩:=hG.1; ⟨S,y,e1,e2,e3⟩) ?_)
 intro x
 refine O6 (.und) rfl (fun β S w hS hM hs hw hG=>(kx (au1 (ht.to hw) (x9 hS) (H3 (F:=ah8) (l:=[m]) 1 63 [x] hM (by kernel_rfl) (a78 hG.1) (show 1 ≤ maxLen by decide)) (au2 hl) hk2 (au2 e1)))) ?_
 refine o5 (r6 u2 43 9 true (fun x0=>.one (.ag 9 x0)) (fun x0=>o8 x0 (p)) (fun β S w hM hw hG=>let ⟨y,e1,e2,e3⟩:=hG.2.2; ⟨S,y,e1,e2,e3⟩) ?_)
 intro y
 refine O6 (.und) rfl (fun β S w hS hM hs hw hG=>(kx (U9 (ht.to hw) (x9 hS) (H3 (l:=[p]) 2 43 [y] hM (by kernel_rfl) (br8 hG.1) (show 1 ≤ maxLen by decide)) (au2 (F3 hn)) (au2 e2)))) ?_
 refine o5 (r6 u1 63 27 true (fun x0=>.one (.ag 27 x0)) (fun x0=>A4 x0 (m)) (fun β S w hM hw hG=>let ⟨y,e1,e2,e3⟩:=hG.2.2.1; ⟨S,y,e1,e2,e3⟩) ?_)
 intro a
 refine o5 (r6 u2 43 9 true (fun x0=>.one (.ag 9 x0)) (fun x0=>o8 x0 (p)) (fun β S w hM hw hG=>let ⟨y,e1,e2,e3⟩:=hG.2.2.2.2; ⟨S,y,e1,e2,e3⟩) ?_)
 intro b
 refine B0 (fun x0=>.one (.ag 9 x0)) (fun x0=>o8 x0 ((m.apply p))) (fun _ _ _ h=>⟨h.ok,rfl⟩) (fun β S w hS hs hw hG=>(kx (ao1 hS hG.2.1 hG.1 hl hn hkn))) ?_
 intro r
 refine B0 (fun x0=>.one (.ag 9 x0)) (fun x0=>o8 x0 ((m.apply p).normal)) (fun _ _ _ h=>⟨h.ok,rfl⟩) (fun β S w hS hs hw hG=>(kx (ar7 hS hG.1 (ca3 (aw3 e1).2 e2) (F3 (ar4 hl hn)) (bd5 hq hq2)))) ?_
 intro z
 exact o6 (z) rfl (fun S w hs hw hG=>⟨hw,hG.1.mono fun k _ hk=>hs k hk⟩)
theorem ct5 {S : Nat → Prop} {w : World} {u1 u2 : Value} {m : M3} {p : T3} {k n : Nat} (ht : Tab w) (hS : Up S w) (o1 : u1.oneCell' = true) (o2 : u2.oneCell' = true) (h1 : (ai2 u1 m).p S w) (h2 : (D2 u2 p).p S w) (hl : ml m k) (hk2 : 40 * k + 40 ≤ 3344) (hn : tl p n) (hkn : 3 * (k + n + 1) + 1 ≤ 3344) (e0 : ¬ am1 m p = 0) :
  Pan prog 71 [u1,u2] w (I8 (am1 m p)):=by
 refine L8 (E:=env) (S0:=S) (G:=((ai2 u1 m).and (D2 u2 p))) (l:=[.one (.val u1),.one (.val u2)]) func71 rfl rfl rfl ⟨o1,o2,trivial⟩ rfl ⟨h1,h2⟩ ?_
 refine o5 (r6 u1 63 27 true (fun x0=>.one (.ag 27 x0)) (fun x0=>A4 x0 (m)) (fun β S w hM hw hG=>let ⟨y,e1,e2,e3⟩:=hG.1; ⟨S,y,e1,e2,e3⟩) ?_)
 intro x
 by_cases e1 : O2 m = 0
 ·have e : am1 m p = D9 p:=by unfold am1; rw [if_pos e1]
  have e2 : ¬ D9 p = 0:=by rw [← e]; exact e0
  rw [e]
  refine O6 (.und) rfl (fun β S w hS hM hs hw hG=>(kx (au1 (ht.to hw) (x9 hS) (H3 (F:=ah8) (l:=[m]) 1 63 [x] hM (by kernel_rfl) (a78 hG.1) (show 1 ≤ maxLen by decide)) (au2 hl) hk2 (au2 e1)))) ?_
  refine o5 (r6 u2 43 9 true (fun x0=>.one (.ag 9 x0)) (fun x0=>o8 x0 (p)) (fun β S w hM hw hG=>let ⟨y,e1,e2,e3⟩:=hG.2.2; ⟨S,y,e1,e2,e3⟩) ?_)
  intro y
  exact bt8 ⟨b9,hS,j6⟩ (by kernel_rfl) (by kernel_rfl) (fun β S w hS hM hs hw hG=>(kx (Q7 (bi4 (ht.to hw) (x9 hS) (H3 (l:=[p]) 2 43 [y] hM (by kernel_rfl) (br8 hG.1) (show 1 ≤ maxLen by decide)) (F3 hn) e2) hw)))
 have e : am1 m p = O2 m:=by unfold am1; rw [if_neg e1]
 rw [e]
 exact bt8 ⟨b9,hS,j6⟩ (by kernel_rfl) (by kernel_rfl) (fun β S w hS hM hs hw hG=>(kx (Q7 (c68 (ht.to hw) (x9 hS) (H3 (F:=ah8) (l:=[m]) 1 63 [x] hM (by kernel_rfl) (a78 hG.1) (show 1 ≤ maxLen by decide)) hl hk2 e1) hw)))
theorem R3 {S : Nat → Prop} {w : World} {v vp : Value} {m : M3} {p : T3} {k n q : Nat} (ht : Tab w) (hS : Up S w) (h : MapV S w v m) (hp : TripV S w vp p) (hl : ml m k) (hk2 : 40 * k + 40 ≤ 3344) (hn : tl p n) (hkn : 3 * (k + n + 1) + 1 ≤ 3344) (hq : tl (m.apply p).normal q) (hq2 : q ≤ 3344) :
  Gives prog 18 [v,vp] w fun v' w'=>Ext w w' ∧ (F2 v' (if am1 m p = 0 then (m.apply p).normal else ⟨0,0,0⟩) (am1 m p)).p S w':=by
 refine n8 (E:=env) (S0:=S) (G:=((A4 v (m)).and (o8 vp (p)))) (l:=[.one (.ag 27 v),.one (.ag 9 vp)]) func18 rfl rfl rfl ⟨h.ok,hp.ok,trivial⟩ rfl ⟨h,hp⟩ ?_
 refine o5 (K3 0 63 ([.ag 27 v]) (fun u1=>?_))
 refine o5 (K3 1 43 ([.ag 9 vp]) (fun u2=>?_))
 refine B0 (fun x0=>pr (.ag 9 (A8 x0)) (.int .i64 ((am1 m p)))) (fun x0=>F2 x0 ((if am1 m p = 0 then (m.apply p).normal else ⟨0,0,0⟩)) ((am1 m p))) (fun _ _ _ h=>bj8 h) (fun β S w hS hs hw hG=>have h:=hG.2.2.1; (kx (dv1 71 [u1,u2] (t:=(m.apply p).normal) (E:=am1 m p) hS (fun e S' w' hS' k' _ hs'=>cr4 (ht.to (hw.trans k')) hS' (L6 hG.2.1) (L6 hG.1) ((ai2 u1 m).at' (at9 (F:=fun x=>A4 x m) hG.2.1 h.lies h) hs' k') ((D2 u2 p).at' (X8 hG.1 hG.2.2.2) hs' k') hl hk2 hn hkn hq hq2 (ci3 e).1 (ci3 e).2) (fun e S' w' hS' k' _ hs'=>ct5 (ht.to (hw.trans k')) hS' (L6 hG.2.1) (L6 hG.1) ((ai2 u1 m).at' (at9 (F:=fun x=>A4 x m) hG.2.1 h.lies h) hs' k') ((D2 u2 p).at' (X8 hG.1 hG.2.2.2) hs' k') hl hk2 hn hkn e)))) ?_
 intro r
 exact o6 (.tuple #[A8 r,.int .i64 (am1 m p)]) rfl (fun S w hs hw hG=>⟨hw,rfl,hG.1.2.mono fun k _ hk=>hs k hk⟩)
theorem bm7 {S : Nat → Prop} {w : World} {u1 u2 : Value} {m : M3} {p : T3} {k n q : Nat} (ht : Tab w) (hS : Up S w) (o1 : u1.oneCell' = true) (o2 : u2.oneCell' = true) (h1 : (ai2 u1 m).p S w) (h2 : (D2 u2 p).p S w) (hl : ml m k) (hk2 : 40 * k + 40 ≤ 3344) (hn : tl p n) (hkn : 3 * (4 * k + 1 + n + 1) + 1 ≤ 3344) (hq : tl (m.cof.apply p).normal q) (hq2 : q ≤ 3344) (e1 : O2 m = 0) (e2 : D9 p = 0) :
  Gives prog 83 [u1,u2] w fun v' w'=>Ext w w' ∧ TripV S w' v' (m.cof.apply p).normal:=by
 refine n8 (E:=env) (S0:=S) (G:=((ai2 u1 m).and (D2 u2 p))) (l:=[.one (.val u1),.one (.val u2)]) func83 rfl rfl rfl ⟨o1,o2,trivial⟩ rfl ⟨h1,h2⟩ ?_
 refine o5 (r6 u1 63 27 true (fun x0=>.one (.ag 27 x0)) (fun x0=>A4 x0 (m)) (fun β S w hM hw hG=>let ⟨y,e1,e2,e3⟩:=hG.1; ⟨S,y,e1,e2,e3⟩) ?_)
 intro x
 refine O6 (.und) rfl (fun β S w hS hM hs hw hG=>(kx (au1 (ht.to hw) (x9 hS) (H3 (F:=ah8) (l:=[m]) 1 63 [x] hM (by kernel_rfl) (a78 hG.1) (show 1 ≤ maxLen by decide)) (au2 hl) hk2 (au2 e1)))) ?_
 refine o5 (r6 u2 43 9 true (fun x0=>.one (.ag 9 x0)) (fun x0=>o8 x0 (p)) (fun β S w hM hw hG=>let ⟨y,e1,e2,e3⟩:=hG.2.2; ⟨S,y,e1,e2,e3⟩) ?_)
 intro y
 refine O6 (.und) rfl (fun β S w hS hM hs hw hG=>(kx (U9 (ht.to hw) (x9 hS) (H3 (l:=[p]) 2 43 [y] hM (by kernel_rfl) (br8 hG.1) (show 1 ≤ maxLen by decide)) (au2 (F3 hn)) (au2 e2)))) ?_
 refine j7 6 ?_
 refine S8 (fun η=>u1) 63 27 true (fun x0=>.one (.ag 27 x0)) (fun x0=>A4 x0 (m)) ⟨b9,hS,j6⟩ (fun β η S w hM hw hG hd=>let ⟨y,e1,e2,e3⟩:=hG.2.2.1; ⟨S,y,e1,e2,e3⟩) ?_
 refine o9 (fun x0=>.one (.ag 27 x0)) (fun x0=>A4 x0 (m.adj)) (fun β η S w hS hs hw hG hd=>(kx (cm2 hS (p6 hd 0 : (A4 (η 0) (m)).p S w) hl hk2))) ?_
 refine o9 (fun x0=>.one (.ag 27 x0)) (fun x0=>A4 x0 (m.cof)) (fun β η S w hS hs hw hG hd=>(kx (a77 hS (p6 hd 1 : (A4 (η 1) (m.adj)).p S w)))) ?_
 refine S8 (fun η=>u2) 43 9 true (fun x0=>.one (.ag 9 x0)) (fun x0=>o8 x0 (p)) ⟨b9,hS,j6⟩ (fun β η S w hM hw hG hd=>let ⟨y,e1,e2,e3⟩:=hG.2.2.2; ⟨S,y,e1,e2,e3⟩) ?_
 refine o9 (fun x0=>.one (.ag 9 x0)) (fun x0=>o8 x0 ((m.cof.apply p))) (fun β η S w hS hs hw hG hd=>(kx (ao1 hS (p6 hd 2 : (A4 (η 2) (m.cof)).p S w) (p6 hd 3 : (o8 (η 3) (p)).p S w) (U8 (cf1 hl)) hn (by omega)))) ?_
 refine o9 (fun x0=>.one (.ag 9 x0)) (fun x0=>o8 x0 ((m.cof.apply p).normal)) (fun β η S w hS hs hw hG hd=>(kx (ar7 hS (p6 hd 4 : (o8 (η 4) ((m.cof.apply p))).p S w) (dc7 (aw3 e1).2 e2) (F3 (ar4 (U8 (cf1 hl)) hn)) (bd5 hq hq2)))) ?_
 refine j3 [true,false,false,false,false,false] (Gh.nil) (by exact fun _ _ h=>trivial) (fun g η=>(o8 (η 5) ((m.cof.apply p).normal)).and g) (fun g η=>(by kernel_rfl)) ?_
 intro η_1
 exact o6 ((η_1 5)) rfl (fun S w hs hw hG=>⟨hw,hG.1.mono fun k _ hk=>hs k hk⟩)
theorem bt0 {S : Nat → Prop} {w : World} {v vp : Value} {m : M3} {p : T3} {k n q : Nat} (ht : Tab w) (hS : Up S w) (h : MapV S w v m) (hp : TripV S w vp p) (hl : ml m k) (hk2 : 40 * k + 40 ≤ 3344) (hn : tl p n) (hkn : 3 * (4 * k + 1 + n + 1) + 1 ≤ 3344) (hq : tl (m.cof.apply p).normal q) (hq2 : q ≤ 3344) (e1 : O2 m = 0) (e2 : D9 p = 0) :
  Gives prog 32 [v,vp] w fun v' w'=>Ext w w' ∧ (F2 v' (m.cof.apply p).normal 0).p S w':=by
 refine n8 (E:=env) (S0:=S) (G:=((A4 v (m)).and (o8 vp (p)))) (l:=[.one (.ag 27 v),.one (.ag 9 vp)]) func32 rfl rfl rfl ⟨h.ok,hp.ok,trivial⟩ rfl ⟨h,hp⟩ ?_
 refine o5 (K3 0 63 ([.ag 27 v]) (fun u1=>?_))
 refine o5 (K3 1 43 ([.ag 9 vp]) (fun u2=>?_))
 refine B0 (fun x0=>pr (.ag 9 (A8 x0)) (.lit .i64 0)) (fun x0=>F2 x0 ((m.cof.apply p).normal) 0) (fun _ _ _ h=>K9 h) (fun β S w hS hs hw hG=>(kx (dv1 83 [u1,u2] (t:=(m.cof.apply p).normal) (E:=0) hS (fun _ S' w' hS' k' _ hs'=>bm7 (ht.to (hw.trans k')) hS' (L6 hG.2.1) (L6 hG.1) ((ai2 u1 m).at' (at9 (F:=fun x=>A4 x m) hG.2.1 hG.2.2.1.lies hG.2.2.1) hs' k') ((D2 u2 p).at' (X8 hG.1 hG.2.2.2) hs' k') hl hk2 hn hkn hq hq2 e1 e2) (fun e=>absurd rfl e)))) ?_
 intro r
 exact o6 (.tuple #[A8 r,.int .i64 0]) rfl (fun S w hs hw hG=>⟨hw,rfl,hG.1.2.mono fun k _ hk=>hs k hk⟩)
theorem ch8 {m : M3} (h : m.det ≠ 0) : m.adj.det ≠ 0:=by rw [M3.det_adj]; exact ah2 h h
theorem c60 {S : Nat → Prop} {w : World} {u : Value} {m : M3} {k q : Nat} (ht : Tab w) (hS : Up S w) (o : u.oneCell' = true) (h : (ai2 u m).p S w) (hl : ml m k) (hk2 : 40 * k + 40 ≤ 3344) (hq : ml m.adj.normal q) (hq2 : q ≤ 3344) (e1 : O2 m = 0) :
  Gives prog 87 [u] w fun v' w'=>Ext w w' ∧ MapV S w' v' m.adj.normal:=by
 refine n8 (E:=env) (S0:=S) (G:=(ai2 u m)) (l:=[.one (.val u)]) func87 rfl rfl rfl ⟨o,trivial⟩ rfl h ?_
 refine o5 (r6 u 63 27 true (fun x0=>.one (.ag 27 x0)) (fun x0=>A4 x0 (m)) (fun β S w hM hw hG=>let ⟨y,e1,e2,e3⟩:=hG; ⟨S,y,e1,e2,e3⟩) ?_)
 intro x
 refine O6 (.und) rfl (fun β S w hS hM hs hw hG=>(kx (au1 (ht.to hw) (x9 hS) (H3 (F:=ah8) (l:=[m]) 1 63 [x] hM (by kernel_rfl) (a78 hG.1) (show 1 ≤ maxLen by decide)) (au2 hl) hk2 (au2 e1)))) ?_
 refine o5 (r6 u 63 27 true (fun x0=>.one (.ag 27 x0)) (fun x0=>A4 x0 (m)) (fun β S w hM hw hG=>let ⟨y,e1,e2,e3⟩:=hG.2; ⟨S,y,e1,e2,e3⟩) ?_)
 intro a
 refine B0 (fun x0=>.one (.ag 27 x0)) (fun x0=>A4 x0 (m.adj)) (fun _ _ _ h=>⟨h.ok,rfl⟩) (fun β S w hS hs hw hG=>(kx (cm2 hS hG.1 hl hk2))) ?_
 intro b
 refine B0 (fun x0=>.one (.ag 27 x0)) (fun x0=>A4 x0 (m.adj.normal)) (fun _ _ _ h=>⟨h.ok,rfl⟩) (fun β S w hS hs hw hG=>(kx (b08 hS hG.1 (ch8 (aw3 e1).2) (dp7 (cf1 hl) (by omega)) hq hq2))) ?_
 intro c
 exact o6 (c) rfl (fun S w hs hw hG=>⟨hw,(A4 _ _).mono hG.1 fun k _ hk=>hs k hk⟩)
theorem dh0 {S : Nat → Prop} {w : World} {v : Value} {m : M3} {k q : Nat} (ht : Tab w) (hS : Up S w) (h : MapV S w v m) (hl : ml m k) (hk2 : 40 * k + 40 ≤ 3344) (hq : ml m.adj.normal q) (hq2 : q ≤ 3344) (e1 : O2 m = 0) :
  Gives prog 33 [v] w fun v' w'=>Ext w w' ∧ (am8 v' m.adj.normal 0).p S w':=by
 refine n8 (E:=env) (S0:=S) (G:=(A4 v (m))) (l:=[.one (.ag 27 v)]) func33 rfl rfl rfl ⟨h.ok,trivial⟩ rfl h ?_
 refine o5 (K3 0 63 ([.ag 27 v]) (fun u=>?_))
 refine B0 (fun x0=>pr (.ag 27 (A8 x0)) (.lit .i64 0)) (fun x0=>am8 x0 (m.adj.normal) 0) (fun _ _ _ h=>bc3 h) (fun β S w hS hs hw hG=>(kx (d28 87 [u] (t:=m.adj.normal) (E:=0) hS (fun _ S' w' hS' k' _ hs'=>c60 (ht.to (hw.trans k')) hS' (L6 hG.1) ((ai2 u m).at' (at9 (F:=fun x=>A4 x m) hG.1 hG.2.lies hG.2) hs' k') hl hk2 hq hq2 e1) (fun e=>absurd rfl e)))) ?_
 intro r
 exact o6 (.tuple #[A8 r,.int .i64 0]) rfl (fun S w hs hw hG=>⟨hw,rfl,(A4 _ _).mono hG.1.2 fun k _ hk=>hs k hk⟩)
theorem a67 (m n : M3) : (m.after n).det = m.det * n.det:=by
 simp only [M3.after,M3.turned,M3.apply,T3.dot,M3.det,T3.cross]
 grind
theorem cp6 {S : Nat → Prop} {w : World} {u1 u2 : Value} {m n : M3} {k q : Nat} (ht : Tab w) (hS : Up S w) (o1 : u1.oneCell' = true) (o2 : u2.oneCell' = true) (h1 : (ai2 u1 m).p S w) (h2 : (ai2 u2 n).p S w) (hl : ml m k) (hn : ml n k) (hk2 : 40 * k + 40 ≤ 3344) (hq : ml (m.after n).normal q) (hq2 : q ≤ 3344) (e1 : O2 m = 0) (e2 : O2 n = 0) :
  Gives prog 92 [u1,u2] w fun v' w'=>Ext w w' ∧ MapV S w' v' (m.after n).normal:=by
 refine n8 (E:=env) (S0:=S) (G:=((ai2 u1 m).and (ai2 u2 n))) (l:=[.one (.val u1),.one (.val u2)]) func92 rfl rfl rfl ⟨o1,o2,trivial⟩ rfl ⟨h1,h2⟩ ?_
 refine o5 (r6 u1 63 27 true (fun x0=>.one (.ag 27 x0)) (fun x0=>A4 x0 (m)) (fun β S w hM hw hG=>let ⟨y,e1,e2,e3⟩:=hG.1; ⟨S,y,e1,e2,e3⟩) ?_)
 intro x
 refine o5 (r6 u2 63 27 true (fun x0=>.one (.ag 27 x0)) (fun x0=>A4 x0 (n)) (fun β S w hM hw hG=>let ⟨y,e1,e2,e3⟩:=hG.2.2; ⟨S,y,e1,e2,e3⟩) ?_)
 intro y
 refine O6 (.und) rfl (fun β S w hS hM hs hw hG=>(kx (au1 (ht.to hw) (x9 hS) (H3 (F:=ah8) (l:=[m,n]) 1 63 [x,y] hM (by kernel_rfl) (dr4 hG.2.1 hG.1) (show 2 ≤ maxLen by decide)) (d27 hl hn) hk2 (d27 e1 e2)))) ?_
 refine o5 (r6 u1 63 27 true (fun x0=>.one (.ag 27 x0)) (fun x0=>A4 x0 (m)) (fun β S w hM hw hG=>let ⟨y,e1,e2,e3⟩:=hG.2.2.1; ⟨S,y,e1,e2,e3⟩) ?_)
 intro a
 refine o5 (r6 u2 63 27 true (fun x0=>.one (.ag 27 x0)) (fun x0=>A4 x0 (n)) (fun β S w hM hw hG=>let ⟨y,e1,e2,e3⟩:=hG.2.2.2.2; ⟨S,y,e1,e2,e3⟩) ?_)
 intro b
 refine B0 (fun x0=>.one (.ag 27 x0)) (fun x0=>A4 x0 ((m.after n))) (fun _ _ _ h=>⟨h.ok,rfl⟩) (fun β S w hS hs hw hG=>(kx (dc4 hS hG.2.1 hG.1 hl hn (by omega)))) ?_
 intro c
 refine B0 (fun x0=>.one (.ag 27 x0)) (fun x0=>A4 x0 ((m.after n).normal)) (fun _ _ _ h=>⟨h.ok,rfl⟩) (fun β S w hS hs hw hG=>(kx (b08 hS hG.1 (by rw [a67]; exact ah2 (aw3 e1).2 (aw3 e2).2) (dp7 (c95 hl hn) (by omega)) hq hq2))) ?_
 intro d
 exact o6 (d) rfl (fun S w hs hw hG=>⟨hw,(A4 _ _).mono hG.1 fun k _ hk=>hs k hk⟩)
theorem c07 {S : Nat → Prop} {w : World} {v1 v2 : Value} {m n : M3} {k q : Nat} (ht : Tab w) (hS : Up S w) (h1 : MapV S w v1 m) (h2 : MapV S w v2 n) (hl : ml m k) (hn : ml n k) (hk2 : 40 * k + 40 ≤ 3344) (hq : ml (m.after n).normal q) (hq2 : q ≤ 3344) (e1 : O2 m = 0) (e2 : O2 n = 0) :
  Gives prog 36 [v1,v2] w fun v' w'=>Ext w w' ∧ (am8 v' (m.after n).normal 0).p S w':=by
 refine n8 (E:=env) (S0:=S) (G:=((A4 v1 (m)).and (A4 v2 (n)))) (l:=[.one (.ag 27 v1),.one (.ag 27 v2)]) func36 rfl rfl rfl ⟨h1.ok,h2.ok,trivial⟩ rfl ⟨h1,h2⟩ ?_
 refine o5 (K3 0 63 ([.ag 27 v1]) (fun u1=>?_))
 refine o5 (K3 1 63 ([.ag 27 v2]) (fun u2=>?_))
 refine B0 (fun x0=>pr (.ag 27 (A8 x0)) (.lit .i64 0)) (fun x0=>am8 x0 ((m.after n).normal) 0) (fun _ _ _ h=>bc3 h) (fun β S w hS hs hw hG=>(kx (d28 92 [u1,u2] (t:=(m.after n).normal) (E:=0) hS (fun _ S' w' hS' k' _ hs'=>cp6 (ht.to (hw.trans k')) hS' (L6 hG.2.1) (L6 hG.1) ((ai2 u1 m).at' (at9 (F:=fun x=>A4 x m) hG.2.1 hG.2.2.1.lies hG.2.2.1) hs' k') ((ai2 u2 n).at' (at9 (F:=fun x=>A4 x n) hG.1 hG.2.2.2.lies hG.2.2.2) hs' k') hl hn hk2 hq hq2 e1 e2) (fun e=>absurd rfl e)))) ?_
 intro r
 exact o6 (.tuple #[A8 r,.int .i64 0]) rfl (fun S w hs hw hG=>⟨hw,rfl,(A4 _ _).mono hG.1.2 fun k _ hk=>hs k hk⟩)
namespace T3
def lin (a : Rat) (p : T3) (b : Rat) (q : T3) : T3:=⟨a * p.x + b * q.x,a * p.y + b * q.y,a * p.z + b * q.z⟩
theorem as9 {l u : T3} {a : Rat} (hl : ¬ l.None) (h : u = l.smul a) : over1 l u = a:=by
 subst h
 unfold over1 smul
 split
 ·exact Rat.mul_div_cancel ‹_›
 split
 ·exact Rat.mul_div_cancel ‹_›
 rename_i h1 h2
 exact Rat.mul_div_cancel fun h3=>hl ⟨Classical.not_not.1 h1,Classical.not_not.1 h2,h3⟩
theorem ac8 {p q : T3} {a b : Rat} (h : ¬ Same p q) : mPart p q (lin a p b q) = a:=by
 refine as9 h ?_
 ext <;> simp only [cross,smul,lin] <;> grind
theorem ah7 {p q : T3} {a b : Rat} (h : ¬ Same p q) : nPart p q (lin a p b q) = b:=by
 refine as9 h ?_
 ext <;> simp only [cross,smul,lin] <;> grind
theorem flat_lin {p q : T3} {a b : Rat} : Flat p q (lin a p b q):=by
 unfold Flat dot lin cross
 simp only
 grind
theorem cx4 {p q r : T3} (h : ¬ Same p q) (hf : Flat p q r) : ∃ a b,r = lin a p b q:=by
 unfold Flat dot at hf
 have key : ∀ d : Rat,d ≠ 0 → ∀ a b : Rat,r.x * d = a * p.x + b * q.x → r.y * d = a * p.y + b * q.y → r.z * d = a * p.z + b * q.z → ∃ a b,r = lin a p b q:=by
  intro d hd a b h1 h2 h3
  refine ⟨a / d,b / d,?_⟩
  ext <;> simp only [lin] <;> grind
 by_cases hx : (p.cross q).x = 0
 ·by_cases hy : (p.cross q).y = 0
  ·have hz : (p.cross q).z ≠ 0:=fun hz=>h ⟨hx,hy,hz⟩
   simp only [cross] at hx hy hz hf
   exact key _ hz (r.x * q.y - r.y * q.x) (p.x * r.y - p.y * r.x) (by grind) (by grind) (by grind)
  simp only [cross] at hx hy hf
  exact key _ hy (r.z * q.x - r.x * q.z) (p.z * r.x - p.x * r.z) (by grind) (by grind) (by grind)
 simp only [cross] at hx hf
 exact key _ hx (r.y * q.z - r.z * q.y) (p.y * r.z - p.z * r.y) (by grind) (by grind) (by grind)
theorem lin_none {p q : T3} {a b : Rat} (h : ¬ Same p q) (hab : ¬ (a = 0 ∧ b = 0)) : ¬ (lin a p b q).None:=by
 rintro ⟨h1,h2,h3⟩
 refine hab ⟨?_,?_⟩
 ·rw [← ac8 (a:=a) (b:=b) h]
  have e : lin a p b q = ⟨0,0,0⟩:=by ext <;> assumption
  rw [e]
  exact as9 (a:=0) h (by ext <;> simp only [cross,smul] <;> grind)
 rw [← ah7 (a:=a) (b:=b) h]
 have e : lin a p b q = ⟨0,0,0⟩:=by ext <;> assumption
 rw [e]
 exact as9 (a:=0) h (by ext <;> simp only [cross,smul] <;> grind)
theorem smul_like {p : T3} {k : Rat} (hk : k ≠ 0) : Like (p.smul k) p:=⟨k,hk,rfl⟩
theorem normal_like {p q : T3} (h : Like p q) : p.normal = q.normal:=by
 obtain ⟨k,hk,rfl⟩:=h
 exact bz8 hk
theorem Like.dot {p q p' q' : T3} (h : Like p p') (k : Like q q') : p.dot q = 0 ↔ p'.dot q' = 0:=by
 obtain ⟨a,ha,rfl⟩:=h
 obtain ⟨b,hb,rfl⟩:=k
 rw [b16]
 constructor
 ·intro h; exact (Rat.mul_eq_zero.1 h).resolve_left (fun e=>(Rat.mul_eq_zero.1 e).elim ha hb)
 intro h; rw [h,Rat.mul_zero]
theorem badR_like {p q r s p' q' r' s' : T3} (h1 : Like p p') (h2 : Like q q') (h3 : Like r r') (h4 : Like s s') : BadR p q r s ↔ BadR p' q' r' s':=by
 unfold BadR
 rw [h1.same h2,h1.same h3,h2.same h3,h1.flat h2 h3,h1.flat h2 h4]
theorem ratio_eq {m : M3} (hm : m.det ≠ 0) {p q r s p' q' r' s' : T3} (hp : Like p' (m.apply p)) (hq : Like q' (m.apply q)) (hr : Like r' (m.apply r)) (hs : Like s' (m.apply s)) (hb : ¬ BadR p q r s) :
  ratioQ p' q' r' s' = ratioQ p q r s ∧ (nPart p' q' s' = 0 ↔ nPart p q s = 0):=by
 have d1 : ¬ Same p q:=fun g=>hb (.inl (.inl g))
 have d3 : ¬ Same q r:=fun g=>hb (.inl (.inr (.inr (.inl g))))
 have d4 : Flat p q r:=Classical.byContradiction fun g=>hb (.inl (.inr (.inr (.inr g))))
 have d5 : Flat p q s:=Classical.byContradiction fun g=>hb (.inr g)
 have hs' : ¬ Same p' q':=fun g=>d1 ((M3.same_apply hm).1 ((hp.same hq).1 g))
 have ha0:=mPart_ne d1 d3 d4
 obtain ⟨a,b,rfl⟩:=cx4 d1 d4
 obtain ⟨c,d,rfl⟩:=cx4 d1 d5
 rw [ac8 d1] at ha0
 obtain ⟨kp,np,rfl⟩:=hp
 obtain ⟨kq,nq,rfl⟩:=hq
 obtain ⟨kr,nr,rfl⟩:=hr
 obtain ⟨ks,ns,rfl⟩:=hs
 have e1 : (m.apply (lin a p b q)).smul kr = lin (kr * a / kp) ((m.apply p).smul kp) (kr * b / kq) ((m.apply q).smul kq):=by
  ext <;> simp only [M3.apply,dot,smul,lin] <;> grind
 have e2 : (m.apply (lin c p d q)).smul ks = lin (ks * c / kp) ((m.apply p).smul kp) (ks * d / kq) ((m.apply q).smul kq):=by
  ext <;> simp only [M3.apply,dot,smul,lin] <;> grind
 have z : ks * d / kq = 0 ↔ d = 0:=by
  constructor
  ·intro h
   grind
  intro h
  rw [h]
  grind
 unfold ratioQ
 rw [e1,e2,ac8 hs',ac8 hs',ah7 hs',ah7 hs',ac8 d1,ac8 d1,ah7 d1,ah7 d1]
 refine ⟨?_,z⟩
 by_cases hd : d = 0
 ·rw [if_pos hd,if_pos (z.2 hd)]
 rw [if_neg hd,if_neg (fun h=>hd (z.1 h))]
 grind
end T3
namespace M3
def smul (k : Rat) (m : M3) : M3:=⟨m.a.smul k,m.b.smul k,m.c.smul k⟩
theorem bo5 (m : M3) (k : Rat) : m.over k = m.smul (k⁻¹):=by
 simp only [over,smul,T3.over,T3.smul,Rat.div_def,Rat.mul_comm]
theorem cg2 (k : Rat) (m : M3) (p : T3) : (m.smul k).apply p = (m.apply p).smul k:=by
 simp only [apply,smul,T3.dot,T3.smul,T3.mk.injEq]
 refine ⟨?_,?_,?_⟩ <;> grind
theorem c29 (k : Rat) (m : M3) : (m.smul k).det = k * k * k * m.det:=by
 simp only [smul,det,T3.dot,T3.cross,T3.smul]
 grind
theorem lead_ne {m : M3} (h : m.det ≠ 0) : m.lead ≠ 0:=by
 obtain ⟨j,e1,e2,e3⟩:=be5 (fpos_list h)
 unfold lead O3
 rw [e1]
 simpa using e3
theorem lead_mem {m : M3} (h : m.det ≠ 0) : m.lead ∈ m.list:=by
 obtain ⟨j,e1,e2,e3⟩:=be5 (fpos_list h)
 unfold lead O3
 rw [e1,List.getD_eq_getElem?_getD,show ((0 + j : Nat) : Int).toNat = j by simp,List.getElem?_eq_getElem e2]
 exact List.getElem_mem _
theorem inv_ne {k : Rat} (h : k ≠ 0) : k⁻¹ ≠ 0:=fun e=>by
 have h1:=Rat.mul_inv_cancel k h
 rw [e,Rat.mul_zero] at h1
 exact absurd h1 (by decide)
theorem normal_det {m : M3} (h : m.det ≠ 0) : m.normal.det ≠ 0:=by
 unfold normal
 rw [bo5,c29]
 have h1:=inv_ne (lead_ne h)
 exact ah2 (ah2 (ah2 h1 h1) h1) h
theorem normal_apply {m : M3} (h : m.det ≠ 0) (p : T3) : T3.Like (m.normal.apply p) (m.apply p):=by
 unfold normal
 rw [bo5,cg2]
 exact T3.smul_like (inv_ne (lead_ne h))
theorem apply_like {m : M3} {p q : T3} (h : T3.Like p q) : T3.Like (m.apply p) (m.apply q):=by
 obtain ⟨k,hk,rfl⟩:=h
 rw [apply_smul]
 exact T3.smul_like hk
end M3
theorem bi1 {p q : T3} {B C : Nat} (hp : si p B) (hq : si q C) : si (p.cross q) (2 * (B * C)):=by
 obtain ⟨a,b,c,rfl,h3,h4,h5⟩:=hp
 obtain ⟨a',b',c',rfl,h3',h4',h5'⟩:=hq
 have e : ∀ {x y z u : Int},x.natAbs ≤ B → y.natAbs ≤ C → z.natAbs ≤ B → u.natAbs ≤ C → (x * y - z * u).natAbs ≤ 2 * (B * C):=fun g1 g2 g3 g4=>by
  have q1:=X7 g1 g2
  have q2:=X7 g3 g4
  omega
 exact ⟨b * c' - c * b',c * a' - a * c',a * b' - b * a',by simp only [T3.cross,Rat.intCast_sub,Rat.intCast_mul],e h4 h5' h5 h4',e h5 h3' h3 h5',e h3 h4' h4 h3'⟩
theorem cj3 {p q : T3} {B : Nat} (h : sm q B) (hk : T3.Like p q) : sm p B:=by
 obtain ⟨k,a,b,c,h1,rfl,h3⟩:=h
 obtain ⟨l,hl,rfl⟩:=hk
 exact ⟨l * k,a,b,c,ah2 hl h1,by ext <;> simp only [T3.smul] <;> grind,h3⟩
theorem b67 {m : M3} {p : T3} {B C : Nat} (hm : mi m B) (hp : sm p C) : sm (m.apply p) (3 * (B * C)):=by
 obtain ⟨k,a,b,c,h1,rfl,h3⟩:=hp
 refine cj3 (q:=m.apply ⟨(a : Rat),(b : Rat),(c : Rat)⟩) (aj5 hm ⟨a,b,c,rfl,h3⟩).sm ⟨k,h1,?_⟩
 rw [← M3.apply_smul]
 rfl
theorem ce2 {m : M3} {B : Nat} (h : mi m B) : mi m.cof (2 * (B * B)):=⟨bi1 h.2.1 h.2.2,bi1 h.2.2 h.1,bi1 h.1 h.2.1⟩
theorem ah9 {m : M3} {B : Nat} (h : mi m B) : mi m.turned B:=by
 obtain ⟨⟨a,b,c,h1,h2,h3,h4⟩,⟨a',b',c',h1',h2',h3',h4'⟩,⟨a2,b2,c2,g1,g2,g3,g4⟩⟩:=h
 unfold M3.turned
 rw [h1,h1',g1]
 exact ⟨⟨a,a',a2,rfl,h2,h2',g2⟩,⟨b,b',b2,rfl,h3,h3',g3⟩,⟨c,c',c2,rfl,h4,h4',g4⟩⟩
theorem df0 {m : M3} {B : Nat} (h : mi m B) : mi m.adj (2 * (B * B)):=ah9 (ce2 h)
theorem cx8 {m n : M3} {B C : Nat} (h : mi m B) (k : mi n C) : mi (m.after n) (3 * (B * C)):=ah9 ⟨aj5 h (ah9 k).1,aj5 h (ah9 k).2.1,aj5 h (ah9 k).2.2⟩
theorem b36 {m : M3} {B : Nat} (h : mi m B) (hB : B < 1000000000) : ml m 1:=⟨h.1.tl hB,h.2.1.tl hB,h.2.2.tl hB⟩
theorem cj6 {m : M3} {B : Nat} (h : mi m B) : ∀ x ∈ m.list,∃ z : Int,x = (z : Rat) ∧ z.natAbs ≤ B:=by
 obtain ⟨⟨a,b,c,h1,h2,h3,h4⟩,⟨a',b',c',h1',h2',h3',h4'⟩,⟨a2,b2,c2,g1,g2,g3,g4⟩⟩:=h
 intro x hx
 unfold M3.list at hx
 rw [h1,h1',g1] at hx
 simp only [List.mem_cons,List.not_mem_nil,or_false] at hx
 rcases hx with rfl | rfl | rfl | rfl | rfl | rfl | rfl | rfl | rfl
 ·exact ⟨_,rfl,h2⟩
 ·exact ⟨_,rfl,h3⟩
 ·exact ⟨_,rfl,h4⟩
 ·exact ⟨_,rfl,h2'⟩
 ·exact ⟨_,rfl,h3'⟩
 ·exact ⟨_,rfl,h4'⟩
 ·exact ⟨_,rfl,g2⟩
 ·exact ⟨_,rfl,g3⟩
 exact ⟨_,rfl,g4⟩
theorem a94 {m : M3} {B : Nat} (h : mi m B) (hB : B < 1000000000) (hd : m.det ≠ 0) : ml m.normal 1:=by
 obtain ⟨l,el,hl⟩:=cj6 h _ (M3.lead_mem hd)
 have e : ∀ {z : Int},z.natAbs ≤ B → zl z ≤ 1:=fun h=>L5 (k:=1) (by show Int.natAbs _ < _; omega)
 have r : ∀ x ∈ m.list,rl (x / m.lead) 1:=by
  intro x hx
  obtain ⟨z,rfl,hz⟩:=cj6 h x hx
  rw [el]
  exact az7 (e hz) (e hl) (by decide)
 exact ⟨⟨r _ (by simp [M3.list]),r _ (by simp [M3.list]),r _ (by simp [M3.list])⟩,⟨r _ (by simp [M3.list]),r _ (by simp [M3.list]),r _ (by simp [M3.list])⟩,⟨r _ (by simp [M3.list]),r _ (by simp [M3.list]),r _ (by simp [M3.list])⟩⟩
theorem c51 {p q : T3} {x y : Int} {B C : Nat} (hp : si p B) (hq : si q B) (hx : x.natAbs ≤ C) (hy : y.natAbs ≤ C) : si (T3.lin (x : Rat) p (y : Rat) q) (2 * (C * B)):=by
 obtain ⟨a,b,c,rfl,h3,h4,h5⟩:=hp
 obtain ⟨a',b',c',rfl,h3',h4',h5'⟩:=hq
 have e : ∀ {u v : Int},u.natAbs ≤ B → v.natAbs ≤ B → (x * u + y * v).natAbs ≤ 2 * (C * B):=fun g1 g2=>by
  have q1:=X7 hx g1
  have q2:=X7 hy g2
  omega
 exact ⟨x * a + y * a',x * b + y * b',x * c + y * c',by simp only [T3.lin,Rat.intCast_add,Rat.intCast_mul],e h3 h3',e h4 h4',e h5 h5'⟩
theorem dp8 {p : T3} {B C : Nat} (h : si p B) (k : B ≤ C) : si p C:=by
 obtain ⟨a,b,c,e,h1,h2,h3⟩:=h
 exact ⟨a,b,c,e,by omega,by omega,by omega⟩
theorem cp2 (a : Nat → Int) : si (bn3 a) 4:=by
 have h:=fun i=>bz2 (a i)
 have h0:=h 0
 have h2:=h 2
 have h4:=h 4
 refine ⟨_,_,_,rfl,by omega,by omega,?_⟩
 unfold au6
 split <;> omega
theorem P9 {p : T3} (h : ¬ p.None) : T3.Like p.normal p:=T3.like_normal h
structure KeepT (M : M3) (t L : T3) : Prop where
 app : am1 M t = 0
 tx : tl (M.apply t).normal 1
 on : OnP (M.apply t).normal (M.cof.apply L.normal).normal
 app2 : am1 M.adj.normal (M.apply t).normal = 0
 eq : (M.adj.normal.apply (M.apply t).normal).normal = t.normal
 b : D9 t = 0
 bx : D9 (M.apply t).normal = 0
 t1 : tl t 1
 tn : tl t.normal 1
 img : ¬ (M.apply t).None
theorem bj0 {m : M3} {n : Nat} (h : ml m n) (hn : n ≤ 4) (hd : m.det ≠ 0) : O2 m = 0:=by rw [cx3 h hn,if_neg hd]
theorem a41 {m : M3} {p : T3} (h : O2 m = 0) (hp : D9 p = 0) : am1 m p = 0:=by unfold am1; rw [if_pos h,hp]
theorem bb9 {M : M3} {t L : T3} (hM : M.det ≠ 0) (mM : mi M 3) (ht : si t 32) (hn : ¬ t.None) (hL : sm L 32) (hLn : ¬ L.None) (hd : t.dot L = 0) : KeepT M t L:=by
 have lM:=b36 mM (by decide)
 have eM:=bj0 lM (by decide) hM
 have b0:=ca8 ht (by decide) hn
 have hi : ¬ (M.apply t).None:=fun h=>hn ((M3.apply_none hM).1 h)
 have tx : tl (M.apply t).normal 1:=as4 (aj5 mM ht).sm (by decide)
 have bx : D9 (M.apply t).normal = 0:=ac5 tx (by decide) fun h=>hi (T3.normal_none.1 h)
 have hLm : ¬ L.normal.None:=fun h=>hLn (T3.normal_none.1 h)
 have hc : ¬ (M.cof.apply L.normal).None:=fun h=>hLm ((M3.cof_none hM).1 h)
 have ti : tl (M.cof.apply L.normal).normal 1:=as4 (b67 (ce2 mM) (bo6 hL hLn)) (by decide)
 have bi : D9 (M.cof.apply L.normal).normal = 0:=ac5 ti (by decide) fun h=>hc (T3.normal_none.1 h)
 have hb:=ch8 hM
 have lb:=a94 (df0 mM) (by decide) hb
 refine ⟨a41 eM b0,tx,⟨by unfold Q8; rw [if_pos bx,bi],?_⟩,a41 (bj0 lb (by decide) (M3.normal_det hb)) bx,?_,b0,bx,ht.tl (by decide),as4 ht.sm (by decide),hi⟩
 ·refine (T3.Like.dot (P9 hi) (P9 hc)).2 ?_
  rw [M3.cof_dot,(T3.Like.dot T3.Like.rfl (P9 hLn)).2 hd,Rat.mul_zero]
 refine T3.normal_like ?_
 refine (M3.normal_apply hb _).trans ((M3.apply_like (P9 hi)).trans ?_)
 rw [M3.adj_apply]
 exact T3.smul_like hM
theorem cf9 {M : M3} (hM : M.det ≠ 0) {p q r s : T3} : T3.BadR (M.apply p) (M.apply q) (M.apply r) (M.apply s) ↔ T3.BadR p q r s:=by
 unfold T3.BadR
 rw [M3.same_apply hM,M3.same_apply hM,M3.same_apply hM,M3.flat_apply hM,M3.flat_apply hM]
theorem ca6 {M : M3} (hM : M.det ≠ 0) {p q r s p' q' r' s' : T3} (hc : I2 [p,q,r,s] = 0) (hc' : I2 [p',q',r',s'] = 0) (h1 : T3.Like p' (M.apply p)) (h2 : T3.Like q' (M.apply q)) (h3 : T3.Like r' (M.apply r)) (h4 : T3.Like s' (M.apply s)) :
  O8 p' q' r' s' = O8 p q r s ∧ an3 p' q' r' s' = an3 p q r s ∧ (L9 p' q' r' s' ↔ L9 p q r s):=by
 have hB : T3.BadR p' q' r' s' ↔ T3.BadR p q r s:=(T3.badR_like h1 h2 h3 h4).trans (cf9 hM)
 have e : O8 p' q' r' s' = O8 p q r s:=by
  unfold O8
  rw [if_pos hc,if_pos hc']
  by_cases hb : T3.BadR p q r s
  ·rw [if_pos hb,if_pos (hB.2 hb)]
  rw [if_neg hb,if_neg fun h=>hb (hB.1 h)]
 refine ⟨e,?_,?_⟩
 ·unfold an3
  rw [e]
  split
  ·rename_i h0
   exact (T3.ratio_eq hM h1 h2 h3 h4 (a00 h0).2).1
  rfl
 unfold L9
 rw [e]
 constructor
 ·rintro ⟨h0,h⟩
  exact ⟨h0,(T3.ratio_eq hM h1 h2 h3 h4 (a00 h0).2).2.1 h⟩
 rintro ⟨h0,h⟩
 exact ⟨h0,(T3.ratio_eq hM h1 h2 h3 h4 (a00 h0).2).2.2 h⟩
theorem ck3 {p q r s : T3} (h1 : D9 p = 0) (h2 : D9 q = 0) (h3 : D9 r = 0) (h4 : D9 s = 0) : I2 [p,q,r,s] = 0:=by
 unfold I2
 rw [if_pos h1]
 unfold I2
 rw [if_pos h2]
 unfold I2
 rw [if_pos h3]
 unfold I2
 rw [if_pos h4]
 rfl
theorem cf0 {M N : M3} (hM : M.det ≠ 0) (hN : N.det ≠ 0) {p : T3} (hn : ¬ p.None) : ((N.after M).normal.apply p).normal = (N.apply (M.apply p).normal).normal:=by
 have hd : (N.after M).det ≠ 0:=by rw [a67]; exact ah2 hN hM
 have hi : ¬ (M.apply p).None:=fun h=>hn ((M3.apply_none hM).1 h)
 refine T3.normal_like ((M3.normal_apply hd p).trans ?_)
 rw [M3.apply_after]
 obtain ⟨k,hk,e⟩:=P9 hi
 refine ⟨k⁻¹,M3.inv_ne hk,?_⟩
 rw [e,M3.apply_smul,T3.smul_smul,Rat.inv_mul_cancel k hk,T3.smul_one]
def T3.cyc (p : T3) : T3:=⟨p.y,p.z,p.x⟩
def ab2 : M3:=⟨⟨0,1,0⟩,⟨0,0,1⟩,⟨1,0,0⟩⟩
theorem cr9 (p : T3) : ab2.apply p = p.cyc:=by
 simp only [M3.apply,ab2,T3.cyc,T3.dot,T3.mk.injEq]
 refine ⟨?_,?_,?_⟩ <;> grind
open Classical in
noncomputable def b75 (p q : T3) : T3:=if T3.Same p q then p.cyc else q
theorem du6 {p : T3} {B : Nat} (h : si p B) : si p.cyc B:=by
 obtain ⟨a,b,c,rfl,h1,h2,h3⟩:=h
 exact ⟨b,c,a,rfl,h2,h3,h1⟩
theorem c02 {p q : T3} {B : Nat} (h : si p B) (g : si q B) : si (b75 p q) B:=by
 unfold b75
 split
 ·exact du6 h
 exact g
noncomputable def B7 (b : Int) : Int:=1 + y5 b
noncomputable def aa5 (a b : Int) : Int:=if 1 + y5 a = 0 ∧ 1 + y5 b = 0 then 1 else 1 + y5 a
theorem E5 (b : Int) : (B7 b).natAbs ≤ 4:=by have:=W7 b; unfold B7; omega
theorem E1 (a b : Int) : (aa5 a b).natAbs ≤ 4:=by have:=W7 a; unfold aa5; split <;> omega
theorem cn3 (a b : Int) : ¬ (((aa5 a b : Int) : Rat) = 0 ∧ ((B7 b : Int) : Rat) = 0):=by
 rintro ⟨h1,h2⟩
 have h3 : aa5 a b = 0:=Rat.intCast_inj.1 h1
 have h4 : B7 b = 0:=Rat.intCast_inj.1 h2
 unfold aa5 at h3
 unfold B7 at h4
 split at h3
 ·omega
 rename_i h
 exact h ⟨h3,h4⟩
theorem C0 {z : Int} (h : z.natAbs ≤ 4) : I63 z:=by unfold I63; omega
theorem cp3 {p q : T3} (h : ¬ T3.Same p q) : ¬ p.None ∧ ¬ q.None:=by
 refine ⟨fun ⟨a,b,c⟩=>h ?_,fun ⟨a,b,c⟩=>h ?_⟩ <;> refine ⟨?_,?_,?_⟩ <;> simp only [T3.cross,a,b,c] <;> grind
theorem dj1 {p q r s : T3} {m : Nat} (k1 : tl p m) (k2 : tl q m) (k3 : tl r m) (k4 : tl s m) : rl (an3 p q r s) (100 * m + 100):=by
 unfold an3
 split
 ·rename_i h
  obtain ⟨_,e2⟩:=a00 h
  have d1 : ¬ T3.Same p q:=fun g=>e2 (.inl (.inl g))
  have d3 : ¬ T3.Same q r:=fun g=>e2 (.inl (.inr (.inr (.inl g))))
  have d4 : T3.Flat p q r:=Classical.byContradiction fun g=>e2 (.inl (.inr (.inr (.inr g))))
  have rm1 : rl (T3.mPart p q r) (8 * m + 2):=j9 (aa6 (r5 k1 k2) (r5 k3 k2) d1)
  have rn1 : rl (T3.nPart p q r) (8 * m + 2):=j9 (aa6 (r5 k1 k2) (r5 k1 k3) d1)
  have rm2 : rl (T3.mPart p q s) (8 * m + 2):=j9 (aa6 (r5 k1 k2) (r5 k4 k2) d1)
  have rn2 : rl (T3.nPart p q s) (8 * m + 2):=j9 (aa6 (r5 k1 k2) (r5 k1 k4) d1)
  unfold T3.ratioQ
  split
  ·exact j9 br9
  rename_i hb
  exact j9 (ae5 (q9 rm2 rn1) (q9 rm1 rn2) (N8 (ah2 (T3.mPart_ne d1 d3 d4) hb)))
 exact j9 br9
structure KeepD (M N : M3) (P Q t2 t3 x0 x1 x2 x3 I : T3) (B C : M3) : Prop where
 lM : ml M 1
 lN : ml N 1
 eM : O2 M = 0
 eN : O2 N = 0
 tP : tl P 1
 tQ : tl Q 1
 s2 : tl t2 1
 s3 : tl t3 1
 je : V0 P Q = 0
 jt : aq4 P Q = (P.cross Q).normal
 tL : tl (P.cross Q).normal 1
 bL : D9 (P.cross Q).normal = 0
 k0 : KeepT M P (P.cross Q)
 k1 : KeepT M Q (P.cross Q)
 k2 : KeepT M t2 (P.cross Q)
 k3 : KeepT M t3 (P.cross Q)
 ti : tl I 1
 lb : ml B 1
 lA : ml C 1
 eA : O2 C = 0
 tA : tl (C.apply P).normal 1
 eq2 : (C.apply P).normal = (N.apply x0).normal
 X0 : x0 = (M.apply P).normal
 X1 : x1 = (M.apply Q).normal
 X2 : x2 = (M.apply t2).normal
 X3 : x3 = (M.apply t3).normal
 EI : I = (M.cof.apply (P.cross Q).normal).normal
 EB : B = M.adj.normal
 EC : C = (N.after M).normal
 hR : O8 x0 x1 x2 x3 = O8 P Q t2 t3 ∧ an3 x0 x1 x2 x3 = an3 P Q t2 t3 ∧ (L9 x0 x1 x2 x3 ↔ L9 P Q t2 t3)
 rV : rl (an3 P Q t2 t3) 400000000000
theorem c92 {M N : M3} {P Q t2 t3 : T3} {a b c d : Int} (dM : M.det ≠ 0) (dN : N.det ≠ 0) (mM : mi M 3) (mN : mi N 3) (sP : si P 4) (sQ : si Q 4) (hs : ¬ T3.Same P Q) (E2 : t2 = T3.lin ((aa5 a b : Int) : Rat) P ((B7 b : Int) : Rat) Q) (E3 : t3 = T3.lin ((aa5 c d : Int) : Rat) P ((B7 d : Int) : Rat) Q) :
  KeepD M N P Q t2 t3 (M.apply P).normal (M.apply Q).normal (M.apply t2).normal (M.apply t3).normal (M.cof.apply (P.cross Q).normal).normal M.adj.normal (N.after M).normal:=by
 have lM:=b36 mM (by decide)
 have lN:=b36 mN (by decide)
 have tP:=sP.tl (by decide)
 have tQ:=sQ.tl (by decide)
 have nP:=(cp3 hs).1
 have nQ:=(cp3 hs).2
 have sL : sm (P.cross Q) 32:=da0 sP.sm sQ.sm
 have b2 : Q8 P Q = 0:=by unfold Q8; rw [if_pos (ca8 sP (by decide) nP),ca8 sQ (by decide) nQ]
 have je : V0 P Q = 0:=by unfold V0; rw [if_pos b2,if_neg hs]
 have tL : tl (P.cross Q).normal 1:=as4 sL (by decide)
 have nL : ¬ (P.cross Q).normal.None:=fun h=>hs (T3.normal_none.1 h)
 have s2 : si t2 32:=E2 ▸ c51 sP sQ (E1 _ _) (E5 _)
 have s3 : si t3 32:=E3 ▸ c51 sP sQ (E1 _ _) (E5 _)
 have k0 : KeepT M P (P.cross Q):=bb9 dM mM (dp8 sP (by decide)) nP sL hs (T3.cross_dot1 P Q)
 have k1 : KeepT M Q (P.cross Q):=bb9 dM mM (dp8 sQ (by decide)) nQ sL hs (T3.cross_dot2 P Q)
 have k2 : KeepT M t2 (P.cross Q):=bb9 dM mM s2 (E2 ▸ T3.lin_none hs (cn3 _ _)) sL hs (by rw [T3.dot_comm,E2]; exact T3.flat_lin)
 have k3 : KeepT M t3 (P.cross Q):=bb9 dM mM s3 (E3 ▸ T3.lin_none hs (cn3 _ _)) sL hs (by rw [T3.dot_comm,E3]; exact T3.flat_lin)
 have dA : (N.after M).det ≠ 0:=by rw [a67]; exact ah2 dN dM
 have mA:=cx8 mN mM
 have lA:=a94 mA (by decide) dA
 exact ⟨lM,lN,bj0 lM (by decide) dM,bj0 lN (by decide) dN,tP,tQ,s2.tl (by decide),s3.tl (by decide),je,by unfold aq4; rw [if_pos je],tL,ac5 tL (by decide) nL,k0,k1,k2,k3,
  as4 (b67 (ce2 mM) (bo6 sL hs)) (by decide),a94 (df0 mM) (by decide) (ch8 dM),lA,bj0 lA (by decide) (M3.normal_det dA),
  as4 (cj3 (aj5 mA sP).sm (M3.normal_apply dA P)) (by decide),cf0 dM dN nP,rfl,rfl,rfl,rfl,rfl,rfl,rfl,
  ca6 dM (ck3 k0.b k1.b k2.b k3.b) (ck3 k0.bx k1.bx k2.bx k3.bx) (P9 k0.img) (P9 k1.img) (P9 k2.img) (P9 k3.img),s6 (dj1 tP tQ (s2.tl (by decide)) (s3.tl (by decide))) (by decide)⟩
namespace C6
def mat (k : C6) : M3:=⟨⟨2 * k.a,k.h,k.g⟩,⟨k.h,2 * k.b,k.f⟩,⟨k.g,k.f,2 * k.c⟩⟩
def val (k : C6) (p : T3) : Rat:=(k.mat.apply p).dot p
end C6
abbrev dz8 (m : M3) (a1 a2 a3 b1 b2 b3 c1 c2 c3 : Value) : Gh:=⟨fun S w=>QMapC S w m a1 a2 a3 b1 b2 b3 c1 c2 c3,fun h k=>⟨h.a1.keep k,h.a2.keep k,h.a3.keep k,h.b1.keep k,h.b2.keep k,h.b3.keep k,h.c1.keep k,h.c2.keep k,h.c3.keep k⟩,fun h k=>⟨h.a1.mono k,h.a2.mono k,h.a3.mono k,h.b1.mono k,h.b2.mono k,h.b3.mono k,h.c1.mono k,h.c2.mono k,h.c3.mono k⟩⟩
theorem bo1 {S : Nat → Prop} {w : World} {v : Value} {m : M3} {n : Nat} (hS : Up S w) (h : QMapV S w v m) (hl : ml m n) (hn : n ≤ 700) :
  Gives prog 17 [v] w fun v' w'=>Ext w w' ∧ MapV S w' v' m:=by
 obtain ⟨a1,a2,a3,b1,b2,b3,c1,c2,c3,rfl,hm⟩:=h
 refine n8 (E:=env) (S0:=S) (G:=(dz8 m a1 a2 a3 b1 b2 b3 c1 c2 c3)) (l:=[.agg [.ag 4 a1,.ag 4 a2,.ag 4 a3,.ag 4 b1,.ag 4 b2,.ag 4 b3,.ag 4 c1,.ag 4 c2,.ag 4 c3]]) func17 rfl rfl rfl ⟨hm.ok _,trivial⟩ rfl hm ?_
 refine n9 ?_
 refine B0 (fun x0=>.agg [.ag 3 (cel x0 0 3),.ag 3 (cel x0 3 3),.ag 3 (cel x0 6 3)]) (fun x0=>O5 x0 (m.a)) (fun _ _ _ h=>M0 h) (fun β S w hS hs hw hG=>(kx ((L7 hS ⟨_,_,_,rfl,hG.a1,hG.a2,hG.a3⟩ hl.1 hn).mono fun v' w' h=>⟨h.1,a89 h.2⟩))) ?_
 intro x
 refine n9 ?_
 refine B0 (fun x0=>.agg [.ag 3 (cel x0 0 3),.ag 3 (cel x0 3 3),.ag 3 (cel x0 6 3)]) (fun x0=>O5 x0 (m.b)) (fun _ _ _ h=>M0 h) (fun β S w hS hs hw hG=>(kx ((L7 hS ⟨_,_,_,rfl,hG.2.b1,hG.2.b2,hG.2.b3⟩ hl.2.1 hn).mono fun v' w' h=>⟨h.1,a89 h.2⟩))) ?_
 intro y
 refine n9 ?_
 refine B0 (fun x0=>.agg [.ag 3 (cel x0 0 3),.ag 3 (cel x0 3 3),.ag 3 (cel x0 6 3)]) (fun x0=>O5 x0 (m.c)) (fun _ _ _ h=>M0 h) (fun β S w hS hs hw hG=>(kx ((L7 hS ⟨_,_,_,rfl,hG.2.2.c1,hG.2.2.c2,hG.2.2.c3⟩ hl.2.2 hn).mono fun v' w' h=>⟨h.1,a89 h.2⟩))) ?_
 intro z
 refine n9 ?_
 exact o6 (ad0 (cel x 0 3) (cel x 3 3) (cel x 6 3) (cel y 0 3) (cel y 3 3) (cel y 6 3) (cel z 0 3) (cel z 3 3) (cel z 6 3)) rfl (fun S w hs hw hG=>⟨hw,(MapC.mono (m:=m) ⟨hG.2.2.1.2.1,hG.2.2.1.2.2.1,hG.2.2.1.2.2.2,hG.2.1.2.1,hG.2.1.2.2.1,hG.2.1.2.2.2,hG.1.2.1,hG.1.2.2.1,hG.1.2.2.2⟩ fun k _ hk=>hs k hk).map⟩)
theorem cg7 {S : Nat → Prop} {w : World} {u : Value} {p : T3} {m : Nat} (ht : Tab w) (hS : Up S w) (o : u.oneCell' = true) (h : (D2 u p).p S w) (hm : tl p m) (hmm : m ≤ 1000000) (hp0 : ¬ D9 p = 0) : Pan prog 39 [u] w (I8 (D9 p)):=by
 refine L8 (E:=env) (S0:=S) (G:=(D2 u p)) (l:=[.one (.val u)]) func39 rfl rfl rfl ⟨o,trivial⟩ rfl h ?_
 refine o5 (r6 u 43 9 true (fun x0=>.one (.ag 9 x0)) (fun x0=>o8 x0 (p)) (fun β S w hM hw hG=>let ⟨y,e1,e2,e3⟩:=hG; ⟨S,y,e1,e2,e3⟩) ?_)
 intro x
 exact bt8 ⟨b9,hS,j6⟩ (by kernel_rfl) (by kernel_rfl) (fun β S w hS hM hs hw hG=>(kx (Q7 (bi4 (ht.to hw) (x9 hS) (H3 (l:=[p]) 1 43 [x] hM (by kernel_rfl) (br8 hG.1) (show 1 ≤ maxLen by decide)) (bq7 hm hmm) hp0) hw)))
theorem de1 {p : T3} (h : D9 p = 0) : ¬ p.None:=fun g=>(a60 h).1 (at3.2 g)
theorem ar8 {S : Nat → Prop} {w : World} {vp : Value} {p : T3} {m k : Nat} (ht : Tab w) (hS : Up S w) (hp : TripV S w vp p) (hm : tl p m) (hmm : m ≤ 1000000) (hk : tl p.normal k) (hk2 : k ≤ 3344) :
  Gives prog 6 [vp] w fun v' w'=>Ext w w' ∧ (F2 v' (if D9 p = 0 then p.normal else ⟨0,0,0⟩) (D9 p)).p S w':=by
 refine n8 (E:=env) (S0:=S) (G:=(o8 vp (p))) (l:=[.one (.ag 9 vp)]) func6 rfl rfl rfl ⟨hp.ok,trivial⟩ rfl hp ?_
 refine o5 (K3 0 43 ([.ag 9 vp]) (fun u=>?_))
 refine B0 (fun x0=>pr (.ag 9 (A8 x0)) (.int .i64 ((D9 p)))) (fun x0=>F2 x0 ((if D9 p = 0 then p.normal else ⟨0,0,0⟩)) ((D9 p))) (fun _ _ _ h=>bj8 h) (fun β S w hS hs hw hG=>(kx (dv1 39 [u] (t:=p.normal) (E:=D9 p) hS (fun e S' w' hS' k' _ hs'=>cf2 (ht.to (hw.trans k')) hS' (L6 hG.1) ((D2 u p).at' (X8 hG.1 hG.2) hs' k') hm hmm hk hk2 e (de1 e)) (fun e S' w' hS' k' _ hs'=>cg7 (ht.to (hw.trans k')) hS' (L6 hG.1) ((D2 u p).at' (X8 hG.1 hG.2) hs' k') hm hmm e)))) ?_
 intro r
 exact o6 (.tuple #[A8 r,.int .i64 (D9 p)]) rfl (fun S w hs hw hG=>⟨hw,rfl,hG.1.2.mono fun k _ hk=>hs k hk⟩)
abbrev cg4 (v : Value) (q : Rat) (p : Prop) (e : Int) : Gh:=⟨fun S w=>v = .tuple #[M8 v 0,.bool (tst p),.int .i64 e] ∧ RatV S w (M8 v 0) q,fun h k=>⟨h.1,h.2.keep k⟩,fun h k=>⟨h.1,h.2.mono k⟩⟩
theorem co0 {v : Value} {q : Rat} {p : Prop} {e : Int} {S : Nat → Prop} {w : World} (h : (cg4 v q p e).p S w) : (SV.tup [(true,[.ag 3 (M8 v 0)]),(false,[.tp p]),(false,[.int .i64 e])]).Ok 0 ∧ (SV.tup [(true,[.ag 3 (M8 v 0)]),(false,[.tp p]),(false,[.int .i64 e])]).den (fun _=>0) = v:=by
 refine ⟨fun p hp c hc=>?_,?_⟩
 ·simp only [List.mem_cons,List.not_mem_nil,or_false] at hp
  rcases hp with rfl | rfl | rfl <;> (simp only [List.mem_cons,List.not_mem_nil,or_false] at hc; subst hc)
  ·exact h.2.okc
  ·trivial
  trivial
 conv=>rhs; rw [h.1]
 obtain ⟨m,b,hv,_⟩:=h.2
 rw [hv]
 rfl
section
variable {c : Cx} {st : St} {G : Gh} {all : List Oper} {K : List HRec → Prop} {acc : List HRec} {ops : List Oper}
theorem co1 (x : SV) (ps : List Prop) (hc : c.Ok) (hok : ∀ η,ar5 all st acc ops η = true) (hv : ∀ η,br4 c.E st.hp (frH st acc η) (opH ops) = some (x,ps)) (hx : x.Ok 0) (hps : K7 ps)
  (k : Hd c st G all K (.spec ((opH ops).dst.getD 0) (fun _=>x) (fun _=>Gh.nil) :: acc) (ops.drop 1)) : Hd c st G all K acc ops:=by
 refine a54 (fun _=>x) (fun _=>Gh.nil) hok (fun β η S w F m ty hkn hup hM hS hw hG hd=>?_) k
 have hkn2 : ab6 β (max m st.hp.length) (frH st acc η) (ev F) (opH ops).op:=fun y hy s hs=>by
  obtain ⟨e1,e2⟩:=hkn y hy s hs
  exact ⟨e1,e2.le (Nat.le_max_left _ _)⟩
 have he:=hv η
 unfold br4 at he
 split at he <;> first | (cases he; done) | skip
 rename_i s' vc' hp
 simp only [Option.some.injEq,Prod.mk.injEq] at he
 obtain ⟨rfl,rfl⟩:=he
 have h5:=(bd4 (P:=c.P) (ty:=ty) (Nat.le_max_right m st.hp.length) hc.env hM hkn2 (Z2 hp).1 hps).1
 exact ⟨_,h5,SV.den_congr (fun i hi=>absurd hi (Nat.not_lt_zero _)) hx,hx,trivial⟩
end
theorem ap2 {S : Nat → Prop} {w : World} {va vb : Value} {a b : T3} {n : Nat} (hS : Up S w) (ha : TripV S w va a) (hb : TripV S w vb b) (hl : tl a n) (hn : n ≤ 1000000) (he : b = a) :
  Gives prog 34 [va,vb] w fun v' w'=>v' = .bool true ∧ Ext w w':=by
 subst he
 obtain ⟨a1,a2,a3,rfl,h1,h2,h3⟩:=ha
 obtain ⟨b1,b2,b3,rfl,g1,g2,g3⟩:=hb
 have e : ∀ {x : Rat},(x.num * x.den - x.num * x.den).sign = 0:=fun {x}=>by rw [Int.sub_self]; rfl
 refine n8 (E:=env) (S0:=S) (G:=((l6 a1 b.x).and ((l6 a2 b.y).and ((l6 a3 b.z).and ((l6 b1 b.x).and ((l6 b2 b.y).and (l6 b3 b.z))))))) (l:=[.agg [.ag 3 a1,.ag 3 a2,.ag 3 a3],.agg [.ag 3 b1,.ag 3 b2,.ag 3 b3]]) func34 rfl rfl rfl ⟨H0 ⟨h1.okc,h2.okc,h3.okc,trivial⟩,H0 ⟨g1.okc,g2.okc,g3.okc,trivial⟩,trivial⟩ rfl ⟨h1,h2,h3,g1,g2,g3⟩ ?_
 refine n9 ?_
 refine j7 7 ?_
 refine b7 6 ?_
 refine h_K (.one (.lit .i64 0)) (fun η=>(by kernel_rfl)) (J2 rfl) rfl (fun β η S w hS hs hw hG hd=>(kx (gK (bv1 hS hG.1 hG.2.2.2.1 (j9 hl.1) (j9 hl.1)) (by rw [e]; rfl)))) ?_
 refine j3 [false] ((l6 a2 b.y).and ((l6 a3 b.z).and ((l6 b2 b.y).and ((l6 b3 b.z).and (Gh.nil))))) (by exact fun _ _ h=>⟨h.2.1,h.2.2.1,h.2.2.2.2.1,h.2.2.2.2.2,trivial⟩) (fun g η=>g) (fun g η=>(by kernel_rfl)) ?_
 intro η_1
 refine n9 ?_
 refine j7 7 ?_
 refine b7 6 ?_
 refine h_K (.one (.lit .i64 0)) (fun η=>(by kernel_rfl)) (J2 rfl) rfl (fun β η S w hS hs hw hG hd=>(kx (gK (bv1 hS hG.1 hG.2.2.1 (j9 hl.2.1) (j9 hl.2.1)) (by rw [e]; rfl)))) ?_
 refine j3 [false] ((l6 a3 b.z).and ((l6 b3 b.z).and (Gh.nil))) (by exact fun _ _ h=>⟨h.2.1,h.2.2.2.1,trivial⟩) (fun g η=>g) (fun g η=>(by kernel_rfl)) ?_
 intro η_2
 refine n9 ?_
 refine j7 7 ?_
 refine b7 6 ?_
 refine h_K (.one (.lit .i64 0)) (fun η=>(by kernel_rfl)) (J2 rfl) rfl (fun β η S w hS hs hw hG hd=>(kx (gK (bv1 hS hG.1 hG.2.1 (j9 hl.2.2) (j9 hl.2.2)) (by rw [e]; rfl)))) ?_
 refine j3 [false] (Gh.nil) (by exact fun _ _ h=>trivial) (fun g η=>g) (fun g η=>(by kernel_rfl)) ?_
 intro η_3
 refine n9 ?_
 exact o6 (.bool true) rfl (fun S w hs hw hG=>⟨rfl,hw⟩)
noncomputable def ck4 (a b c : Value) : Value:=(SV.agg [.ag 12 a,.ag 12 b,.ag 12 c]).den fun _=>0
theorem c88 {S : Nat → Prop} {w : World} {a b c : Value} {m : M3} (h1 : QTripV S w a m.a) (h2 : QTripV S w b m.b) (h3 : QTripV S w c m.c) : QMapV S w (ck4 a b c) m:=by
 obtain ⟨a1,a2,a3,rfl,p1,p2,p3⟩:=h1
 obtain ⟨b1,b2,b3,rfl,q1,q2,q3⟩:=h2
 obtain ⟨c1,c2,c3,rfl,r1,r2,r3⟩:=h3
 refine ⟨a1,a2,a3,b1,b2,b3,c1,c2,c3,?_,⟨p1,p2,p3,q1,q2,q3,r1,r2,r3⟩⟩
 simp [ck4,do0,ap8,SV.den,d6,Ch.cells,Value.cells]
theorem b76 {w : World} {l ab : Nat → Nat → Int} {d : Nat → Int} {M N B C : M3} {P Q0 Q t2 t3 q0 q1 q2 q3 I : T3} (ht : Tab w) (EM : M = ai8 (l 0)) (EN : N = ai8 (l 1)) (EP : P = bn3 (ab 0)) (EQ0 : Q0 = bn3 (ab 1)) (EQ : Q = b75 P Q0) (tQ0 : tl Q0 1) (tP : tl P 1) (tQ : tl Q 1) (lM : ml M 1) (lN : ml N 1)
  (E2 : t2 = T3.lin ((aa5 (d 0) (d 1) : Int) : Rat) P ((B7 (d 1) : Int) : Rat) Q) (E3 : t3 = T3.lin ((aa5 (d 2) (d 3) : Int) : Rat) P ((B7 (d 3) : Int) : Rat) Q) (K : ¬ T3.Same P Q → KeepD M N P Q t2 t3 q0 q1 q2 q3 I B C) :
  Gives prog 4 [.agg #[.int .i64 (l 0 0),.int .i64 (l 0 1),.int .i64 (l 0 2),.int .i64 (l 0 3),.int .i64 (l 0 4),.int .i64 (l 0 5),.int .i64 (l 0 6),.int .i64 (l 0 7),.int .i64 (l 0 8),.int .i64 (l 1 0),.int .i64 (l 1 1),.int .i64 (l 1 2),.int .i64 (l 1 3),.int .i64 (l 1 4),.int .i64 (l 1 5),.int .i64 (l 1 6),.int .i64 (l 1 7),.int .i64 (l 1 8)],.agg #[.int .i64 (ab 0 0),.int .i64 (ab 0 1),.int .i64 (ab 0 2),.int .i64 (ab 0 3),.int .i64 (ab 0 4),.int .i64 (ab 0 5),.int .i64 (ab 1 0),.int .i64 (ab 1 1),.int .i64 (ab 1 2),.int .i64 (ab 1 3),.int .i64 (ab 1 4),.int .i64 (ab 1 5)],.agg #[.int .i64 (d 0),.int .i64 (d 1),.int .i64 (d 2),.int .i64 (d 3)]] w fun v' w'=>v' = .bool true ∧ Ext w w':=by
 have hS : Up All w:=Up.all
 refine n8 (E:=env) (S0:=All) (G:=Gh.nil) (l:=[.agg [.int .i64 (l 0 0),.int .i64 (l 0 1),.int .i64 (l 0 2),.int .i64 (l 0 3),.int .i64 (l 0 4),.int .i64 (l 0 5),.int .i64 (l 0 6),.int .i64 (l 0 7),.int .i64 (l 0 8),.int .i64 (l 1 0),.int .i64 (l 1 1),.int .i64 (l 1 2),.int .i64 (l 1 3),.int .i64 (l 1 4),.int .i64 (l 1 5),.int .i64 (l 1 6),.int .i64 (l 1 7),.int .i64 (l 1 8)],.agg [.int .i64 (ab 0 0),.int .i64 (ab 0 1),.int .i64 (ab 0 2),.int .i64 (ab 0 3),.int .i64 (ab 0 4),.int .i64 (ab 0 5),.int .i64 (ab 1 0),.int .i64 (ab 1 1),.int .i64 (ab 1 2),.int .i64 (ab 1 3),.int .i64 (ab 1 4),.int .i64 (ab 1 5)],.agg [.int .i64 (d 0),.int .i64 (d 1),.int .i64 (d 2),.int .i64 (d 3)]]) func4 rfl rfl rfl ⟨H0 ⟨trivial,trivial,trivial,trivial,trivial,trivial,trivial,trivial,trivial,trivial,trivial,trivial,trivial,trivial,trivial,trivial,trivial,trivial,trivial⟩,H0 ⟨trivial,trivial,trivial,trivial,trivial,trivial,trivial,trivial,trivial,trivial,trivial,trivial,trivial⟩,H0 ⟨trivial,trivial,trivial,trivial,trivial⟩,trivial⟩ rfl trivial ?_
 refine j7 8 ?_
 refine b7 8 ?_
 refine j3 [] (Gh.nil) (by exact fun _ _ h=>trivial) (fun g η=>g) (fun g η=>(by kernel_rfl)) ?_
 intro η_1
 refine j7 12 ?_
 refine b7 2 ?_
 refine o9 (fun x0=>.one (.ag 36 x0)) (fun x0=>a15 x0 ((ai8 (l 0)))) (fun β η S w hS hs hw hG hd=>(kx (co6 hS))) ?_
 refine o9 (fun x0=>.one (.ag 27 x0)) (fun x0=>A4 x0 (M)) (fun β η S w hS hs hw hG hd=>(kx (bo1 hS (EM ▸ (p6 hd 2 : (a15 (η 2) ((ai8 (l 0)))).p S w)) lM (by decide)))) ?_
 refine b7 2 ?_
 refine o9 (fun x0=>.one (.ag 36 x0)) (fun x0=>a15 x0 ((ai8 (l 1)))) (fun β η S w hS hs hw hG hd=>(kx (co6 hS))) ?_
 refine o9 (fun x0=>.one (.ag 27 x0)) (fun x0=>A4 x0 (N)) (fun β η S w hS hs hw hG hd=>(kx (bo1 hS (EN ▸ (p6 hd 6 : (a15 (η 6) ((ai8 (l 1)))).p S w)) lN (by decide)))) ?_
 refine b7 4 ?_
 refine j3 [true,false,true,false] (Gh.nil) (by exact fun _ _ h=>trivial) (fun g η=>(A4 (η 7) (N)).and ((A4 (η 3) (M)).and g)) (fun g η=>(by kernel_rfl)) ?_
 intro η_2
 refine j7 8 ?_
 refine b7 1 ?_
 refine h_1 (fun x0=>.agg [.ag 4 (cel x0 0 4),.ag 4 (cel x0 4 4),.ag 4 (cel x0 8 4)]) (fun x0=>E0 x0 (P)) (fun η=>(by kernel_rfl)) (fun _ _ _ h=>a47 h) (fun β η S w hS hs hw hG hd=>(kx ((cp4 hS).mono fun v' w' h=>⟨h.1,c16 (EP ▸ h.2)⟩))) ?_
 refine b7 1 ?_
 refine h_1 (fun x0=>.agg [.ag 4 (cel x0 0 4),.ag 4 (cel x0 4 4),.ag 4 (cel x0 8 4)]) (fun x0=>E0 x0 (Q0)) (fun η=>(by kernel_rfl)) (fun _ _ _ h=>a47 h) (fun β η S w hS hs hw hG hd=>(kx ((cp4 hS).mono fun v' w' h=>⟨h.1,c16 (EQ0 ▸ h.2)⟩))) ?_
 refine b7 4 ?_
 refine j3 [true,true] ((A4 (η_2 7) (N)).and ((A4 (η_2 3) (M)).and (Gh.nil))) (by exact fun _ _ h=>⟨h.1,h.2.1,trivial⟩) (fun g η=>(E0 (η 3) (Q0)).and ((E0 (η 1) (P)).and g)) (fun g η=>(by kernel_rfl)) ?_
 intro η_3
 refine B6 (.one (.tp (T3.Same P Q0))) rfl (fun β S w hS hs hw hG=>(kx (ck6 hS ⟨_,_,_,rfl,hG.2.1.2.1,hG.2.1.2.2.1,hG.2.1.2.2.2⟩ ⟨_,_,_,rfl,hG.1.2.1,hG.1.2.2.1,hG.1.2.2.2⟩ tP tQ0 (by decide)))) ?_
 refine dp5 (ι:=Value) [(66,80)] (fun X=>[]) (fun X=>[(8,.blk 33 [.ag 4 (cel X 0 4),.ag 4 (cel X 4 4),.ag 4 (cel X 8 4)])]) (fun X=>((E0 X Q).and ((E0 (η_3 3) (Q0)).and ((E0 (η_3 1) (P)).and ((A4 (η_2 7) (N)).and ((A4 (η_2 3) (M)).and (Gh.nil))))))) (fun X=>True) ⟨b9,hS,j6⟩ (by kernel_rfl) (fun hso0=>?_) (fun X hX=>?_)
 ·refine Z8 (p:=T3.Same P Q0) (fun hs0=>?_) (fun hs0=>?_)
  ·have eq : ab2.apply P = Q:=by rw [cr9,EQ]; unfold b75; rw [if_pos hs0]
   refine j7 15 ?_
   refine o9 (fun x0=>.one (.ag 4 x0)) (fun x0=>qG x0 ((0 : Rat))) (fun β η S w hS hs hw hG hd=>(kx (af1 hS))) ?_
   refine o9 (fun x0=>.one (.ag 4 x0)) (fun x0=>qG x0 ((1 : Rat))) (fun β η S w hS hs hw hG hd=>(kx (au5 hS))) ?_
   refine o9 (fun x0=>.one (.ag 4 x0)) (fun x0=>qG x0 ((0 : Rat))) (fun β η S w hS hs hw hG hd=>(kx (af1 hS))) ?_
   refine as1 (fun x0=>.one (.ag 12 x0)) (fun x0=>I7 x0 (ab2.a)) ⟨b9,hS,j6⟩ (fun η=>(by kernel_rfl)) (fun η=>(by kernel_rfl)) (fun β η S w hS hM hs hw hG hd=>have hF : (I7 (ap8 (η 0) (η 1) (η 2)) (ab2.a)).p S w:=⟨_,_,_,rfl,(p6 hd 0 : (qG (η 0) ((0 : Rat))).p S w),(p6 hd 1 : (qG (η 1) ((1 : Rat))).p S w),(p6 hd 2 : (qG (η 2) ((0 : Rat))).p S w)⟩; have hK : ∀ (x0 : Value) (S : Nat → Prop) (w : World),(I7 x0 (ab2.a)).p S w → (.one (.ag 12 x0) : SV).Ok 0 ∧ (.one (.ag 12 x0) : SV).den (fun _=>0) = x0:=(fun _ _ _ h=>⟨h.ok,rfl⟩); ⟨(ap8 (η 0) (η 1) (η 2)),(by kernel_rfl),(hK _ S w hF).2.symm,(hK _ S w hF).1,hF⟩) ?_
   refine o9 (fun x0=>.one (.ag 4 x0)) (fun x0=>qG x0 ((0 : Rat))) (fun β η S w hS hs hw hG hd=>(kx (af1 hS))) ?_
   refine o9 (fun x0=>.one (.ag 4 x0)) (fun x0=>qG x0 ((0 : Rat))) (fun β η S w hS hs hw hG hd=>(kx (af1 hS))) ?_
   refine o9 (fun x0=>.one (.ag 4 x0)) (fun x0=>qG x0 ((1 : Rat))) (fun β η S w hS hs hw hG hd=>(kx (au5 hS))) ?_
   refine as1 (fun x0=>.one (.ag 12 x0)) (fun x0=>I7 x0 (ab2.b)) ⟨b9,hS,j6⟩ (fun η=>(by kernel_rfl)) (fun η=>(by kernel_rfl)) (fun β η S w hS hM hs hw hG hd=>have hF : (I7 (ap8 (η 4) (η 5) (η 6)) (ab2.b)).p S w:=⟨_,_,_,rfl,(p6 hd 4 : (qG (η 4) ((0 : Rat))).p S w),(p6 hd 5 : (qG (η 5) ((0 : Rat))).p S w),(p6 hd 6 : (qG (η 6) ((1 : Rat))).p S w)⟩; have hK : ∀ (x0 : Value) (S : Nat → Prop) (w : World),(I7 x0 (ab2.b)).p S w → (.one (.ag 12 x0) : SV).Ok 0 ∧ (.one (.ag 12 x0) : SV).den (fun _=>0) = x0:=(fun _ _ _ h=>⟨h.ok,rfl⟩); ⟨(ap8 (η 4) (η 5) (η 6)),(by kernel_rfl),(hK _ S w hF).2.symm,(hK _ S w hF).1,hF⟩) ?_
   refine o9 (fun x0=>.one (.ag 4 x0)) (fun x0=>qG x0 ((1 : Rat))) (fun β η S w hS hs hw hG hd=>(kx (au5 hS))) ?_
   refine o9 (fun x0=>.one (.ag 4 x0)) (fun x0=>qG x0 ((0 : Rat))) (fun β η S w hS hs hw hG hd=>(kx (af1 hS))) ?_
   refine o9 (fun x0=>.one (.ag 4 x0)) (fun x0=>qG x0 ((0 : Rat))) (fun β η S w hS hs hw hG hd=>(kx (af1 hS))) ?_
   refine as1 (fun x0=>.one (.ag 12 x0)) (fun x0=>I7 x0 (ab2.c)) ⟨b9,hS,j6⟩ (fun η=>(by kernel_rfl)) (fun η=>(by kernel_rfl)) (fun β η S w hS hM hs hw hG hd=>have hF : (I7 (ap8 (η 8) (η 9) (η 10)) (ab2.c)).p S w:=⟨_,_,_,rfl,(p6 hd 8 : (qG (η 8) ((1 : Rat))).p S w),(p6 hd 9 : (qG (η 9) ((0 : Rat))).p S w),(p6 hd 10 : (qG (η 10) ((0 : Rat))).p S w)⟩; have hK : ∀ (x0 : Value) (S : Nat → Prop) (w : World),(I7 x0 (ab2.c)).p S w → (.one (.ag 12 x0) : SV).Ok 0 ∧ (.one (.ag 12 x0) : SV).den (fun _=>0) = x0:=(fun _ _ _ h=>⟨h.ok,rfl⟩); ⟨(ap8 (η 8) (η 9) (η 10)),(by kernel_rfl),(hK _ S w hF).2.symm,(hK _ S w hF).1,hF⟩) ?_
   refine as1 (fun x0=>.one (.ag 36 x0)) (fun x0=>a15 x0 (ab2)) ⟨b9,hS,j6⟩ (fun η=>(by kernel_rfl)) (fun η=>(by kernel_rfl)) (fun β η S w hS hM hs hw hG hd=>have hF : (a15 (ck4 (η 3) (η 7) (η 11)) (ab2)).p S w:=c88 (p6 hd 3 : (I7 (η 3) (ab2.a)).p S w) (p6 hd 7 : (I7 (η 7) (ab2.b)).p S w) (p6 hd 11 : (I7 (η 11) (ab2.c)).p S w); have hK : ∀ (x0 : Value) (S : Nat → Prop) (w : World),(a15 x0 (ab2)).p S w → (.one (.ag 36 x0) : SV).Ok 0 ∧ (.one (.ag 36 x0) : SV).den (fun _=>0) = x0:=(fun _ _ _ h=>⟨h.ok,rfl⟩); ⟨(ck4 (η 3) (η 7) (η 11)),(by kernel_rfl),(hK _ S w hF).2.symm,(hK _ S w hF).1,hF⟩) ?_
   refine b7 1 ?_
   refine h_1 (fun x0=>.agg [.ag 4 (cel x0 0 4),.ag 4 (cel x0 4 4),.ag 4 (cel x0 8 4)]) (fun x0=>E0 x0 (Q)) (fun η=>(by kernel_rfl)) (fun _ _ _ h=>a47 h) (fun β η S w hS hs hw hG hd=>(kx ((de9 (m:=ab2) hS (p6 hd 12 : (a15 (η 12) (ab2)).p S w) ⟨_,_,_,rfl,hG.2.1.2.1,hG.2.1.2.2.1,hG.2.1.2.2.2⟩ (show ml ab2 1 from ⟨⟨br9,dw5,br9⟩,⟨br9,br9,dw5⟩,⟨dw5,br9,br9⟩⟩) tP (by decide)).mono fun v' w' h=>⟨h.1,c16 (eq ▸ h.2)⟩))) ?_
   refine cj2 (fun η=>((E0 (η 14) (Q)).and ((a15 (η 12) (ab2)).and ((I7 (η 11) (ab2.c)).and ((qG (η 10) ((0 : Rat))).and ((qG (η 9) ((0 : Rat))).and ((qG (η 8) ((1 : Rat))).and ((I7 (η 7) (ab2.b)).and ((qG (η 6) ((1 : Rat))).and ((qG (η 5) ((0 : Rat))).and ((qG (η 4) ((0 : Rat))).and ((I7 (η 3) (ab2.a)).and ((qG (η 2) ((0 : Rat))).and ((qG (η 1) ((1 : Rat))).and ((qG (η 0) ((0 : Rat))).and ((E0 (η_3 3) (Q0)).and ((E0 (η_3 1) (P)).and ((A4 (η_2 7) (N)).and ((A4 (η_2 3) (M)).and (Gh.nil)))))))))))))))))))) (by kernel_rfl) (fun η=>(by kernel_rfl)) ?_
   intro η_4
   exact M7 ((η_4 14)) hso0 (trivial) (fun S w hw hG=>⟨a44 trivial,as6 ⟨ad9 ⟨hG.1.2.1.okc,hG.1.2.2.1.okc,hG.1.2.2.2.okc,trivial⟩,trivial⟩⟩) (fun S w hw hG=>⟨hG.1,hG.2.2.2.2.2.2.2.2.2.2.2.2.2.2⟩)
  have eq : Q0 = Q:=by rw [EQ]; unfold b75; rw [if_neg hs0]
  exact M7 ((η_3 3)) hso0 (trivial) (fun S w hw hG=>⟨a44 trivial,as6 ⟨ad9 ⟨hG.1.2.1.okc,hG.1.2.2.1.okc,hG.1.2.2.2.okc,trivial⟩,trivial⟩⟩) (fun S w hw hG=>have h0:=hG.1; ⟨(eq ▸ h0),hG⟩)
 refine B6 (.one (.tp (T3.Same P Q))) rfl (fun β S w hS hs hw hG=>(kx (ck6 hS ⟨_,_,_,rfl,hG.2.2.1.2.1,hG.2.2.1.2.2.1,hG.2.2.1.2.2.2⟩ ⟨_,_,_,rfl,hG.1.2.1,hG.1.2.2.1,hG.1.2.2.2⟩ tP tQ (by decide)))) ?_
 refine Z8 (p:=T3.Same P Q) (fun hs=>?_) (fun hs=>?_)
 ·refine B6 (.one (.bb true)) rfl (fun β S w hS hs hw hG=>(kx (b18 (ht.to hw)))) ?_
  exact o6 (.bool true) rfl (fun S w hs hw hG=>⟨rfl,hw⟩)
 have K:=K hs
 refine j7 5 ?_
 refine b7 1 ?_
 refine o9 (fun x0=>.one (.ag 9 x0)) (fun x0=>o8 x0 (P)) (fun β η S w hS hs hw hG hd=>(kx (L7 hS ⟨_,_,_,rfl,hG.2.2.1.2.1,hG.2.2.1.2.2.1,hG.2.2.1.2.2.2⟩ K.tP (by decide)))) ?_
 refine b7 1 ?_
 refine o9 (fun x0=>.one (.ag 9 x0)) (fun x0=>o8 x0 (Q)) (fun β η S w hS hs hw hG hd=>(kx (L7 hS ⟨_,_,_,rfl,hG.1.2.1,hG.1.2.2.1,hG.1.2.2.2⟩ K.tQ (by decide)))) ?_
 refine b7 1 ?_
 refine j3 [true,true] ((E0 X Q).and ((E0 (η_3 1) (P)).and ((A4 (η_2 7) (N)).and ((A4 (η_2 3) (M)).and (Gh.nil))))) (by exact fun _ _ h=>⟨h.1,h.2.2.1,h.2.2.2.1,h.2.2.2.2.1,trivial⟩) (fun g η=>(o8 (η 3) (Q)).and ((o8 (η 1) (P)).and g)) (fun g η=>(by kernel_rfl)) ?_
 intro η_4
 refine n9 ?_
 refine j7 14 ?_
 refine b7 4 ?_
 refine h_K (.one (.int .i64 (y5 (d 0)))) (fun η=>(by kernel_rfl)) (J2 rfl) rfl (fun β η S w hS hs hw hG hd=>(kx (K0 hS))) ?_
 refine co1 (.one (.int .i64 (1 + y5 (d 0)))) [InR .i64 (1 + y5 (d 0))] ⟨b9,hS,j6⟩ (fun η=>(by kernel_rfl)) (fun η=>(by kernel_rfl)) trivial (by have:=W7 (d 0); simp only [K7,InR,and_true]; omega) ?_
 refine b7 5 ?_
 refine h_K (.one (.int .i64 (y5 (d 1)))) (fun η=>(by kernel_rfl)) (J2 rfl) rfl (fun β η S w hS hs hw hG hd=>(kx (K0 hS))) ?_
 refine co1 (.one (.int .i64 (1 + y5 (d 1)))) [InR .i64 (1 + y5 (d 1))] ⟨b9,hS,j6⟩ (fun η=>(by kernel_rfl)) (fun η=>(by kernel_rfl)) trivial (by have:=W7 (d 1); simp only [K7,InR,and_true]; omega) ?_
 refine b7 1 ?_
 refine j3 [true,true,true,true] ((o8 (η_4 3) (Q)).and ((o8 (η_4 1) (P)).and ((E0 X Q).and ((E0 (η_3 1) (P)).and ((A4 (η_2 7) (N)).and ((A4 (η_2 3) (M)).and (Gh.nil))))))) (by exact fun _ _ h=>⟨h.1,h.2.1,h.2.2.1,h.2.2.2.1,h.2.2.2.2.1,h.2.2.2.2.2.1,trivial⟩) (fun g η=>(Gh.nil).and ((Gh.nil).and ((Gh.nil).and ((Gh.nil).and g)))) (fun g η=>(by kernel_rfl)) ?_
 intro η_5
 refine b91 (ι:=Int) 0 1 [(15,15),(108,113)] (fun u0=>[(15,.one (.int .i64 u0))]) (fun _=>[]) (fun u0=>((Gh.nil).and ((Gh.nil).and ((Gh.nil).and ((Gh.nil).and ((o8 (η_4 3) (Q)).and ((o8 (η_4 1) (P)).and ((E0 X Q).and ((E0 (η_3 1) (P)).and ((A4 (η_2 7) (N)).and ((A4 (η_2 3) (M)).and (Gh.nil)))))))))))) (fun u0=>u0 = aa5 (d 0) (d 1)) ⟨b9,hS,j6⟩ (by kernel_rfl) (by kernel_rfl) (fun hso=>?_) (fun u0 hu0=>?_)
 ·refine S6 (p:=1 + y5 (d 0) = 0) 110 (fun e1=>?_) (fun e1=>?_)
  ·refine Z8 (p:=1 + y5 (d 1) = 0) (fun e2=>?_) (fun e2=>?_)
   ·exact M7 (1) hso (by unfold aa5; rw [if_pos ⟨e1,e2⟩]) (fun S w hw hG=>⟨B5 rfl,fun p hp=>by cases hp⟩) (fun S w hw hG=>hG)
   exact M7 ((1 + y5 (d 0))) hso (by unfold aa5; rw [if_neg (fun h=>e2 h.2)]) (fun S w hw hG=>⟨B5 rfl,fun p hp=>by cases hp⟩) (fun S w hw hG=>hG)
  exact M7 ((1 + y5 (d 0))) hso (by unfold aa5; rw [if_neg (fun h=>e1 h.1)]) (fun S w hw hG=>⟨B5 rfl,fun p hp=>by cases hp⟩) (fun S w hw hG=>hG)
 refine n9 ?_
 refine j7 14 ?_
 refine b7 2 ?_
 refine o9 (fun x0=>.one (.ag 4 x0)) (fun x0=>qG x0 (((u0 : Int) : Rat))) (fun β η S w hS hs hw hG hd=>(kx (H6 hS (C0 (hu0 ▸ E1 _ _)).1 (C0 (hu0 ▸ E1 _ _)).2))) ?_
 refine b7 3 ?_
 refine o9 (fun x0=>.one (.ag 4 x0)) (fun x0=>qG x0 ((((u0 : Int) : Rat) * P.x))) (fun β η S w hS hs hw hG hd=>(kx (E9 hS (p6 hd 2 : (qG (η 2) (((u0 : Int) : Rat))).p S w) hG.2.2.2.2.2.2.2.1.2.1 (s6 (H2 (show Int.natAbs u0 < 1000000000 from Nat.lt_of_le_of_lt (hu0 ▸ E1 _ _) (by decide))) (by decide)) (s6 K.tP.1 (by decide))))) ?_
 refine b7 1 ?_
 refine o9 (fun x0=>.one (.ag 4 x0)) (fun x0=>qG x0 (((B7 (d 1) : Int) : Rat))) (fun β η S w hS hs hw hG hd=>(kx (H6 hS (C0 (E5 _)).1 (C0 (E5 _)).2))) ?_
 refine b7 3 ?_
 refine o9 (fun x0=>.one (.ag 4 x0)) (fun x0=>qG x0 ((((B7 (d 1) : Int) : Rat) * Q.x))) (fun β η S w hS hs hw hG hd=>(kx (E9 hS (p6 hd 8 : (qG (η 8) (((B7 (d 1) : Int) : Rat))).p S w) hG.2.2.2.2.2.2.1.2.1 (s6 (H2 (Nat.lt_of_le_of_lt (E5 _) (by decide))) (by decide)) (s6 K.tQ.1 (by decide))))) ?_
 refine o9 (fun x0=>.one (.ag 4 x0)) (fun x0=>qG x0 ((((u0 : Int) : Rat) * P.x + ((B7 (d 1) : Int) : Rat) * Q.x))) (fun β η S w hS hs hw hG hd=>(kx (ac1 hS (p6 hd 6 : (qG (η 6) ((((u0 : Int) : Rat) * P.x))).p S w) (p6 hd 12 : (qG (η 12) ((((B7 (d 1) : Int) : Rat) * Q.x))).p S w) (s6 (q9 (H2 (show Int.natAbs u0 < 1000000000 from Nat.lt_of_le_of_lt (hu0 ▸ E1 _ _) (by decide))) K.tP.1) (by decide)) (s6 (q9 (H2 (Nat.lt_of_le_of_lt (E5 _) (by decide))) K.tQ.1) (by decide))))) ?_
 refine j3 [true,false,false,false,false] ((o8 (η_4 3) (Q)).and ((o8 (η_4 1) (P)).and ((E0 X Q).and ((E0 (η_3 1) (P)).and ((A4 (η_2 7) (N)).and ((A4 (η_2 3) (M)).and (Gh.nil))))))) (by exact fun _ _ h=>⟨h.2.2.2.2.1,h.2.2.2.2.2.1,h.2.2.2.2.2.2.1,h.2.2.2.2.2.2.2.1,h.2.2.2.2.2.2.2.2.1,h.2.2.2.2.2.2.2.2.2.1,trivial⟩) (fun g η=>(qG (η 13) ((((u0 : Int) : Rat) * P.x + ((B7 (d 1) : Int) : Rat) * Q.x))).and g) (fun g η=>(by kernel_rfl)) ?_
 intro η_6
 refine n9 ?_
 refine j7 14 ?_
 refine b7 2 ?_
 refine o9 (fun x0=>.one (.ag 4 x0)) (fun x0=>qG x0 (((u0 : Int) : Rat))) (fun β η S w hS hs hw hG hd=>(kx (H6 hS (C0 (hu0 ▸ E1 _ _)).1 (C0 (hu0 ▸ E1 _ _)).2))) ?_
 refine b7 3 ?_
 refine o9 (fun x0=>.one (.ag 4 x0)) (fun x0=>qG x0 ((((u0 : Int) : Rat) * P.y))) (fun β η S w hS hs hw hG hd=>(kx (E9 hS (p6 hd 2 : (qG (η 2) (((u0 : Int) : Rat))).p S w) hG.2.2.2.2.1.2.2.1 (s6 (H2 (show Int.natAbs u0 < 1000000000 from Nat.lt_of_le_of_lt (hu0 ▸ E1 _ _) (by decide))) (by decide)) (s6 K.tP.2.1 (by decide))))) ?_
 refine b7 1 ?_
 refine o9 (fun x0=>.one (.ag 4 x0)) (fun x0=>qG x0 (((B7 (d 1) : Int) : Rat))) (fun β η S w hS hs hw hG hd=>(kx (H6 hS (C0 (E5 _)).1 (C0 (E5 _)).2))) ?_
 refine b7 3 ?_
 refine o9 (fun x0=>.one (.ag 4 x0)) (fun x0=>qG x0 ((((B7 (d 1) : Int) : Rat) * Q.y))) (fun β η S w hS hs hw hG hd=>(kx (E9 hS (p6 hd 8 : (qG (η 8) (((B7 (d 1) : Int) : Rat))).p S w) hG.2.2.2.1.2.2.1 (s6 (H2 (Nat.lt_of_le_of_lt (E5 _) (by decide))) (by decide)) (s6 K.tQ.2.1 (by decide))))) ?_
 refine o9 (fun x0=>.one (.ag 4 x0)) (fun x0=>qG x0 ((((u0 : Int) : Rat) * P.y + ((B7 (d 1) : Int) : Rat) * Q.y))) (fun β η S w hS hs hw hG hd=>(kx (ac1 hS (p6 hd 6 : (qG (η 6) ((((u0 : Int) : Rat) * P.y))).p S w) (p6 hd 12 : (qG (η 12) ((((B7 (d 1) : Int) : Rat) * Q.y))).p S w) (s6 (q9 (H2 (show Int.natAbs u0 < 1000000000 from Nat.lt_of_le_of_lt (hu0 ▸ E1 _ _) (by decide))) K.tP.2.1) (by decide)) (s6 (q9 (H2 (Nat.lt_of_le_of_lt (E5 _) (by decide))) K.tQ.2.1) (by decide))))) ?_
 refine j3 [true,false,false,false,false] ((qG (η_6 13) ((((u0 : Int) : Rat) * P.x + ((B7 (d 1) : Int) : Rat) * Q.x))).and ((o8 (η_4 3) (Q)).and ((o8 (η_4 1) (P)).and ((E0 X Q).and ((E0 (η_3 1) (P)).and ((A4 (η_2 7) (N)).and ((A4 (η_2 3) (M)).and (Gh.nil)))))))) (by exact fun _ _ h=>⟨h.1,h.2.1,h.2.2.1,h.2.2.2.1,h.2.2.2.2.1,h.2.2.2.2.2.1,h.2.2.2.2.2.2.1,trivial⟩) (fun g η=>(qG (η 13) ((((u0 : Int) : Rat) * P.y + ((B7 (d 1) : Int) : Rat) * Q.y))).and g) (fun g η=>(by kernel_rfl)) ?_
 intro η_7
 refine n9 ?_
 refine j7 14 ?_
 refine b7 2 ?_
 refine o9 (fun x0=>.one (.ag 4 x0)) (fun x0=>qG x0 (((u0 : Int) : Rat))) (fun β η S w hS hs hw hG hd=>(kx (H6 hS (C0 (hu0 ▸ E1 _ _)).1 (C0 (hu0 ▸ E1 _ _)).2))) ?_
 refine b7 3 ?_
 refine o9 (fun x0=>.one (.ag 4 x0)) (fun x0=>qG x0 ((((u0 : Int) : Rat) * P.z))) (fun β η S w hS hs hw hG hd=>(kx (E9 hS (p6 hd 2 : (qG (η 2) (((u0 : Int) : Rat))).p S w) hG.2.2.2.2.2.1.2.2.2 (s6 (H2 (show Int.natAbs u0 < 1000000000 from Nat.lt_of_le_of_lt (hu0 ▸ E1 _ _) (by decide))) (by decide)) (s6 K.tP.2.2 (by decide))))) ?_
 refine b7 1 ?_
 refine o9 (fun x0=>.one (.ag 4 x0)) (fun x0=>qG x0 (((B7 (d 1) : Int) : Rat))) (fun β η S w hS hs hw hG hd=>(kx (H6 hS (C0 (E5 _)).1 (C0 (E5 _)).2))) ?_
 refine b7 3 ?_
 refine o9 (fun x0=>.one (.ag 4 x0)) (fun x0=>qG x0 ((((B7 (d 1) : Int) : Rat) * Q.z))) (fun β η S w hS hs hw hG hd=>(kx (E9 hS (p6 hd 8 : (qG (η 8) (((B7 (d 1) : Int) : Rat))).p S w) hG.2.2.2.2.1.2.2.2 (s6 (H2 (Nat.lt_of_le_of_lt (E5 _) (by decide))) (by decide)) (s6 K.tQ.2.2 (by decide))))) ?_
 refine o9 (fun x0=>.one (.ag 4 x0)) (fun x0=>qG x0 ((((u0 : Int) : Rat) * P.z + ((B7 (d 1) : Int) : Rat) * Q.z))) (fun β η S w hS hs hw hG hd=>(kx (ac1 hS (p6 hd 6 : (qG (η 6) ((((u0 : Int) : Rat) * P.z))).p S w) (p6 hd 12 : (qG (η 12) ((((B7 (d 1) : Int) : Rat) * Q.z))).p S w) (s6 (q9 (H2 (show Int.natAbs u0 < 1000000000 from Nat.lt_of_le_of_lt (hu0 ▸ E1 _ _) (by decide))) K.tP.2.2) (by decide)) (s6 (q9 (H2 (Nat.lt_of_le_of_lt (E5 _) (by decide))) K.tQ.2.2) (by decide))))) ?_
 refine j3 [true,false,false,false,false] ((qG (η_7 13) ((((u0 : Int) : Rat) * P.y + ((B7 (d 1) : Int) : Rat) * Q.y))).and ((qG (η_6 13) ((((u0 : Int) : Rat) * P.x + ((B7 (d 1) : Int) : Rat) * Q.x))).and ((o8 (η_4 3) (Q)).and ((o8 (η_4 1) (P)).and ((E0 X Q).and ((E0 (η_3 1) (P)).and ((A4 (η_2 7) (N)).and ((A4 (η_2 3) (M)).and (Gh.nil))))))))) (by exact fun _ _ h=>⟨h.1,h.2.1,h.2.2.1,h.2.2.2.1,h.2.2.2.2.1,h.2.2.2.2.2.1,h.2.2.2.2.2.2.1,h.2.2.2.2.2.2.2.1,trivial⟩) (fun g η=>(qG (η 13) ((((u0 : Int) : Rat) * P.z + ((B7 (d 1) : Int) : Rat) * Q.z))).and g) (fun g η=>(by kernel_rfl)) ?_
 intro η_8
 refine n9 ?_
 refine B0 (fun x0=>.one (.ag 9 x0)) (fun x0=>o8 x0 (t2)) (fun _ _ _ h=>⟨h.ok,rfl⟩) (fun β S w hS hs hw hG=>(kx (L7 hS (p:=t2) (by rw [E2,← hu0]; exact ⟨_,_,_,rfl,hG.2.2.1,hG.2.1,hG.1⟩) (K.s2) (by decide)))) ?_
 intro y2
 refine n9 ?_
 refine j7 14 ?_
 refine b7 4 ?_
 refine h_K (.one (.int .i64 (y5 (d 2)))) (fun η=>(by kernel_rfl)) (J2 rfl) rfl (fun β η S w hS hs hw hG hd=>(kx (K0 hS))) ?_
 refine co1 (.one (.int .i64 (1 + y5 (d 2)))) [InR .i64 (1 + y5 (d 2))] ⟨b9,hS,j6⟩ (fun η=>(by kernel_rfl)) (fun η=>(by kernel_rfl)) trivial (by have:=W7 (d 2); simp only [K7,InR,and_true]; omega) ?_
 refine b7 5 ?_
 refine h_K (.one (.int .i64 (y5 (d 3)))) (fun η=>(by kernel_rfl)) (J2 rfl) rfl (fun β η S w hS hs hw hG hd=>(kx (K0 hS))) ?_
 refine co1 (.one (.int .i64 (1 + y5 (d 3)))) [InR .i64 (1 + y5 (d 3))] ⟨b9,hS,j6⟩ (fun η=>(by kernel_rfl)) (fun η=>(by kernel_rfl)) trivial (by have:=W7 (d 3); simp only [K7,InR,and_true]; omega) ?_
 refine b7 1 ?_
 refine j3 [true,true,true,true] ((o8 y2 (t2)).and ((o8 (η_4 3) (Q)).and ((o8 (η_4 1) (P)).and ((E0 X Q).and ((E0 (η_3 1) (P)).and ((A4 (η_2 7) (N)).and ((A4 (η_2 3) (M)).and (Gh.nil)))))))) (by exact fun _ _ h=>⟨h.1,h.2.2.2.2.1,h.2.2.2.2.2.1,h.2.2.2.2.2.2.1,h.2.2.2.2.2.2.2.1,h.2.2.2.2.2.2.2.2.1,h.2.2.2.2.2.2.2.2.2.1,trivial⟩) (fun g η=>(Gh.nil).and ((Gh.nil).and ((Gh.nil).and ((Gh.nil).and g)))) (fun g η=>(by kernel_rfl)) ?_
 intro η_9
 refine b91 (ι:=Int) 0 1 [(15,15),(108,113)] (fun u1=>[(15,.one (.int .i64 u1))]) (fun _=>[]) (fun u1=>((Gh.nil).and ((Gh.nil).and ((Gh.nil).and ((Gh.nil).and ((o8 y2 (t2)).and ((o8 (η_4 3) (Q)).and ((o8 (η_4 1) (P)).and ((E0 X Q).and ((E0 (η_3 1) (P)).and ((A4 (η_2 7) (N)).and ((A4 (η_2 3) (M)).and (Gh.nil))))))))))))) (fun u1=>u1 = aa5 (d 2) (d 3)) ⟨b9,hS,j6⟩ (by kernel_rfl) (by kernel_rfl) (fun hso=>?_) (fun u1 hu1=>?_)
 ·refine S6 (p:=1 + y5 (d 2) = 0) 110 (fun e1=>?_) (fun e1=>?_)
  ·refine Z8 (p:=1 + y5 (d 3) = 0) (fun e2=>?_) (fun e2=>?_)
   ·exact M7 (1) hso (by unfold aa5; rw [if_pos ⟨e1,e2⟩]) (fun S w hw hG=>⟨B5 rfl,fun p hp=>by cases hp⟩) (fun S w hw hG=>hG)
   exact M7 ((1 + y5 (d 2))) hso (by unfold aa5; rw [if_neg (fun h=>e2 h.2)]) (fun S w hw hG=>⟨B5 rfl,fun p hp=>by cases hp⟩) (fun S w hw hG=>hG)
  exact M7 ((1 + y5 (d 2))) hso (by unfold aa5; rw [if_neg (fun h=>e1 h.1)]) (fun S w hw hG=>⟨B5 rfl,fun p hp=>by cases hp⟩) (fun S w hw hG=>hG)
 refine n9 ?_
 refine j7 14 ?_
 refine b7 2 ?_
 refine o9 (fun x0=>.one (.ag 4 x0)) (fun x0=>qG x0 (((u1 : Int) : Rat))) (fun β η S w hS hs hw hG hd=>(kx (H6 hS (C0 (hu1 ▸ E1 _ _)).1 (C0 (hu1 ▸ E1 _ _)).2))) ?_
 refine b7 3 ?_
 refine o9 (fun x0=>.one (.ag 4 x0)) (fun x0=>qG x0 ((((u1 : Int) : Rat) * P.x))) (fun β η S w hS hs hw hG hd=>(kx (E9 hS (p6 hd 2 : (qG (η 2) (((u1 : Int) : Rat))).p S w) hG.2.2.2.2.2.2.2.2.1.2.1 (s6 (H2 (show Int.natAbs u1 < 1000000000 from Nat.lt_of_le_of_lt (hu1 ▸ E1 _ _) (by decide))) (by decide)) (s6 K.tP.1 (by decide))))) ?_
 refine b7 1 ?_
 refine o9 (fun x0=>.one (.ag 4 x0)) (fun x0=>qG x0 (((B7 (d 3) : Int) : Rat))) (fun β η S w hS hs hw hG hd=>(kx (H6 hS (C0 (E5 _)).1 (C0 (E5 _)).2))) ?_
 refine b7 3 ?_
 refine o9 (fun x0=>.one (.ag 4 x0)) (fun x0=>qG x0 ((((B7 (d 3) : Int) : Rat) * Q.x))) (fun β η S w hS hs hw hG hd=>(kx (E9 hS (p6 hd 8 : (qG (η 8) (((B7 (d 3) : Int) : Rat))).p S w) hG.2.2.2.2.2.2.2.1.2.1 (s6 (H2 (Nat.lt_of_le_of_lt (E5 _) (by decide))) (by decide)) (s6 K.tQ.1 (by decide))))) ?_
 refine o9 (fun x0=>.one (.ag 4 x0)) (fun x0=>qG x0 ((((u1 : Int) : Rat) * P.x + ((B7 (d 3) : Int) : Rat) * Q.x))) (fun β η S w hS hs hw hG hd=>(kx (ac1 hS (p6 hd 6 : (qG (η 6) ((((u1 : Int) : Rat) * P.x))).p S w) (p6 hd 12 : (qG (η 12) ((((B7 (d 3) : Int) : Rat) * Q.x))).p S w) (s6 (q9 (H2 (show Int.natAbs u1 < 1000000000 from Nat.lt_of_le_of_lt (hu1 ▸ E1 _ _) (by decide))) K.tP.1) (by decide)) (s6 (q9 (H2 (Nat.lt_of_le_of_lt (E5 _) (by decide))) K.tQ.1) (by decide))))) ?_
 refine j3 [true,false,false,false,false] ((o8 y2 (t2)).and ((o8 (η_4 3) (Q)).and ((o8 (η_4 1) (P)).and ((E0 X Q).and ((E0 (η_3 1) (P)).and ((A4 (η_2 7) (N)).and ((A4 (η_2 3) (M)).and (Gh.nil)))))))) (by exact fun _ _ h=>⟨h.2.2.2.2.1,h.2.2.2.2.2.1,h.2.2.2.2.2.2.1,h.2.2.2.2.2.2.2.1,h.2.2.2.2.2.2.2.2.1,h.2.2.2.2.2.2.2.2.2.1,h.2.2.2.2.2.2.2.2.2.2.1,trivial⟩) (fun g η=>(qG (η 13) ((((u1 : Int) : Rat) * P.x + ((B7 (d 3) : Int) : Rat) * Q.x))).and g) (fun g η=>(by kernel_rfl)) ?_
 intro η_10
 refine n9 ?_
 refine j7 14 ?_
 refine b7 2 ?_
 refine o9 (fun x0=>.one (.ag 4 x0)) (fun x0=>qG x0 (((u1 : Int) : Rat))) (fun β η S w hS hs hw hG hd=>(kx (H6 hS (C0 (hu1 ▸ E1 _ _)).1 (C0 (hu1 ▸ E1 _ _)).2))) ?_
 refine b7 3 ?_
 refine o9 (fun x0=>.one (.ag 4 x0)) (fun x0=>qG x0 ((((u1 : Int) : Rat) * P.y))) (fun β η S w hS hs hw hG hd=>(kx (E9 hS (p6 hd 2 : (qG (η 2) (((u1 : Int) : Rat))).p S w) hG.2.2.2.2.2.1.2.2.1 (s6 (H2 (show Int.natAbs u1 < 1000000000 from Nat.lt_of_le_of_lt (hu1 ▸ E1 _ _) (by decide))) (by decide)) (s6 K.tP.2.1 (by decide))))) ?_
 refine b7 1 ?_
 refine o9 (fun x0=>.one (.ag 4 x0)) (fun x0=>qG x0 (((B7 (d 3) : Int) : Rat))) (fun β η S w hS hs hw hG hd=>(kx (H6 hS (C0 (E5 _)).1 (C0 (E5 _)).2))) ?_
 refine b7 3 ?_
 refine o9 (fun x0=>.one (.ag 4 x0)) (fun x0=>qG x0 ((((B7 (d 3) : Int) : Rat) * Q.y))) (fun β η S w hS hs hw hG hd=>(kx (E9 hS (p6 hd 8 : (qG (η 8) (((B7 (d 3) : Int) : Rat))).p S w) hG.2.2.2.2.1.2.2.1 (s6 (H2 (Nat.lt_of_le_of_lt (E5 _) (by decide))) (by decide)) (s6 K.tQ.2.1 (by decide))))) ?_
 refine o9 (fun x0=>.one (.ag 4 x0)) (fun x0=>qG x0 ((((u1 : Int) : Rat) * P.y + ((B7 (d 3) : Int) : Rat) * Q.y))) (fun β η S w hS hs hw hG hd=>(kx (ac1 hS (p6 hd 6 : (qG (η 6) ((((u1 : Int) : Rat) * P.y))).p S w) (p6 hd 12 : (qG (η 12) ((((B7 (d 3) : Int) : Rat) * Q.y))).p S w) (s6 (q9 (H2 (show Int.natAbs u1 < 1000000000 from Nat.lt_of_le_of_lt (hu1 ▸ E1 _ _) (by decide))) K.tP.2.1) (by decide)) (s6 (q9 (H2 (Nat.lt_of_le_of_lt (E5 _) (by decide))) K.tQ.2.1) (by decide))))) ?_
 refine j3 [true,false,false,false,false] ((qG (η_10 13) ((((u1 : Int) : Rat) * P.x + ((B7 (d 3) : Int) : Rat) * Q.x))).and ((o8 y2 (t2)).and ((o8 (η_4 3) (Q)).and ((o8 (η_4 1) (P)).and ((E0 X Q).and ((E0 (η_3 1) (P)).and ((A4 (η_2 7) (N)).and ((A4 (η_2 3) (M)).and (Gh.nil))))))))) (by exact fun _ _ h=>⟨h.1,h.2.1,h.2.2.1,h.2.2.2.1,h.2.2.2.2.1,h.2.2.2.2.2.1,h.2.2.2.2.2.2.1,h.2.2.2.2.2.2.2.1,trivial⟩) (fun g η=>(qG (η 13) ((((u1 : Int) : Rat) * P.y + ((B7 (d 3) : Int) : Rat) * Q.y))).and g) (fun g η=>(by kernel_rfl)) ?_
 intro η_11
 refine n9 ?_
 refine j7 14 ?_
 refine b7 2 ?_
 refine o9 (fun x0=>.one (.ag 4 x0)) (fun x0=>qG x0 (((u1 : Int) : Rat))) (fun β η S w hS hs hw hG hd=>(kx (H6 hS (C0 (hu1 ▸ E1 _ _)).1 (C0 (hu1 ▸ E1 _ _)).2))) ?_
 refine b7 3 ?_
 refine o9 (fun x0=>.one (.ag 4 x0)) (fun x0=>qG x0 ((((u1 : Int) : Rat) * P.z))) (fun β η S w hS hs hw hG hd=>(kx (E9 hS (p6 hd 2 : (qG (η 2) (((u1 : Int) : Rat))).p S w) hG.2.2.2.2.2.2.1.2.2.2 (s6 (H2 (show Int.natAbs u1 < 1000000000 from Nat.lt_of_le_of_lt (hu1 ▸ E1 _ _) (by decide))) (by decide)) (s6 K.tP.2.2 (by decide))))) ?_
 refine b7 1 ?_
 refine o9 (fun x0=>.one (.ag 4 x0)) (fun x0=>qG x0 (((B7 (d 3) : Int) : Rat))) (fun β η S w hS hs hw hG hd=>(kx (H6 hS (C0 (E5 _)).1 (C0 (E5 _)).2))) ?_
 refine b7 3 ?_
 refine o9 (fun x0=>.one (.ag 4 x0)) (fun x0=>qG x0 ((((B7 (d 3) : Int) : Rat) * Q.z))) (fun β η S w hS hs hw hG hd=>(kx (E9 hS (p6 hd 8 : (qG (η 8) (((B7 (d 3) : Int) : Rat))).p S w) hG.2.2.2.2.2.1.2.2.2 (s6 (H2 (Nat.lt_of_le_of_lt (E5 _) (by decide))) (by decide)) (s6 K.tQ.2.2 (by decide))))) ?_
 refine o9 (fun x0=>.one (.ag 4 x0)) (fun x0=>qG x0 ((((u1 : Int) : Rat) * P.z + ((B7 (d 3) : Int) : Rat) * Q.z))) (fun β η S w hS hs hw hG hd=>(kx (ac1 hS (p6 hd 6 : (qG (η 6) ((((u1 : Int) : Rat) * P.z))).p S w) (p6 hd 12 : (qG (η 12) ((((B7 (d 3) : Int) : Rat) * Q.z))).p S w) (s6 (q9 (H2 (show Int.natAbs u1 < 1000000000 from Nat.lt_of_le_of_lt (hu1 ▸ E1 _ _) (by decide))) K.tP.2.2) (by decide)) (s6 (q9 (H2 (Nat.lt_of_le_of_lt (E5 _) (by decide))) K.tQ.2.2) (by decide))))) ?_
 refine j3 [true,false,false,false,false] ((qG (η_11 13) ((((u1 : Int) : Rat) * P.y + ((B7 (d 3) : Int) : Rat) * Q.y))).and ((qG (η_10 13) ((((u1 : Int) : Rat) * P.x + ((B7 (d 3) : Int) : Rat) * Q.x))).and ((o8 y2 (t2)).and ((o8 (η_4 3) (Q)).and ((o8 (η_4 1) (P)).and ((A4 (η_2 7) (N)).and ((A4 (η_2 3) (M)).and (Gh.nil)))))))) (by exact fun _ _ h=>⟨h.1,h.2.1,h.2.2.1,h.2.2.2.1,h.2.2.2.2.1,h.2.2.2.2.2.2.2.1,h.2.2.2.2.2.2.2.2.1,trivial⟩) (fun g η=>(qG (η 13) ((((u1 : Int) : Rat) * P.z + ((B7 (d 3) : Int) : Rat) * Q.z))).and g) (fun g η=>(by kernel_rfl)) ?_
 intro η_12
 refine n9 ?_
 refine B0 (fun x0=>.one (.ag 9 x0)) (fun x0=>o8 x0 (t3)) (fun _ _ _ h=>⟨h.ok,rfl⟩) (fun β S w hS hs hw hG=>(kx (L7 hS (p:=t3) (by rw [E3,← hu1]; exact ⟨_,_,_,rfl,hG.2.2.1,hG.2.1,hG.1⟩) (K.s3) (by decide)))) ?_
 intro y3
 refine n9 ?_
 refine B0 (fun x0=>.tup [(true,[.ag 3 (M8 x0 0)]),(false,[.tp ((L9 P Q t2 t3))]),(false,[.int .i64 ((O8 P Q t2 t3))])]) (fun x0=>cg4 x0 ((an3 P Q t2 t3)) ((L9 P Q t2 t3)) ((O8 P Q t2 t3))) (fun _ _ _ h=>co0 h) (fun β S w hS hs hw hG=>(kx ((a52 (ht.to hw) hS hG.2.2.2.2.2.2.1 hG.2.2.2.2.2.1 hG.2.2.2.2.1 hG.1 K.tP K.tQ K.s2 K.s3 (by decide)).mono fun v' w' h=>⟨h.1,by obtain ⟨x,e,hx⟩:=h.2; subst e; exact ⟨rfl,hx⟩⟩))) ?_
 intro r
 refine B0 (fun x0=>pr (.ag 9 (A8 x0)) (.lit .i64 0)) (fun x0=>F2 x0 (((P.cross Q).normal)) 0) (fun _ _ _ h=>K9 h) (fun β S w hS hs hw hG=>(kx ((cl1 (ht.to hw) hS hG.2.2.2.2.2.2.2.1 hG.2.2.2.2.2.2.1 K.tP K.tQ (by decide) K.tL (by decide)).mono fun v' w' h=>⟨h.1,by have h2:=h.2; rw [K.je,K.jt] at h2; exact h2⟩))) ?_
 intro j
 refine B0 (fun x0=>pr (.ag 9 (A8 x0)) (.lit .i64 0)) (fun x0=>F2 x0 (I) 0) (fun _ _ _ h=>K9 h) (fun β S w hS hs hw hG=>(kx ((bt0 (ht.to hw) hS hG.2.2.2.2.2.2.2.2.2.2.1 hG.1.2 K.lM (by decide) K.tL (by decide) (K.EI ▸ K.ti) (by decide) K.eM K.bL).mono fun v' w' h=>⟨h.1,K.EI ▸ h.2⟩))) ?_
 intro i
 refine B0 (fun x0=>pr (.ag 27 (A8 x0)) (.lit .i64 0)) (fun x0=>am8 x0 (B) 0) (fun _ _ _ h=>bc3 h) (fun β S w hS hs hw hG=>(kx ((dh0 (ht.to hw) hS hG.2.2.2.2.2.2.2.2.2.2.2.1 K.lM (by decide) (K.EB ▸ K.lb) (by decide) K.eM).mono fun v' w' h=>⟨h.1,K.EB ▸ h.2⟩))) ?_
 intro b
 refine n9 ?_
 refine j7 10 ?_
 refine b7 4 ?_
 refine h_1 (fun x0=>pr (.ag 9 (A8 x0)) (.lit .i64 0)) (fun x0=>F2 x0 (q0) 0) (fun η=>(by kernel_rfl)) (fun _ _ _ h=>K9 h) (fun β η S w hS hs hw hG hd=>(kx ((R3 (ht.to hw) hS hG.2.2.2.2.2.2.2.2.2.2.2.2.1 hG.2.2.2.2.2.2.2.2.2.2.1 K.lM (by decide) K.tP (by decide) K.k0.tx (by decide)).mono fun v' w' h=>⟨h.1,by have h2:=h.2; rw [if_pos K.k0.app,K.k0.app,← K.X0] at h2; exact h2⟩))) ?_
 refine b7 5 ?_
 refine j3 [true] ((am8 b (B) 0).and ((F2 i (I) 0).and ((cg4 r ((an3 P Q t2 t3)) ((L9 P Q t2 t3)) ((O8 P Q t2 t3))).and ((o8 y3 (t3)).and ((o8 y2 (t2)).and ((o8 (η_4 3) (Q)).and ((o8 (η_4 1) (P)).and ((A4 (η_2 7) (N)).and ((A4 (η_2 3) (M)).and (Gh.nil)))))))))) (by exact fun _ _ h=>⟨h.1,h.2.1,h.2.2.2.1,h.2.2.2.2.1,h.2.2.2.2.2.2.2.2.1,h.2.2.2.2.2.2.2.2.2.1,h.2.2.2.2.2.2.2.2.2.2.1,h.2.2.2.2.2.2.2.2.2.2.2.1,h.2.2.2.2.2.2.2.2.2.2.2.2.1,trivial⟩) (fun g η=>(F2 (η 4) (q0) 0).and g) (fun g η=>(by kernel_rfl)) ?_
 intro η_13
 refine B6 (pr (.bb true) (.lit .i64 0)) rfl (fun β S w hS hs hw hG=>(kx (gK (b77 (ht.to hw) hS hG.1.2 hG.2.2.1.2 (K.X0 ▸ K.k0.tx) K.ti (by decide)) (by rw [m6 (show OnP q0 I by rw [K.X0,K.EI]; exact K.k0.on),show Q8 q0 I = 0 by rw [K.X0,K.EI]; exact K.k0.on.1]; rfl)))) ?_
 refine B0 (fun x0=>pr (.ag 9 (A8 x0)) (.lit .i64 0)) (fun x0=>F2 x0 ((P.normal)) 0) (fun _ _ _ h=>K9 h) (fun β S w hS hs hw hG=>(kx ((R3 (ht.to hw) hS hG.2.1.2 hG.1.2 K.lb (by decide) (K.X0 ▸ K.k0.tx) (by decide) (show tl (B.apply q0).normal 1 by rw [K.EB,K.X0,K.k0.eq]; exact K.k0.tn) (by decide)).mono fun v' w' h=>⟨h.1,by have h2:=h.2; rw [K.EB,K.X0,if_pos K.k0.app2,K.k0.app2,K.k0.eq] at h2; exact h2⟩))) ?_
 intro z0
 refine B0 (fun x0=>pr (.ag 9 (A8 x0)) (.lit .i64 0)) (fun x0=>F2 x0 ((P.normal)) 0) (fun _ _ _ h=>K9 h) (fun β S w hS hs hw hG=>(kx ((ar8 (ht.to hw) hS hG.2.2.2.2.2.2.2.2.1 K.tP (by decide) K.k0.tn (by decide)).mono fun v' w' h=>⟨h.1,by have h2:=h.2; rw [if_pos K.k0.b,K.k0.b] at h2; exact h2⟩))) ?_
 intro o0
 refine B6 (.one (.bb true)) rfl (fun β S w hS hs hw hG=>(kx (ap2 hS hG.2.1.2 hG.1.2 K.k0.tn (by decide) rfl))) ?_
 refine n9 ?_
 refine j7 10 ?_
 refine b7 4 ?_
 refine h_1 (fun x0=>pr (.ag 9 (A8 x0)) (.lit .i64 0)) (fun x0=>F2 x0 (q1) 0) (fun η=>(by kernel_rfl)) (fun _ _ _ h=>K9 h) (fun β η S w hS hs hw hG hd=>(kx ((R3 (ht.to hw) hS hG.2.2.2.2.2.2.2.2.2.2.2.1 hG.2.2.2.2.2.2.2.2.1 K.lM (by decide) K.tQ (by decide) K.k1.tx (by decide)).mono fun v' w' h=>⟨h.1,by have h2:=h.2; rw [if_pos K.k1.app,K.k1.app,← K.X1] at h2; exact h2⟩))) ?_
 refine b7 5 ?_
 refine j3 [true] ((F2 (η_13 4) (q0) 0).and ((am8 b (B) 0).and ((F2 i (I) 0).and ((cg4 r ((an3 P Q t2 t3)) ((L9 P Q t2 t3)) ((O8 P Q t2 t3))).and ((o8 y3 (t3)).and ((o8 y2 (t2)).and ((o8 (η_4 3) (Q)).and ((o8 (η_4 1) (P)).and ((A4 (η_2 7) (N)).and ((A4 (η_2 3) (M)).and (Gh.nil))))))))))) (by exact fun _ _ h=>⟨h.2.2.1,h.2.2.2.1,h.2.2.2.2.1,h.2.2.2.2.2.1,h.2.2.2.2.2.2.1,h.2.2.2.2.2.2.2.1,h.2.2.2.2.2.2.2.2.1,h.2.2.2.2.2.2.2.2.2.1,h.2.2.2.2.2.2.2.2.2.2.1,h.2.2.2.2.2.2.2.2.2.2.2.1,trivial⟩) (fun g η=>(F2 (η 4) (q1) 0).and g) (fun g η=>(by kernel_rfl)) ?_
 intro η_14
 refine B6 (pr (.bb true) (.lit .i64 0)) rfl (fun β S w hS hs hw hG=>(kx (gK (b77 (ht.to hw) hS hG.1.2 hG.2.2.2.1.2 (K.X1 ▸ K.k1.tx) K.ti (by decide)) (by rw [m6 (show OnP q1 I by rw [K.X1,K.EI]; exact K.k1.on),show Q8 q1 I = 0 by rw [K.X1,K.EI]; exact K.k1.on.1]; rfl)))) ?_
 refine B0 (fun x0=>pr (.ag 9 (A8 x0)) (.lit .i64 0)) (fun x0=>F2 x0 ((Q.normal)) 0) (fun _ _ _ h=>K9 h) (fun β S w hS hs hw hG=>(kx ((R3 (ht.to hw) hS hG.2.2.1.2 hG.1.2 K.lb (by decide) (K.X1 ▸ K.k1.tx) (by decide) (show tl (B.apply q1).normal 1 by rw [K.EB,K.X1,K.k1.eq]; exact K.k1.tn) (by decide)).mono fun v' w' h=>⟨h.1,by have h2:=h.2; rw [K.EB,K.X1,if_pos K.k1.app2,K.k1.app2,K.k1.eq] at h2; exact h2⟩))) ?_
 intro z1
 refine B0 (fun x0=>pr (.ag 9 (A8 x0)) (.lit .i64 0)) (fun x0=>F2 x0 ((Q.normal)) 0) (fun _ _ _ h=>K9 h) (fun β S w hS hs hw hG=>(kx ((ar8 (ht.to hw) hS hG.2.2.2.2.2.2.2.2.1 K.tQ (by decide) K.k1.tn (by decide)).mono fun v' w' h=>⟨h.1,by have h2:=h.2; rw [if_pos K.k1.b,K.k1.b] at h2; exact h2⟩))) ?_
 intro o1
 refine B6 (.one (.bb true)) rfl (fun β S w hS hs hw hG=>(kx (ap2 hS hG.2.1.2 hG.1.2 K.k1.tn (by decide) rfl))) ?_
 refine n9 ?_
 refine j7 10 ?_
 refine b7 4 ?_
 refine h_1 (fun x0=>pr (.ag 9 (A8 x0)) (.lit .i64 0)) (fun x0=>F2 x0 (q2) 0) (fun η=>(by kernel_rfl)) (fun _ _ _ h=>K9 h) (fun β η S w hS hs hw hG hd=>(kx ((R3 (ht.to hw) hS hG.2.2.2.2.2.2.2.2.2.2.2.2.1 hG.2.2.2.2.2.2.2.2.1 K.lM (by decide) K.s2 (by decide) K.k2.tx (by decide)).mono fun v' w' h=>⟨h.1,by have h2:=h.2; rw [if_pos K.k2.app,K.k2.app,← K.X2] at h2; exact h2⟩))) ?_
 refine b7 5 ?_
 refine j3 [true] ((F2 (η_14 4) (q1) 0).and ((F2 (η_13 4) (q0) 0).and ((am8 b (B) 0).and ((F2 i (I) 0).and ((cg4 r ((an3 P Q t2 t3)) ((L9 P Q t2 t3)) ((O8 P Q t2 t3))).and ((o8 y3 (t3)).and ((o8 y2 (t2)).and ((o8 (η_4 1) (P)).and ((A4 (η_2 7) (N)).and ((A4 (η_2 3) (M)).and (Gh.nil))))))))))) (by exact fun _ _ h=>⟨h.2.2.1,h.2.2.2.1,h.2.2.2.2.1,h.2.2.2.2.2.1,h.2.2.2.2.2.2.1,h.2.2.2.2.2.2.2.1,h.2.2.2.2.2.2.2.2.1,h.2.2.2.2.2.2.2.2.2.2.1,h.2.2.2.2.2.2.2.2.2.2.2.1,h.2.2.2.2.2.2.2.2.2.2.2.2.1,trivial⟩) (fun g η=>(F2 (η 4) (q2) 0).and g) (fun g η=>(by kernel_rfl)) ?_
 intro η_15
 refine B6 (pr (.bb true) (.lit .i64 0)) rfl (fun β S w hS hs hw hG=>(kx (gK (b77 (ht.to hw) hS hG.1.2 hG.2.2.2.2.1.2 (K.X2 ▸ K.k2.tx) K.ti (by decide)) (by rw [m6 (show OnP q2 I by rw [K.X2,K.EI]; exact K.k2.on),show Q8 q2 I = 0 by rw [K.X2,K.EI]; exact K.k2.on.1]; rfl)))) ?_
 refine B0 (fun x0=>pr (.ag 9 (A8 x0)) (.lit .i64 0)) (fun x0=>F2 x0 ((t2.normal)) 0) (fun _ _ _ h=>K9 h) (fun β S w hS hs hw hG=>(kx ((R3 (ht.to hw) hS hG.2.2.2.1.2 hG.1.2 K.lb (by decide) (K.X2 ▸ K.k2.tx) (by decide) (show tl (B.apply q2).normal 1 by rw [K.EB,K.X2,K.k2.eq]; exact K.k2.tn) (by decide)).mono fun v' w' h=>⟨h.1,by have h2:=h.2; rw [K.EB,K.X2,if_pos K.k2.app2,K.k2.app2,K.k2.eq] at h2; exact h2⟩))) ?_
 intro z2
 refine B0 (fun x0=>pr (.ag 9 (A8 x0)) (.lit .i64 0)) (fun x0=>F2 x0 ((t2.normal)) 0) (fun _ _ _ h=>K9 h) (fun β S w hS hs hw hG=>(kx ((ar8 (ht.to hw) hS hG.2.2.2.2.2.2.2.2.1 K.s2 (by decide) K.k2.tn (by decide)).mono fun v' w' h=>⟨h.1,by have h2:=h.2; rw [if_pos K.k2.b,K.k2.b] at h2; exact h2⟩))) ?_
 intro o2
 refine B6 (.one (.bb true)) rfl (fun β S w hS hs hw hG=>(kx (ap2 hS hG.2.1.2 hG.1.2 K.k2.tn (by decide) rfl))) ?_
 refine n9 ?_
 refine j7 10 ?_
 refine b7 4 ?_
 refine h_1 (fun x0=>pr (.ag 9 (A8 x0)) (.lit .i64 0)) (fun x0=>F2 x0 (q3) 0) (fun η=>(by kernel_rfl)) (fun _ _ _ h=>K9 h) (fun β η S w hS hs hw hG hd=>(kx ((R3 (ht.to hw) hS hG.2.2.2.2.2.2.2.2.2.2.2.2.1 hG.2.2.2.2.2.2.2.2.1 K.lM (by decide) K.s3 (by decide) K.k3.tx (by decide)).mono fun v' w' h=>⟨h.1,by have h2:=h.2; rw [if_pos K.k3.app,K.k3.app,← K.X3] at h2; exact h2⟩))) ?_
 refine b7 5 ?_
 refine j3 [true] ((F2 (η_15 4) (q2) 0).and ((F2 (η_14 4) (q1) 0).and ((F2 (η_13 4) (q0) 0).and ((am8 b (B) 0).and ((F2 i (I) 0).and ((cg4 r ((an3 P Q t2 t3)) ((L9 P Q t2 t3)) ((O8 P Q t2 t3))).and ((o8 y3 (t3)).and ((o8 (η_4 1) (P)).and ((A4 (η_2 7) (N)).and ((A4 (η_2 3) (M)).and (Gh.nil))))))))))) (by exact fun _ _ h=>⟨h.2.2.1,h.2.2.2.1,h.2.2.2.2.1,h.2.2.2.2.2.1,h.2.2.2.2.2.2.1,h.2.2.2.2.2.2.2.1,h.2.2.2.2.2.2.2.2.1,h.2.2.2.2.2.2.2.2.2.2.1,h.2.2.2.2.2.2.2.2.2.2.2.1,h.2.2.2.2.2.2.2.2.2.2.2.2.1,trivial⟩) (fun g η=>(F2 (η 4) (q3) 0).and g) (fun g η=>(by kernel_rfl)) ?_
 intro η_16
 refine B6 (pr (.bb true) (.lit .i64 0)) rfl (fun β S w hS hs hw hG=>(kx (gK (b77 (ht.to hw) hS hG.1.2 hG.2.2.2.2.2.1.2 (K.X3 ▸ K.k3.tx) K.ti (by decide)) (by rw [m6 (show OnP q3 I by rw [K.X3,K.EI]; exact K.k3.on),show Q8 q3 I = 0 by rw [K.X3,K.EI]; exact K.k3.on.1]; rfl)))) ?_
 refine B0 (fun x0=>pr (.ag 9 (A8 x0)) (.lit .i64 0)) (fun x0=>F2 x0 ((t3.normal)) 0) (fun _ _ _ h=>K9 h) (fun β S w hS hs hw hG=>(kx ((R3 (ht.to hw) hS hG.2.2.2.2.1.2 hG.1.2 K.lb (by decide) (K.X3 ▸ K.k3.tx) (by decide) (show tl (B.apply q3).normal 1 by rw [K.EB,K.X3,K.k3.eq]; exact K.k3.tn) (by decide)).mono fun v' w' h=>⟨h.1,by have h2:=h.2; rw [K.EB,K.X3,if_pos K.k3.app2,K.k3.app2,K.k3.eq] at h2; exact h2⟩))) ?_
 intro z3
 refine B0 (fun x0=>pr (.ag 9 (A8 x0)) (.lit .i64 0)) (fun x0=>F2 x0 ((t3.normal)) 0) (fun _ _ _ h=>K9 h) (fun β S w hS hs hw hG=>(kx ((ar8 (ht.to hw) hS hG.2.2.2.2.2.2.2.2.1 K.s3 (by decide) K.k3.tn (by decide)).mono fun v' w' h=>⟨h.1,by have h2:=h.2; rw [if_pos K.k3.b,K.k3.b] at h2; exact h2⟩))) ?_
 intro o3
 refine B6 (.one (.bb true)) rfl (fun β S w hS hs hw hG=>(kx (ap2 hS hG.2.1.2 hG.1.2 K.k3.tn (by decide) rfl))) ?_
 refine n9 ?_
 refine B0 (fun x0=>.tup [(true,[.ag 3 (M8 x0 0)]),(false,[.tp ((L9 P Q t2 t3))]),(false,[.int .i64 ((O8 P Q t2 t3))])]) (fun x0=>cg4 x0 ((an3 P Q t2 t3)) ((L9 P Q t2 t3)) ((O8 P Q t2 t3))) (fun _ _ _ h=>co0 h) (fun β S w hS hs hw hG=>(kx ((a52 (ht.to hw) hS hG.2.2.2.2.2.1.2 hG.2.2.2.2.1.2 hG.2.2.2.1.2 hG.2.2.1.2 (K.X0 ▸ K.k0.tx) (K.X1 ▸ K.k1.tx) (K.X2 ▸ K.k2.tx) (K.X3 ▸ K.k3.tx) (by decide)).mono fun v' w' h=>⟨h.1,by obtain ⟨x,e,hx⟩:=h.2; subst e; rw [K.hR.2.1] at hx; exact ⟨by rw [show L9 q0 q1 q2 q3 = L9 P Q t2 t3 from propext K.hR.2.2,K.hR.1]; rfl,hx⟩⟩))) ?_
 intro r2
 refine ai3 (p:=¬ O8 P Q t2 t3 = O8 P Q t2 t3) 254 ⟨b9,hS,j6⟩ (by kernel_rfl) (by kernel_rfl) (fun h=>h rfl) ?_
 refine ai3 (p:=¬ (L9 P Q t2 t3 ↔ L9 P Q t2 t3)) 259 ⟨b9,hS,j6⟩ (by kernel_rfl) (by kernel_rfl) (fun h=>h Iff.rfl) ?_
 refine B6 (.one (.lit .i64 0)) rfl (fun β S w hS hs hw hG=>(kx (gK (bv1 hS hG.1.2 hG.2.2.2.2.2.2.2.2.2.1.2 K.rV K.rV) (by rw [Int.sub_self]; rfl)))) ?_
 refine B0 (fun x0=>pr (.ag 27 (A8 x0)) (.lit .i64 0)) (fun x0=>am8 x0 (C) 0) (fun _ _ _ h=>bc3 h) (fun β S w hS hs hw hG=>(kx ((c07 (ht.to hw) hS hG.2.2.2.2.2.2.2.2.2.2.2.2.1 hG.2.2.2.2.2.2.2.2.2.2.2.2.2.1 K.lN K.lM (by decide) (K.EC ▸ K.lA) (by decide) K.eN K.eM).mono fun v' w' h=>⟨h.1,K.EC ▸ h.2⟩))) ?_
 intro aA
 refine B0 (fun x0=>pr (.ag 9 (A8 x0)) (.lit .i64 0)) (fun x0=>F2 x0 (((C.apply P).normal)) 0) (fun _ _ _ h=>K9 h) (fun β S w hS hs hw hG=>(kx ((R3 (ht.to hw) hS hG.1.2 hG.2.2.2.2.2.2.2.2.2.2.2.2.1 K.lA (by decide) K.tP (by decide) K.tA (by decide)).mono fun v' w' h=>⟨h.1,by have h2:=h.2; rw [if_pos (a41 K.eA K.k0.b),a41 K.eA K.k0.b] at h2; exact h2⟩))) ?_
 intro vx
 refine B0 (fun x0=>pr (.ag 9 (A8 x0)) (.lit .i64 0)) (fun x0=>F2 x0 (((C.apply P).normal)) 0) (fun _ _ _ h=>K9 h) (fun β S w hS hs hw hG=>(kx ((R3 (ht.to hw) hS hG.2.2.2.2.2.2.2.2.2.2.2.2.2.2.1 hG.2.2.2.2.2.2.2.2.1.2 K.lN (by decide) (K.X0 ▸ K.k0.tx) (by decide) (show tl (N.apply q0).normal 1 by rw [← K.eq2]; exact K.tA) (by decide)).mono fun v' w' h=>⟨h.1,by have h2:=h.2; rw [if_pos (a41 K.eN (K.X0 ▸ K.k0.bx)),a41 K.eN (K.X0 ▸ K.k0.bx),← K.eq2] at h2; exact h2⟩))) ?_
 intro vy
 refine B6 (.one (.bb true)) rfl (fun β S w hS hs hw hG=>(kx (ap2 hS hG.2.1.2 hG.1.2 K.tA (by decide) rfl))) ?_
 refine B6 (.one (.bb true)) rfl (fun β S w hS hs hw hG=>(kx (b18 (ht.to hw)))) ?_
 exact o6 (.bool true) rfl (fun S w hs hw hG=>⟨rfl,hw⟩)
theorem b68 {w : World} {l ab : Nat → Nat → Int} {d : Nat → Int} (ht : Tab w) :
  Gives prog 4 [.agg #[.int .i64 (l 0 0),.int .i64 (l 0 1),.int .i64 (l 0 2),.int .i64 (l 0 3),.int .i64 (l 0 4),.int .i64 (l 0 5),.int .i64 (l 0 6),.int .i64 (l 0 7),.int .i64 (l 0 8),.int .i64 (l 1 0),.int .i64 (l 1 1),.int .i64 (l 1 2),.int .i64 (l 1 3),.int .i64 (l 1 4),.int .i64 (l 1 5),.int .i64 (l 1 6),.int .i64 (l 1 7),.int .i64 (l 1 8)],.agg #[.int .i64 (ab 0 0),.int .i64 (ab 0 1),.int .i64 (ab 0 2),.int .i64 (ab 0 3),.int .i64 (ab 0 4),.int .i64 (ab 0 5),.int .i64 (ab 1 0),.int .i64 (ab 1 1),.int .i64 (ab 1 2),.int .i64 (ab 1 3),.int .i64 (ab 1 4),.int .i64 (ab 1 5)],.agg #[.int .i64 (d 0),.int .i64 (d 1),.int .i64 (d 2),.int .i64 (d 3)]] w fun v' w'=>v' = .bool true ∧ Ext w w':=by
 have sP:=cp2 (ab 0)
 have sQ0:=cp2 (ab 1)
 have sQ:=c02 sP sQ0
 exact b76 ht rfl rfl rfl rfl rfl (sQ0.tl (by decide)) (sP.tl (by decide)) (sQ.tl (by decide)) (b36 (bd6 (l 0)) (by decide)) (b36 (bd6 (l 1)) (by decide)) rfl rfl (fun hs=>c92 (a:=d 0) (b:=d 1) (c:=d 2) (d:=d 3) (b78 (l 0)) (b78 (l 1)) (bd6 (l 0)) (bd6 (l 1)) sP sQ hs rfl rfl)
end Go.Proofs.YtmjbiocildkhnaaGreatDoor
end
section
namespace Go.Proofs.YtmjbiocildkhnaaGreatDoor
open Go Go.RowKit Go.ChangeShapes Go.WideShapes Go.Proofs.Tryz
theorem cl6 {H : Type} {enc : TypeId × Value → H} {P : Program} {w : World} {base n : Nat} {spare : Nat → Bool} {held : Bool} {e f : TypeId} {fuel : Nat} {cs : List Value} {x : DataW H × List MemPlace}
  (he : P.underlying e = some (.array n f)) (hf : P.underlying f = some (.int .i64)) (hcf : P.cellsOf f = 1) (hce : P.cellsOf e = n) (h : DataW.trod enc P w base spare held fuel e cs = some x) : ∃ a : Nat → Int,cs = (List.range n).map (fun i=>Value.int .i64 (a i)) ∧ ∀ i,i < n → -9223372036854775808 ≤ a i ∧ a i ≤ 9223372036854775807:=by
 cases fuel with
 | zero=>simp [DataW.trod] at h
 | succ fuel=>
  rw [DataW.trod_step] at h
  unfold DataW.trodStep at h
  rw [he] at h
  simp only at h
  split at h
  ·rename_i hl
   rw [hce] at hl
   simp only [Option.map_eq_some_iff] at h
   obtain ⟨xs,hx,rfl⟩:=h
   have hel : ∀ i,i < n → ∃ z : Int,(cs.drop i).take 1 = [.int .i64 z] ∧ -9223372036854775808 ≤ z ∧ z ≤ 9223372036854775807:=by
    intro i hi
    have h1:=mapM_some_get hx i i (by rw [List.getElem?_range hi])
    have hxl:=mapM_some_length hx
    simp at hxl
    rw [List.getElem?_eq_getElem (by omega)] at h1
    rw [hcf,Nat.mul_one] at h1
    obtain ⟨z,h2,_,h3⟩:=DataW.trod_int hf h1
    refine ⟨z,h2,?_⟩
    simp only [Lit.wf,IntKind.min,IntKind.max,IntKind.signed,IntKind.bits,Bool.and_eq_true,decide_eq_true_eq] at h3
    refine ⟨?_,?_⟩ <;> · have h4:=h3; simp at h4; omega
   have hall : ∀ i : Nat,∃ z : Int,i < n → (cs.drop i).take 1 = [.int .i64 z] ∧ -9223372036854775808 ≤ z ∧ z ≤ 9223372036854775807:=by
    intro i
    by_cases hi : i < n
    ·obtain ⟨z,hz⟩:=hel i hi
     exact ⟨z,fun _=>hz⟩
    exact ⟨0,fun h=>absurd h hi⟩
   refine ⟨fun i=>(hall i).choose,?_,fun i hi=>((hall i).choose_spec hi).2⟩
   refine List.ext_getElem? fun i=>?_
   by_cases hi : i < n
   ·have h1:=((hall i).choose_spec hi).1
    have h2 : ((cs.drop i).take 1)[0]? = cs[i]?:=by simp
    rw [List.getElem?_map,List.getElem?_range hi]
    exact h2.symm.trans (congrArg (fun l : List Value=>l[0]?) h1)
   rw [List.getElem?_eq_none (by omega),List.getElem?_eq_none (by simp; omega)]
  cases h
theorem ay9 {P : Program} {w : World} {r : Reach} {base n : Nat} {t e : TypeId} {v : Value} (ht : P.underlying t = some (.array n e)) (h : Value.okWide P w r base t v) : ∃ cs,v = .agg cs:=by
 unfold Value.okWide at h
 rw [ht] at h
 obtain ⟨cs,h1,_⟩:=h
 exact ⟨cs,h1⟩
def dt8 (n : Nat) (a : Nat → Int) : Value:=.agg ((List.range n).map fun i=>Value.int .i64 (a i)).toArray
theorem cu8 {H : Type} {enc : TypeId × Value → H} {P : Program} {w W : World} {r : Reach} {base b2 n : Nat} {spare : Nat → Bool} {held : Bool} {e f : TypeId} {v : Value} {d : DataW H} {p : List MemPlace}
  (he : P.underlying e = some (.array n f)) (hf : P.underlying f = some (.int .i64)) (hcf : P.cellsOf f = 1) (hce : P.cellsOf e = n) (hv : Value.okWide P W r b2 e v) (h : DataW.Trod enc P w base spare held e v d p) : ∃ a : Nat → Int,v = dt8 n a ∧ ∀ i,i < n → -9223372036854775808 ≤ a i ∧ a i ≤ 9223372036854775807:=by
 obtain ⟨cs,rfl⟩:=ay9 he hv
 obtain ⟨fuel,h⟩:=h
 obtain ⟨a,h1,h2⟩:=cl6 he hf hcf hce h
 refine ⟨a,?_,h2⟩
 unfold dt8
 rw [← h1]
 simp [Value.cells]
theorem ct3 {α : Type} {n : Nat} {cs : List α} : ∀ k,k * n ≤ cs.length → (List.range k).flatMap (fun i=>(cs.drop (i * n)).take n) = cs.take (k * n):=by
 intro k
 induction k with
 | zero=>intro _; simp
 | succ k ih=>
  intro h
  rw [Nat.add_mul,Nat.one_mul] at h ⊢
  rw [List.range_succ,List.flatMap_append,ih (by omega),List.take_add]
  simp
def c75 (m n : Nat) (l : Nat → Nat → Int) : List Value:=(List.range m).flatMap fun i=>(List.range n).map fun j=>Value.int .i64 (l i j)
def ci5 (m n : Nat) (l : Nat → Nat → Int) : Value:=.agg (c75 m n l).toArray
theorem dk5 {H : Type} {enc : TypeId × Value → H} {P : Program} {w : World} {base m n : Nat} {spare : Nat → Bool} {held : Bool} {g e f : TypeId} {fuel : Nat} {cs : List Value} {x : DataW H × List MemPlace}
  (hg : P.underlying g = some (.array m e)) (he : P.underlying e = some (.array n f)) (hf : P.underlying f = some (.int .i64)) (hcf : P.cellsOf f = 1) (hce : P.cellsOf e = n) (hcg : P.cellsOf g = m * n) (h : DataW.trod enc P w base spare held fuel g cs = some x) :
  ∃ l : Nat → Nat → Int,cs = c75 m n l ∧ ∀ i,i < m → ∀ j,j < n → -9223372036854775808 ≤ l i j ∧ l i j ≤ 9223372036854775807:=by
 cases fuel with
 | zero=>simp [DataW.trod] at h
 | succ fuel=>
  rw [DataW.trod_step] at h
  unfold DataW.trodStep at h
  rw [hg] at h
  simp only at h
  split at h
  ·rename_i hl
   rw [hcg] at hl
   simp only [Option.map_eq_some_iff] at h
   obtain ⟨xs,hx,rfl⟩:=h
   have hel : ∀ i,i < m → ∃ a : Nat → Int,(cs.drop (i * n)).take n = (List.range n).map (fun j=>Value.int .i64 (a j)) ∧ ∀ j,j < n → -9223372036854775808 ≤ a j ∧ a j ≤ 9223372036854775807:=by
    intro i hi
    have h1:=mapM_some_get hx i i (by rw [List.getElem?_range hi])
    have hxl:=mapM_some_length hx
    simp at hxl
    rw [List.getElem?_eq_getElem (by omega)] at h1
    rw [hce] at h1
    exact cl6 he hf hcf hce h1
   have hall : ∀ i : Nat,∃ a : Nat → Int,i < m → (cs.drop (i * n)).take n = (List.range n).map (fun j=>Value.int .i64 (a j)) ∧ ∀ j,j < n → -9223372036854775808 ≤ a j ∧ a j ≤ 9223372036854775807:=by
    intro i
    by_cases hi : i < m
    ·obtain ⟨a,ha⟩:=hel i hi
     exact ⟨a,fun _=>ha⟩
    exact ⟨fun _=>0,fun h=>absurd h hi⟩
   refine ⟨fun i=>(hall i).choose,?_,fun i hi=>((hall i).choose_spec hi).2⟩
   have e1:=ct3 (n:=n) (cs:=cs) m (by omega)
   rw [List.take_of_length_le (by omega)] at e1
   refine e1.symm.trans ?_
   unfold c75
   rw [List.flatMap_def,List.flatMap_def]
   congr 1
   exact List.map_congr_left fun i hi=>((hall i).choose_spec (List.mem_range.1 hi)).1
  cases h
theorem bp6 {H : Type} {enc : TypeId × Value → H} {P : Program} {w W : World} {r : Reach} {base b2 m n : Nat} {spare : Nat → Bool} {held : Bool} {g e f : TypeId} {v : Value} {d : DataW H} {p : List MemPlace}
  (hg : P.underlying g = some (.array m e)) (he : P.underlying e = some (.array n f)) (hf : P.underlying f = some (.int .i64)) (hcf : P.cellsOf f = 1) (hce : P.cellsOf e = n) (hcg : P.cellsOf g = m * n) (hv : Value.okWide P W r b2 g v) (h : DataW.Trod enc P w base spare held g v d p) :
  ∃ l : Nat → Nat → Int,v = ci5 m n l ∧ ∀ i,i < m → ∀ j,j < n → -9223372036854775808 ≤ l i j ∧ l i j ≤ 9223372036854775807:=by
 obtain ⟨cs,rfl⟩:=ay9 hg hv
 obtain ⟨fuel,h⟩:=h
 obtain ⟨l,h1,h2⟩:=dk5 hg he hf hcf hce hcg h
 refine ⟨l,?_,h2⟩
 unfold ci5
 rw [← h1]
 simp [Value.cells]
end Go.Proofs.YtmjbiocildkhnaaGreatDoor
end
section
namespace Go.Proofs.YtmjbiocildkhnaaGreatDoor
open Go Go.ChangeShapes Go.WideShapes Go.ChangeAt Go.WideMaps Go.WideElems Go.RowKit Go.Proofs.Tryz
theorem own : ownKnob prog.godebug = none:=by kernel_rfl
theorem d80 : prog.globalNamed "internal/strconv.uint64pow10" = some 3 := by kernel_rfl
theorem d78 : (prog.globals[3]?).map (·.type) = some 267:=by kernel_rfl
theorem d67 : prog.cellsOf 267 = 20:=by kernel_rfl
theorem d50 : prog.cellsOf 161 = 1:=by kernel_rfl
theorem d97 : (Rows.laid_internal_strconv_uint64pow10 : DataW Unit) = Lib.tabData .u64 Lib.pow10Tab:=by rfl
theorem dw2 {W : World} (h : laidMetH prog Rows.viewKeepsRow.laid W) : Tab W:=by
 rw [MakeChecks.laidMetH_plain _ _ _ (by kernel_rfl)] at h
 obtain ⟨ps,⟨g0,t0,cs0,f0,p0,q0,hg0,ht0,hv0,hd0,⟨g1,t1,cs1,f1,p1,q1,hg1,ht1,hv1,hd1,⟨g2,t2,cs2,f2,p2,q2,hg2,ht2,hv2,hd2,_⟩,_⟩,_⟩,_⟩:=h
 obtain rfl:=Option.some.inj (d80.symm.trans hg2)
 obtain rfl:=Option.some.inj (d78.symm.trans ht2)
 rw [d97] at hd2
 unfold Tab Lib.TabIs
 rw [hv2,← Lib.cells_of_tab underlying267 underlying161 d50 d67 hd2]
theorem dj9 (os : Os) (args : Array Value) : laidMetH prog Rows.viewKeepsRow.laid ((World.laidAll prog os Rows.viewKeepsRow.laid).forCall (fun _ _=>0) ⟨#[],args,[]⟩).memory:=by
 rw [MakeChecks.laidMetH_plain _ _ _ (by kernel_rfl)]
 exact laidMet_laidAll _ (by kernel_rfl) (by kernel_rfl)
theorem bt3 : laidOutB prog = true:=by kernel_rfl
theorem cd0 : prog.cellsOf 3 = 1:=by kernel_rfl
theorem dk7 : prog.cellsOf 78 = 2 * 9:=by kernel_rfl
theorem dr3 : prog.cellsOf 25 = 9:=by kernel_rfl
theorem bb8 : prog.cellsOf 79 = 2 * 6:=by kernel_rfl
theorem bk4 : prog.cellsOf 23 = 6:=by kernel_rfl
theorem dz7 : prog.cellsOf 80 = 4:=by kernel_rfl
theorem bs2 (os : Os) (started : os.Started) (H : Type) (enc : TypeId × Value → H) :
  ReturnsInHanded {} Tryz.checked os 4 .any (fun w args=>(Rows.viewKeepsSpec.pre enc prog f4 [] false w args ∧ laidMetH prog Rows.viewKeepsRow.laid w) ∧ sizedMet enc prog f4 (OpenSpec.ofChange Rows.viewKeepsSpec) false w args)
   (Rows.viewKeepsSpec.post enc prog f4 false true false false):=by
 refine returnsInHanded_of_change_and (C:=Tryz.checked) (X:=fun w _=>laidMetH prog Rows.viewKeepsRow.laid w) (fun _ _ _ hh h=>h.of_heap hh) own started (by kernel_rfl) func4
  (ChangeSpec.witness_shaped (enc:=enc) (C:=Tryz.checked) (os:=os) (X:=fun w _=>laidMetH prog Rows.viewKeepsRow.laid w) false (World.laidAll prog os Rows.viewKeepsRow.laid) #[.agg #[.int .i64 0,.int .i64 0,.int .i64 0,.int .i64 0,.int .i64 0,.int .i64 0,.int .i64 0,.int .i64 0,.int .i64 0,.int .i64 0,.int .i64 0,.int .i64 0,.int .i64 0,.int .i64 0,.int .i64 0,.int .i64 0,.int .i64 0,.int .i64 0],.agg #[.int .i64 0,.int .i64 0,.int .i64 0,.int .i64 0,.int .i64 0,.int .i64 0,.int .i64 0,.int .i64 0,.int .i64 0,.int .i64 0,.int .i64 0,.int .i64 0],.agg #[.int .i64 0,.int .i64 0,.int .i64 0,.int .i64 0]] 8 (World.laidAll_os _ _ _) (World.shaped_of_ZipB (by kernel_rfl) (by kernel_rfl)) (by kernel_rfl) (by kernel_rfl) (by kernel_rfl) (dj9 os _)) ?_
 intro W base args ds gs before hval0 hW _ _ hL _
 have ab3 : ∀ (j : Nat) t v,f4.params[j]? = some t → args[j]? = some v → Value.okWide prog W .any base t v:=hval0
 have hW':=hW
 obtain ⟨p,q,hA0,hV,rfl,hfz,hnd⟩:=hW
 have hA : DataW.TrodAll enc prog W 0 (fun _=>true) true f4.params.toList args.toList ds p:=hA0
 rw [params4] at hA ab3
 obtain ⟨v0,v1,v2,d0,d1,d2,p0,p1,p2,rfl,rfl,rfl,h0,h1,h2⟩:=trodAll_three hA
 obtain ⟨rfl,rfl⟩:=trodVars_none hV
 have h0k:=h0
 have h1k:=h1
 have h2k:=h2
 obtain ⟨a,rfl,ba⟩:=bp6 underlying78 underlying25 underlying3 cd0 dr3 dk7 (ab3 0 78 v0 rfl rfl) h0
 obtain ⟨b,rfl,bb⟩:=bp6 underlying79 underlying23 underlying3 cd0 bk4 bb8 (ab3 1 79 v1 rfl rfl) h1
 obtain ⟨c,rfl,bc⟩:=cu8 underlying80 underlying3 cd0 dz7 (ab3 2 80 v2 rfl rfl) h2
 clear hA0 hval0
 have hlt : ∀ x ∈ p0 ++ p1 ++ p2,x.block < W.heap.size:=fun x hx=>hW'.lt x (List.mem_append_left _ hx)
 have hargs0 : ∀ (W' : World),Below W.heap.size W W' → DataW.Trod enc prog W' 0 (fun b=>decide (b < W.heap.size)) true 78 (ci5 2 9 a) d0 p0:=
  fun W' hn=>Below.trod bt3 (by kernel_rfl) (of_decide_eq_true (by kernel_rfl)) h0k hn fun x hx=>hlt x (by simp [hx])
 have hargs1 : ∀ (W' : World),Below W.heap.size W W' → DataW.Trod enc prog W' 0 (fun b=>decide (b < W.heap.size)) true 79 (ci5 2 6 b) d1 p1:=
  fun W' hn=>Below.trod bt3 (by kernel_rfl) (of_decide_eq_true (by kernel_rfl)) h1k hn fun x hx=>hlt x (by simp [hx])
 have hargs2 : ∀ (W' : World),Below W.heap.size W W' → DataW.Trod enc prog W' 0 (fun b=>decide (b < W.heap.size)) true 80 (dt8 4 c) d2 p2:=
  fun W' hn=>Below.trod bt3 (by kernel_rfl) (of_decide_eq_true (by kernel_rfl)) h2k hn fun x hx=>hlt x (by simp [hx])
 refine Calls.mono (b68 (l:=a) (ab:=b) (d:=c) (dw2 hL)) fun e W' ⟨v,he,hv,hw⟩=>?_
 subst he hv
 refine ⟨_,rfl,_,_,_,[],p0 ++ p1 ++ p2,[],hW',?_,?_,rfl,hw.below.frame _,fun h=>by cases h⟩
 ·exact trodAll_mk1 (shut_bool underlying4 _)
 rw [List.append_assoc]; exact trodAll_mk3 (hargs0 W' hw.below) (hargs1 W' hw.below) (hargs2 W' hw.below)
theorem cs4 : Rows.ViewKeepsSaid:=
 OpenClaim.holds_of_wide 4 f4 rfl rfl rfl rfl rfl rfl rfl ⟨rfl,rfl,rfl,rfl,rfl⟩ rfl rfl rfl rfl rfl (by kernel_rfl) func4 (by kernel_rfl)
  (of_decide_eq_true (by kernel_rfl)) (by unfold Func.isWrapper; first | (rw [if_pos (by decide +kernel)]; kernel_rfl) | (rw [if_neg (by decide +kernel)]; exact ⟨rfl,rfl⟩))
  (fun os started H enc _=>bs2 os started H enc)
theorem keeps_holds : Rows.ViewKeepsCardSaid:=
 Claim7.holds_tied_plain_at .later [] [.data,.data,.data,.data,.sentinel,.sentinel,.pinned] true Rows.viewKeepsCard.stood.harness true
  cs4 (fun _ h=>by cases h) (by kernel_rfl) (fun _ h=>by cases h) viewKeeps_row_tie rfl ⟨rfl,rfl⟩ (by kernel_rfl) rfl
  (fun f fn hf hfn=>by
   obtain rfl : f = 4 := Option.some.inj ((show prog.funcNamed "rabbet/rabbetlaw06.ViewKeeps" = some 4 by kernel_rfl).symm.trans hf) |>.symm
   obtain rfl : fn = f4:=(Option.some.inj (func4.symm.trans hfn)).symm
   exact ⟨by kernel_rfl,fun j t ht=>by
    rw [params4] at ht
    rcases j with _ | _ | _ | j
    ·obtain rfl : t = 78:=by simpa using ht.symm
     exact (show prog.wantsStandIn 78 = false by kernel_rfl)
    ·obtain rfl : t = 79:=by simpa using ht.symm
     exact (show prog.wantsStandIn 79 = false by kernel_rfl)
    ·obtain rfl : t = 80:=by simpa using ht.symm
     exact (show prog.wantsStandIn 80 = false by kernel_rfl)
    simp at ht⟩)
  (by kernel_rfl)
end Go.Proofs.YtmjbiocildkhnaaGreatDoor
end

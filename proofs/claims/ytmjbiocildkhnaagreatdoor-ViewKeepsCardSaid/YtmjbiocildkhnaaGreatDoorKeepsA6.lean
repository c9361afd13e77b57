/- Part 6. -/
import Derived.Test.YtmjbiocildkhnaaGreatDoorKeepsA5
import Derived.Test.YtmjbiocildkhnaaGreatDoorKeepsA3
set_option linter.unusedSectionVars false
set_option linter.unusedSimpArgs false
set_option linter.unusedVariables false
set_option maxRecDepth 100000
set_option maxHeartbeats 8000000
section
namespace Go.Proofs.YtmjbiocildkhnaaGreatDoor
open Go Go.RowKit Tryz
abbrev rrG (v : Value) (a b : Rat) : Gh:=⟨fun S w=>v = .tuple #[M8 v 0,M8 v 1] ∧ RatV S w (M8 v 0) a ∧ RatV S w (M8 v 1) b,fun h k=>⟨h.1,h.2.1.keep k,h.2.2.keep k⟩,fun h k=>⟨h.1,h.2.1.mono k,h.2.2.mono k⟩⟩
theorem cy6 {v : Value} {a b : Rat} {S : Nat → Prop} {w : World} (h : (rrG v a b).p S w) : (pr (.ag 3 (M8 v 0)) (.ag 3 (M8 v 1))).Ok 0 ∧ (pr (.ag 3 (M8 v 0)) (.ag 3 (M8 v 1))).den (fun _=>0) = v:=⟨bq2 h.2.1.ok h.2.2.ok,h.1.symm⟩
namespace T3
def over1 (l u : T3) : Rat:=if l.x ≠ 0 then u.x / l.x else if l.y ≠ 0 then u.y / l.y else u.z / l.z
def mPart (p q r : T3) : Rat:=over1 (p.cross q) (r.cross q)
def nPart (p q r : T3) : Rat:=over1 (p.cross q) (p.cross r)
end T3
theorem aa6 {l u : T3} {m n : Nat} (hl : tl l m) (hu : tl u n) (hn : ¬ l.None) : rl (T3.over1 l u) (n + m):=by
 unfold T3.over1
 split
 ·exact ae5 hu.1 hl.1 (N8 ‹_›)
 split
 ·exact ae5 hu.2.1 hl.2.1 (N8 ‹_›)
 rename_i h1 h2
 refine ae5 hu.2.2 hl.2.2 (N8 fun h3=>hn ⟨?_,?_,h3⟩)
 ·exact Classical.not_not.1 h1
 exact Classical.not_not.1 h2
theorem c33 {S : Nat → Prop} {w : World} {vp vq vr : Value} {p q r : T3} {m : Nat} (hS : Up S w) (hp : TripV S w vp p) (hq : TripV S w vq q) (hr : TripV S w vr r) (hm : tl p m) (hn : tl q m) (hk : tl r m) (hmm : m ≤ 400) (h1 : (p.cross q).x = 0) (h2 : (p.cross q).y = 0) (h0 : (p.cross q).z ≠ 0) :
  Gives prog 60 [vp,vq,vr] w fun v' w'=>Ext w w' ∧ (rrG v' ((r.cross q).z / (p.cross q).z) ((p.cross r).z / (p.cross q).z)).p S w':=by
 have hc:=r5 hm hn
 have hf1 : R0 ((r.cross q).z / (p.cross q).z):=Q1 (ae5 (r5 hk hn).2.2 hc.2.2 (N8 h0)) (by omega)
 have hf2 : R0 ((p.cross r).z / (p.cross q).z):=Q1 (ae5 (r5 hm hk).2.2 hc.2.2 (N8 h0)) (by omega)
 have hp0:=hp
 have hq0:=hq
 obtain ⟨a1,b1,c1,rfl,ha1,hb1,hc1⟩:=hp
 obtain ⟨a2,b2,c2,rfl,ha2,hb2,hc2⟩:=hq
 obtain ⟨a3,b3,c3,rfl,ha3,hb3,hc3⟩:=hr
 refine n8 (E:=env) (S0:=S) (G:=((l6 a1 p.x).and ((l6 b1 p.y).and ((l6 c1 p.z).and ((l6 a2 q.x).and ((l6 b2 q.y).and ((l6 c2 q.z).and ((l6 a3 r.x).and ((l6 b3 r.y).and (l6 c3 r.z)))))))))) (l:=[.agg [.ag 3 a1,.ag 3 b1,.ag 3 c1],.agg [.ag 3 a2,.ag 3 b2,.ag 3 c2],.agg [.ag 3 a3,.ag 3 b3,.ag 3 c3]]) func60 rfl rfl rfl ⟨H0 ⟨ha1.okc,hb1.okc,hc1.okc,trivial⟩,H0 ⟨ha2.okc,hb2.okc,hc2.okc,trivial⟩,H0 ⟨ha3.okc,hb3.okc,hc3.okc,trivial⟩,trivial⟩ rfl ⟨ha1,hb1,hc1,ha2,hb2,hc2,ha3,hb3,hc3⟩ ?_
 refine B0 (fun x0=>.agg [.ag 3 (cel x0 0 3),.ag 3 (cel x0 3 3),.ag 3 (cel x0 6 3)]) (fun x0=>O5 x0 ((p.cross q))) (fun _ _ _ h=>M0 h) (fun β S w hS hs hw hG=>(kx ((S2 hS ⟨_,_,_,rfl,hG.1,hG.2.1,hG.2.2.1⟩ ⟨_,_,_,rfl,hG.2.2.2.1,hG.2.2.2.2.1,hG.2.2.2.2.2.1⟩ hm hn (by omega)).mono fun v' w' h=>⟨h.1,a89 h.2⟩))) ?_
 intro l
 refine n9 ?_
 refine B6 (.one (.tp ((p.cross q).x = 0))) rfl (fun β S w hS hs hw hG=>(kx (F8 hS hG.1.2.1))) ?_
 refine W0 (p:=(p.cross q).x = 0) (h1) ?_
 refine B6 (.one (.tp ((p.cross q).y = 0))) rfl (fun β S w hS hs hw hG=>(kx (F8 hS hG.1.2.2.1))) ?_
 refine W0 (p:=(p.cross q).y = 0) (h2) ?_
 refine B6 (.one (.tp ((p.cross q).z = 0))) rfl (fun β S w hS hs hw hG=>(kx (F8 hS hG.1.2.2.2))) ?_
 refine ad2 (p:=(p.cross q).z = 0) (h0) ?_
 refine j7 24 ?_
 refine b7 6 ?_
 refine o9 (fun x0=>.one (.ag 3 x0)) (fun x0=>l6 x0 ((r.x * q.y))) (fun β η S w hS hs hw hG hd=>(kx (B3 hS hG.2.2.2.2.2.2.2.1 hG.2.2.2.2.2.1 hk.1 hn.2.1 (by omega)))) ?_
 refine b7 6 ?_
 refine o9 (fun x0=>.one (.ag 3 x0)) (fun x0=>l6 x0 ((r.y * q.x))) (fun β η S w hS hs hw hG hd=>(kx (B3 hS hG.2.2.2.2.2.2.2.2.1 hG.2.2.2.2.1 hk.2.1 hn.1 (by omega)))) ?_
 refine o9 (fun x0=>.one (.ag 3 x0)) (fun x0=>l6 x0 ((-(r.y * q.x)))) (fun β η S w hS hs hw hG hd=>(kx (ak8 (p6 hd 13 : (l6 (η 13) ((r.y * q.x))).p S w)))) ?_
 refine Y9 41 3 2 (fun x0=>I1 x0 [r.x * q.y,-(r.y * q.x)]) ⟨b9,hS,j6⟩ (fun η=>(by kernel_rfl)) (fun β η S w x0 w' hS hs hw hG hd hk hrow=>bb7 ((p6 hd 6 : (l6 (η 6) ((r.x * q.y))).p S w).to hk) ((p6 hd 14 : (l6 (η 14) ((-(r.y * q.x)))).p S w).to hk) (kc hrow (by kernel_rfl))) ?_
 refine o9 (fun x0=>.one (.ag 3 x0)) (fun x0=>l6 x0 (((r.cross q).z))) (fun β η S w hS hs hw hG hd=>(kx (Z1 (m:=m + m) (X4 _ _) hS (p6 hd 15 : (I1 (η 15) [r.x * q.y,-(r.y * q.x)]).p S w) (a40 (q9 hk.1 hn.2.1) (ag7 (q9 hk.2.1 hn.1))) (by simp only [List.length]; omega)))) ?_
 refine b7 3 ?_
 refine h_1 (fun x0=>pr (.ag 3 (A8 x0)) (.lit .i64 0)) (fun x0=>ac3 x0 (((r.cross q).z / (p.cross q).z)) 0) (fun η=>(by kernel_rfl)) (fun _ _ _ h=>X5 h) (fun β η S w hS hs hw hG hd=>(kx (av1 hf1 (ao5 hS (p6 hd 16 : (l6 (η 16) (((r.cross q).z))).p S w) hG.1.2.2.2 (j9 (r5 hk hn).2.2) (j9 hc.2.2) (N8 h0))))) ?_
 refine b7 2 ?_
 refine o9 (fun x0=>.one (.ag 3 x0)) (fun x0=>l6 x0 (((r.cross q).z / (p.cross q).z))) (fun β η S w hS hs hw hG hd=>(kx (Z6 hS (p6 hd 20 : (ac3 (η 20) (((r.cross q).z / (p.cross q).z)) 0).p S w).2))) ?_
 refine j3 [true,false,false,false,false,false,false] ((O5 l ((p.cross q))).and ((l6 a1 p.x).and ((l6 b1 p.y).and ((l6 a3 r.x).and ((l6 b3 r.y).and (Gh.nil)))))) (by exact fun _ _ h=>⟨h.1,h.2.1,h.2.2.1,h.2.2.2.2.2.2.2.1,h.2.2.2.2.2.2.2.2.1,trivial⟩) (fun g η=>(l6 (η 23) (((r.cross q).z / (p.cross q).z))).and g) (fun g η=>(by kernel_rfl)) ?_
 intro η_1
 refine j7 24 ?_
 refine b7 6 ?_
 refine o9 (fun x0=>.one (.ag 3 x0)) (fun x0=>l6 x0 ((p.x * r.y))) (fun β η S w hS hs hw hG hd=>(kx (B3 hS hG.2.2.1 hG.2.2.2.2.2.1 hm.1 hk.2.1 (by omega)))) ?_
 refine b7 6 ?_
 refine o9 (fun x0=>.one (.ag 3 x0)) (fun x0=>l6 x0 ((p.y * r.x))) (fun β η S w hS hs hw hG hd=>(kx (B3 hS hG.2.2.2.1 hG.2.2.2.2.1 hm.2.1 hk.1 (by omega)))) ?_
 refine o9 (fun x0=>.one (.ag 3 x0)) (fun x0=>l6 x0 ((-(p.y * r.x)))) (fun β η S w hS hs hw hG hd=>(kx (ak8 (p6 hd 13 : (l6 (η 13) ((p.y * r.x))).p S w)))) ?_
 refine Y9 41 3 2 (fun x0=>I1 x0 [p.x * r.y,-(p.y * r.x)]) ⟨b9,hS,j6⟩ (fun η=>(by kernel_rfl)) (fun β η S w x0 w' hS hs hw hG hd hk hrow=>bb7 ((p6 hd 6 : (l6 (η 6) ((p.x * r.y))).p S w).to hk) ((p6 hd 14 : (l6 (η 14) ((-(p.y * r.x)))).p S w).to hk) (kc hrow (by kernel_rfl))) ?_
 refine o9 (fun x0=>.one (.ag 3 x0)) (fun x0=>l6 x0 (((p.cross r).z))) (fun β η S w hS hs hw hG hd=>(kx (Z1 (m:=m + m) (X4 _ _) hS (p6 hd 15 : (I1 (η 15) [p.x * r.y,-(p.y * r.x)]).p S w) (a40 (q9 hm.1 hk.2.1) (ag7 (q9 hm.2.1 hk.1))) (by simp only [List.length]; omega)))) ?_
 refine b7 3 ?_
 refine h_1 (fun x0=>pr (.ag 3 (A8 x0)) (.lit .i64 0)) (fun x0=>ac3 x0 (((p.cross r).z / (p.cross q).z)) 0) (fun η=>(by kernel_rfl)) (fun _ _ _ h=>X5 h) (fun β η S w hS hs hw hG hd=>(kx (av1 hf2 (ao5 hS (p6 hd 16 : (l6 (η 16) (((p.cross r).z))).p S w) hG.2.1.2.2.2 (j9 (r5 hm hk).2.2) (j9 hc.2.2) (N8 h0))))) ?_
 refine b7 2 ?_
 refine o9 (fun x0=>.one (.ag 3 x0)) (fun x0=>l6 x0 (((p.cross r).z / (p.cross q).z))) (fun β η S w hS hs hw hG hd=>(kx (Z6 hS (p6 hd 20 : (ac3 (η 20) (((p.cross r).z / (p.cross q).z)) 0).p S w).2))) ?_
 refine j3 [true,false,false,false,false,false,false] ((l6 (η_1 23) (((r.cross q).z / (p.cross q).z))).and (Gh.nil)) (by exact fun _ _ h=>⟨h.1,trivial⟩) (fun g η=>(l6 (η 23) (((p.cross r).z / (p.cross q).z))).and g) (fun g η=>(by kernel_rfl)) ?_
 intro η_2
 refine j7 4 ?_
 refine b7 2 ?_
 refine at6 ⟨b9,hS,j6⟩ (fun η=>(by kernel_rfl)) (fun η=>(by kernel_rfl)) ?_
 refine at6 ⟨b9,hS,j6⟩ (fun η=>(by kernel_rfl)) (fun η=>(by kernel_rfl)) ?_
 refine j3 [] ((l6 (η_2 23) (((p.cross r).z / (p.cross q).z))).and ((l6 (η_1 23) (((r.cross q).z / (p.cross q).z))).and (Gh.nil))) (by exact fun _ _ h=>⟨h.1,h.2.1,trivial⟩) (fun g η=>g) (fun g η=>(by kernel_rfl)) ?_
 intro η_3
 exact o6 (.tuple #[η_1 23,η_2 23]) rfl (fun S w hs hw hG=>⟨hw,rfl,hG.2.1.mono fun k _ hk=>hs k hk,hG.1.mono fun k _ hk=>hs k hk⟩)
theorem c83 {S : Nat → Prop} {w : World} {vp vq vr : Value} {p q r : T3} {m : Nat} (hS : Up S w) (hp : TripV S w vp p) (hq : TripV S w vq q) (hr : TripV S w vr r) (hm : tl p m) (hn : tl q m) (hk : tl r m) (hmm : m ≤ 400) (h0 : (p.cross q).x ≠ 0) :
  Gives prog 60 [vp,vq,vr] w fun v' w'=>Ext w w' ∧ (rrG v' ((r.cross q).x / (p.cross q).x) ((p.cross r).x / (p.cross q).x)).p S w':=by
 have hc:=r5 hm hn
 have hf1 : R0 ((r.cross q).x / (p.cross q).x):=Q1 (ae5 (r5 hk hn).1 hc.1 (N8 h0)) (by omega)
 have hf2 : R0 ((p.cross r).x / (p.cross q).x):=Q1 (ae5 (r5 hm hk).1 hc.1 (N8 h0)) (by omega)
 have hp0:=hp
 have hq0:=hq
 obtain ⟨a1,b1,c1,rfl,ha1,hb1,hc1⟩:=hp
 obtain ⟨a2,b2,c2,rfl,ha2,hb2,hc2⟩:=hq
 obtain ⟨a3,b3,c3,rfl,ha3,hb3,hc3⟩:=hr
 refine n8 (E:=env) (S0:=S) (G:=((l6 a1 p.x).and ((l6 b1 p.y).and ((l6 c1 p.z).and ((l6 a2 q.x).and ((l6 b2 q.y).and ((l6 c2 q.z).and ((l6 a3 r.x).and ((l6 b3 r.y).and (l6 c3 r.z)))))))))) (l:=[.agg [.ag 3 a1,.ag 3 b1,.ag 3 c1],.agg [.ag 3 a2,.ag 3 b2,.ag 3 c2],.agg [.ag 3 a3,.ag 3 b3,.ag 3 c3]]) func60 rfl rfl rfl ⟨H0 ⟨ha1.okc,hb1.okc,hc1.okc,trivial⟩,H0 ⟨ha2.okc,hb2.okc,hc2.okc,trivial⟩,H0 ⟨ha3.okc,hb3.okc,hc3.okc,trivial⟩,trivial⟩ rfl ⟨ha1,hb1,hc1,ha2,hb2,hc2,ha3,hb3,hc3⟩ ?_
 refine B0 (fun x0=>.agg [.ag 3 (cel x0 0 3),.ag 3 (cel x0 3 3),.ag 3 (cel x0 6 3)]) (fun x0=>O5 x0 ((p.cross q))) (fun _ _ _ h=>M0 h) (fun β S w hS hs hw hG=>(kx ((S2 hS ⟨_,_,_,rfl,hG.1,hG.2.1,hG.2.2.1⟩ ⟨_,_,_,rfl,hG.2.2.2.1,hG.2.2.2.2.1,hG.2.2.2.2.2.1⟩ hm hn (by omega)).mono fun v' w' h=>⟨h.1,a89 h.2⟩))) ?_
 intro l
 refine n9 ?_
 refine B6 (.one (.tp ((p.cross q).x = 0))) rfl (fun β S w hS hs hw hG=>(kx (F8 hS hG.1.2.1))) ?_
 refine ad2 (p:=(p.cross q).x = 0) (h0) ?_
 refine j7 24 ?_
 refine b7 6 ?_
 refine o9 (fun x0=>.one (.ag 3 x0)) (fun x0=>l6 x0 ((r.y * q.z))) (fun β η S w hS hs hw hG hd=>(kx (B3 hS hG.2.2.2.2.2.2.2.2.1 hG.2.2.2.2.2.2.1 hk.2.1 hn.2.2 (by omega)))) ?_
 refine b7 6 ?_
 refine o9 (fun x0=>.one (.ag 3 x0)) (fun x0=>l6 x0 ((r.z * q.y))) (fun β η S w hS hs hw hG hd=>(kx (B3 hS hG.2.2.2.2.2.2.2.2.2 hG.2.2.2.2.2.1 hk.2.2 hn.2.1 (by omega)))) ?_
 refine o9 (fun x0=>.one (.ag 3 x0)) (fun x0=>l6 x0 ((-(r.z * q.y)))) (fun β η S w hS hs hw hG hd=>(kx (ak8 (p6 hd 13 : (l6 (η 13) ((r.z * q.y))).p S w)))) ?_
 refine Y9 41 3 2 (fun x0=>I1 x0 [r.y * q.z,-(r.z * q.y)]) ⟨b9,hS,j6⟩ (fun η=>(by kernel_rfl)) (fun β η S w x0 w' hS hs hw hG hd hk hrow=>bb7 ((p6 hd 6 : (l6 (η 6) ((r.y * q.z))).p S w).to hk) ((p6 hd 14 : (l6 (η 14) ((-(r.z * q.y)))).p S w).to hk) (kc hrow (by kernel_rfl))) ?_
 refine o9 (fun x0=>.one (.ag 3 x0)) (fun x0=>l6 x0 (((r.cross q).x))) (fun β η S w hS hs hw hG hd=>(kx (Z1 (m:=m + m) (X4 _ _) hS (p6 hd 15 : (I1 (η 15) [r.y * q.z,-(r.z * q.y)]).p S w) (a40 (q9 hk.2.1 hn.2.2) (ag7 (q9 hk.2.2 hn.2.1))) (by simp only [List.length]; omega)))) ?_
 refine b7 3 ?_
 refine h_1 (fun x0=>pr (.ag 3 (A8 x0)) (.lit .i64 0)) (fun x0=>ac3 x0 (((r.cross q).x / (p.cross q).x)) 0) (fun η=>(by kernel_rfl)) (fun _ _ _ h=>X5 h) (fun β η S w hS hs hw hG hd=>(kx (av1 hf1 (ao5 hS (p6 hd 16 : (l6 (η 16) (((r.cross q).x))).p S w) hG.1.2.1 (j9 (r5 hk hn).1) (j9 hc.1) (N8 h0))))) ?_
 refine b7 2 ?_
 refine o9 (fun x0=>.one (.ag 3 x0)) (fun x0=>l6 x0 (((r.cross q).x / (p.cross q).x))) (fun β η S w hS hs hw hG hd=>(kx (Z6 hS (p6 hd 20 : (ac3 (η 20) (((r.cross q).x / (p.cross q).x)) 0).p S w).2))) ?_
 refine j3 [true,false,false,false,false,false,false] ((O5 l ((p.cross q))).and ((l6 b1 p.y).and ((l6 c1 p.z).and ((l6 b3 r.y).and ((l6 c3 r.z).and (Gh.nil)))))) (by exact fun _ _ h=>⟨h.1,h.2.2.1,h.2.2.2.1,h.2.2.2.2.2.2.2.2.1,h.2.2.2.2.2.2.2.2.2,trivial⟩) (fun g η=>(l6 (η 23) (((r.cross q).x / (p.cross q).x))).and g) (fun g η=>(by kernel_rfl)) ?_
 intro η_1
 refine j7 24 ?_
 refine b7 6 ?_
 refine o9 (fun x0=>.one (.ag 3 x0)) (fun x0=>l6 x0 ((p.y * r.z))) (fun β η S w hS hs hw hG hd=>(kx (B3 hS hG.2.2.1 hG.2.2.2.2.2.1 hm.2.1 hk.2.2 (by omega)))) ?_
 refine b7 6 ?_
 refine o9 (fun x0=>.one (.ag 3 x0)) (fun x0=>l6 x0 ((p.z * r.y))) (fun β η S w hS hs hw hG hd=>(kx (B3 hS hG.2.2.2.1 hG.2.2.2.2.1 hm.2.2 hk.2.1 (by omega)))) ?_
 refine o9 (fun x0=>.one (.ag 3 x0)) (fun x0=>l6 x0 ((-(p.z * r.y)))) (fun β η S w hS hs hw hG hd=>(kx (ak8 (p6 hd 13 : (l6 (η 13) ((p.z * r.y))).p S w)))) ?_
 refine Y9 41 3 2 (fun x0=>I1 x0 [p.y * r.z,-(p.z * r.y)]) ⟨b9,hS,j6⟩ (fun η=>(by kernel_rfl)) (fun β η S w x0 w' hS hs hw hG hd hk hrow=>bb7 ((p6 hd 6 : (l6 (η 6) ((p.y * r.z))).p S w).to hk) ((p6 hd 14 : (l6 (η 14) ((-(p.z * r.y)))).p S w).to hk) (kc hrow (by kernel_rfl))) ?_
 refine o9 (fun x0=>.one (.ag 3 x0)) (fun x0=>l6 x0 (((p.cross r).x))) (fun β η S w hS hs hw hG hd=>(kx (Z1 (m:=m + m) (X4 _ _) hS (p6 hd 15 : (I1 (η 15) [p.y * r.z,-(p.z * r.y)]).p S w) (a40 (q9 hm.2.1 hk.2.2) (ag7 (q9 hm.2.2 hk.2.1))) (by simp only [List.length]; omega)))) ?_
 refine b7 3 ?_
 refine h_1 (fun x0=>pr (.ag 3 (A8 x0)) (.lit .i64 0)) (fun x0=>ac3 x0 (((p.cross r).x / (p.cross q).x)) 0) (fun η=>(by kernel_rfl)) (fun _ _ _ h=>X5 h) (fun β η S w hS hs hw hG hd=>(kx (av1 hf2 (ao5 hS (p6 hd 16 : (l6 (η 16) (((p.cross r).x))).p S w) hG.2.1.2.1 (j9 (r5 hm hk).1) (j9 hc.1) (N8 h0))))) ?_
 refine b7 2 ?_
 refine o9 (fun x0=>.one (.ag 3 x0)) (fun x0=>l6 x0 (((p.cross r).x / (p.cross q).x))) (fun β η S w hS hs hw hG hd=>(kx (Z6 hS (p6 hd 20 : (ac3 (η 20) (((p.cross r).x / (p.cross q).x)) 0).p S w).2))) ?_
 refine j3 [true,false,false,false,false,false,false] ((l6 (η_1 23) (((r.cross q).x / (p.cross q).x))).and (Gh.nil)) (by exact fun _ _ h=>⟨h.1,trivial⟩) (fun g η=>(l6 (η 23) (((p.cross r).x / (p.cross q).x))).and g) (fun g η=>(by kernel_rfl)) ?_
 intro η_2
 refine j7 4 ?_
 refine b7 2 ?_
 refine at6 ⟨b9,hS,j6⟩ (fun η=>(by kernel_rfl)) (fun η=>(by kernel_rfl)) ?_
 refine at6 ⟨b9,hS,j6⟩ (fun η=>(by kernel_rfl)) (fun η=>(by kernel_rfl)) ?_
 refine j3 [] ((l6 (η_2 23) (((p.cross r).x / (p.cross q).x))).and ((l6 (η_1 23) (((r.cross q).x / (p.cross q).x))).and (Gh.nil))) (by exact fun _ _ h=>⟨h.1,h.2.1,trivial⟩) (fun g η=>g) (fun g η=>(by kernel_rfl)) ?_
 intro η_3
 exact o6 (.tuple #[η_1 23,η_2 23]) rfl (fun S w hs hw hG=>⟨hw,rfl,hG.2.1.mono fun k _ hk=>hs k hk,hG.1.mono fun k _ hk=>hs k hk⟩)
theorem c56 {S : Nat → Prop} {w : World} {vp vq vr : Value} {p q r : T3} {m : Nat} (hS : Up S w) (hp : TripV S w vp p) (hq : TripV S w vq q) (hr : TripV S w vr r) (hm : tl p m) (hn : tl q m) (hk : tl r m) (hmm : m ≤ 400) (h1 : (p.cross q).x = 0) (h0 : (p.cross q).y ≠ 0) :
  Gives prog 60 [vp,vq,vr] w fun v' w'=>Ext w w' ∧ (rrG v' ((r.cross q).y / (p.cross q).y) ((p.cross r).y / (p.cross q).y)).p S w':=by
 have hc:=r5 hm hn
 have hf1 : R0 ((r.cross q).y / (p.cross q).y):=Q1 (ae5 (r5 hk hn).2.1 hc.2.1 (N8 h0)) (by omega)
 have hf2 : R0 ((p.cross r).y / (p.cross q).y):=Q1 (ae5 (r5 hm hk).2.1 hc.2.1 (N8 h0)) (by omega)
 have hp0:=hp
 have hq0:=hq
 obtain ⟨a1,b1,c1,rfl,ha1,hb1,hc1⟩:=hp
 obtain ⟨a2,b2,c2,rfl,ha2,hb2,hc2⟩:=hq
 obtain ⟨a3,b3,c3,rfl,ha3,hb3,hc3⟩:=hr
 refine n8 (E:=env) (S0:=S) (G:=((l6 a1 p.x).and ((l6 b1 p.y).and ((l6 c1 p.z).and ((l6 a2 q.x).and ((l6 b2 q.y).and ((l6 c2 q.z).and ((l6 a3 r.x).and ((l6 b3 r.y).and (l6 c3 r.z)))))))))) (l:=[.agg [.ag 3 a1,.ag 3 b1,.ag 3 c1],.agg [.ag 3 a2,.ag 3 b2,.ag 3 c2],.agg [.ag 3 a3,.ag 3 b3,.ag 3 c3]]) func60 rfl rfl rfl ⟨H0 ⟨ha1.okc,hb1.okc,hc1.okc,trivial⟩,H0 ⟨ha2.okc,hb2.okc,hc2.okc,trivial⟩,H0 ⟨ha3.okc,hb3.okc,hc3.okc,trivial⟩,trivial⟩ rfl ⟨ha1,hb1,hc1,ha2,hb2,hc2,ha3,hb3,hc3⟩ ?_
 refine B0 (fun x0=>.agg [.ag 3 (cel x0 0 3),.ag 3 (cel x0 3 3),.ag 3 (cel x0 6 3)]) (fun x0=>O5 x0 ((p.cross q))) (fun _ _ _ h=>M0 h) (fun β S w hS hs hw hG=>(kx ((S2 hS ⟨_,_,_,rfl,hG.1,hG.2.1,hG.2.2.1⟩ ⟨_,_,_,rfl,hG.2.2.2.1,hG.2.2.2.2.1,hG.2.2.2.2.2.1⟩ hm hn (by omega)).mono fun v' w' h=>⟨h.1,a89 h.2⟩))) ?_
 intro l
 refine n9 ?_
 refine B6 (.one (.tp ((p.cross q).x = 0))) rfl (fun β S w hS hs hw hG=>(kx (F8 hS hG.1.2.1))) ?_
 refine W0 (p:=(p.cross q).x = 0) (h1) ?_
 refine B6 (.one (.tp ((p.cross q).y = 0))) rfl (fun β S w hS hs hw hG=>(kx (F8 hS hG.1.2.2.1))) ?_
 refine ad2 (p:=(p.cross q).y = 0) (h0) ?_
 refine j7 24 ?_
 refine b7 6 ?_
 refine o9 (fun x0=>.one (.ag 3 x0)) (fun x0=>l6 x0 ((r.z * q.x))) (fun β η S w hS hs hw hG hd=>(kx (B3 hS hG.2.2.2.2.2.2.2.2.2 hG.2.2.2.2.1 hk.2.2 hn.1 (by omega)))) ?_
 refine b7 6 ?_
 refine o9 (fun x0=>.one (.ag 3 x0)) (fun x0=>l6 x0 ((r.x * q.z))) (fun β η S w hS hs hw hG hd=>(kx (B3 hS hG.2.2.2.2.2.2.2.1 hG.2.2.2.2.2.2.1 hk.1 hn.2.2 (by omega)))) ?_
 refine o9 (fun x0=>.one (.ag 3 x0)) (fun x0=>l6 x0 ((-(r.x * q.z)))) (fun β η S w hS hs hw hG hd=>(kx (ak8 (p6 hd 13 : (l6 (η 13) ((r.x * q.z))).p S w)))) ?_
 refine Y9 41 3 2 (fun x0=>I1 x0 [r.z * q.x,-(r.x * q.z)]) ⟨b9,hS,j6⟩ (fun η=>(by kernel_rfl)) (fun β η S w x0 w' hS hs hw hG hd hk hrow=>bb7 ((p6 hd 6 : (l6 (η 6) ((r.z * q.x))).p S w).to hk) ((p6 hd 14 : (l6 (η 14) ((-(r.x * q.z)))).p S w).to hk) (kc hrow (by kernel_rfl))) ?_
 refine o9 (fun x0=>.one (.ag 3 x0)) (fun x0=>l6 x0 (((r.cross q).y))) (fun β η S w hS hs hw hG hd=>(kx (Z1 (m:=m + m) (X4 _ _) hS (p6 hd 15 : (I1 (η 15) [r.z * q.x,-(r.x * q.z)]).p S w) (a40 (q9 hk.2.2 hn.1) (ag7 (q9 hk.1 hn.2.2))) (by simp only [List.length]; omega)))) ?_
 refine b7 3 ?_
 refine h_1 (fun x0=>pr (.ag 3 (A8 x0)) (.lit .i64 0)) (fun x0=>ac3 x0 (((r.cross q).y / (p.cross q).y)) 0) (fun η=>(by kernel_rfl)) (fun _ _ _ h=>X5 h) (fun β η S w hS hs hw hG hd=>(kx (av1 hf1 (ao5 hS (p6 hd 16 : (l6 (η 16) (((r.cross q).y))).p S w) hG.1.2.2.1 (j9 (r5 hk hn).2.1) (j9 hc.2.1) (N8 h0))))) ?_
 refine b7 2 ?_
 refine o9 (fun x0=>.one (.ag 3 x0)) (fun x0=>l6 x0 (((r.cross q).y / (p.cross q).y))) (fun β η S w hS hs hw hG hd=>(kx (Z6 hS (p6 hd 20 : (ac3 (η 20) (((r.cross q).y / (p.cross q).y)) 0).p S w).2))) ?_
 refine j3 [true,false,false,false,false,false,false] ((O5 l ((p.cross q))).and ((l6 a1 p.x).and ((l6 c1 p.z).and ((l6 a3 r.x).and ((l6 c3 r.z).and (Gh.nil)))))) (by exact fun _ _ h=>⟨h.1,h.2.1,h.2.2.2.1,h.2.2.2.2.2.2.2.1,h.2.2.2.2.2.2.2.2.2,trivial⟩) (fun g η=>(l6 (η 23) (((r.cross q).y / (p.cross q).y))).and g) (fun g η=>(by kernel_rfl)) ?_
 intro η_1
 refine j7 24 ?_
 refine b7 6 ?_
 refine o9 (fun x0=>.one (.ag 3 x0)) (fun x0=>l6 x0 ((p.z * r.x))) (fun β η S w hS hs hw hG hd=>(kx (B3 hS hG.2.2.2.1 hG.2.2.2.2.1 hm.2.2 hk.1 (by omega)))) ?_
 refine b7 6 ?_
 refine o9 (fun x0=>.one (.ag 3 x0)) (fun x0=>l6 x0 ((p.x * r.z))) (fun β η S w hS hs hw hG hd=>(kx (B3 hS hG.2.2.1 hG.2.2.2.2.2.1 hm.1 hk.2.2 (by omega)))) ?_
 refine o9 (fun x0=>.one (.ag 3 x0)) (fun x0=>l6 x0 ((-(p.x * r.z)))) (fun β η S w hS hs hw hG hd=>(kx (ak8 (p6 hd 13 : (l6 (η 13) ((p.x * r.z))).p S w)))) ?_
 refine Y9 41 3 2 (fun x0=>I1 x0 [p.z * r.x,-(p.x * r.z)]) ⟨b9,hS,j6⟩ (fun η=>(by kernel_rfl)) (fun β η S w x0 w' hS hs hw hG hd hk hrow=>bb7 ((p6 hd 6 : (l6 (η 6) ((p.z * r.x))).p S w).to hk) ((p6 hd 14 : (l6 (η 14) ((-(p.x * r.z)))).p S w).to hk) (kc hrow (by kernel_rfl))) ?_
 refine o9 (fun x0=>.one (.ag 3 x0)) (fun x0=>l6 x0 (((p.cross r).y))) (fun β η S w hS hs hw hG hd=>(kx (Z1 (m:=m + m) (X4 _ _) hS (p6 hd 15 : (I1 (η 15) [p.z * r.x,-(p.x * r.z)]).p S w) (a40 (q9 hm.2.2 hk.1) (ag7 (q9 hm.1 hk.2.2))) (by simp only [List.length]; omega)))) ?_
 refine b7 3 ?_
 refine h_1 (fun x0=>pr (.ag 3 (A8 x0)) (.lit .i64 0)) (fun x0=>ac3 x0 (((p.cross r).y / (p.cross q).y)) 0) (fun η=>(by kernel_rfl)) (fun _ _ _ h=>X5 h) (fun β η S w hS hs hw hG hd=>(kx (av1 hf2 (ao5 hS (p6 hd 16 : (l6 (η 16) (((p.cross r).y))).p S w) hG.2.1.2.2.1 (j9 (r5 hm hk).2.1) (j9 hc.2.1) (N8 h0))))) ?_
 refine b7 2 ?_
 refine o9 (fun x0=>.one (.ag 3 x0)) (fun x0=>l6 x0 (((p.cross r).y / (p.cross q).y))) (fun β η S w hS hs hw hG hd=>(kx (Z6 hS (p6 hd 20 : (ac3 (η 20) (((p.cross r).y / (p.cross q).y)) 0).p S w).2))) ?_
 refine j3 [true,false,false,false,false,false,false] ((l6 (η_1 23) (((r.cross q).y / (p.cross q).y))).and (Gh.nil)) (by exact fun _ _ h=>⟨h.1,trivial⟩) (fun g η=>(l6 (η 23) (((p.cross r).y / (p.cross q).y))).and g) (fun g η=>(by kernel_rfl)) ?_
 intro η_2
 refine j7 4 ?_
 refine b7 2 ?_
 refine at6 ⟨b9,hS,j6⟩ (fun η=>(by kernel_rfl)) (fun η=>(by kernel_rfl)) ?_
 refine at6 ⟨b9,hS,j6⟩ (fun η=>(by kernel_rfl)) (fun η=>(by kernel_rfl)) ?_
 refine j3 [] ((l6 (η_2 23) (((p.cross r).y / (p.cross q).y))).and ((l6 (η_1 23) (((r.cross q).y / (p.cross q).y))).and (Gh.nil))) (by exact fun _ _ h=>⟨h.1,h.2.1,trivial⟩) (fun g η=>g) (fun g η=>(by kernel_rfl)) ?_
 intro η_3
 exact o6 (.tuple #[η_1 23,η_2 23]) rfl (fun S w hs hw hG=>⟨hw,rfl,hG.2.1.mono fun k _ hk=>hs k hk,hG.1.mono fun k _ hk=>hs k hk⟩)
def ds8 (p q : T3) : Prop:=∀ {S : Nat → Prop} {w : World} {vp vq vr : Value} {r : T3} {m : Nat},Up S w → TripV S w vp p → TripV S w vq q → TripV S w vr r → tl p m → tl q m → tl r m → m ≤ 400 →
  Gives prog 60 [vp,vq,vr] w fun v' w'=>Ext w w' ∧ (rrG v' (T3.mPart p q r) (T3.nPart p q r)).p S w'
theorem c39 {S : Nat → Prop} {w : World} {vp vq vr : Value} {p q r : T3} {m : Nat} (hS : Up S w) (hp : TripV S w vp p) (hq : TripV S w vq q) (hr : TripV S w vr r) (hm : tl p m) (hn : tl q m) (hk : tl r m) (hmm : m ≤ 400) (hs0 : ¬ T3.Same p q) :
  Gives prog 60 [vp,vq,vr] w fun v' w'=>Ext w w' ∧ (rrG v' (T3.mPart p q r) (T3.nPart p q r)).p S w':=by
 unfold T3.mPart T3.nPart T3.over1
 by_cases h1 : (p.cross q).x = 0
 ·by_cases h2 : (p.cross q).y = 0
  ·simp only [h1,h2,ne_eq,not_true_eq_false,if_false]
   exact c33 hS hp hq hr hm hn hk hmm h1 h2 fun h3=>hs0 ⟨h1,h2,h3⟩
  simp only [h1,h2,ne_eq,not_true_eq_false,not_false_eq_true,if_false,if_true]
  exact c56 hS hp hq hr hm hn hk hmm h1 h2
 simp only [h1,ne_eq,not_false_eq_true,if_true]
 exact c83 hS hp hq hr hm hn hk hmm h1
theorem dr7 {S : Nat → Prop} {w : World} {a b c d : Value} {p q r s : T3} (h1 : TripV S w a p) (h2 : TripV S w b q) (h3 : TripV S w c r) (h4 : TripV S w d s) : ElsV true 9 ay0 S w [a,b,c,d] [p,q,r,s]:=by
 refine ⟨rfl,fun x hx=>?_,fun i t x hq hx=>?_⟩
 ·simp only [List.mem_cons,List.not_mem_nil,or_false] at hx
  rcases hx with rfl | rfl | rfl | rfl
  ·exact h1.lies
  ·exact h2.lies
  ·exact h3.lies
  exact h4.lies
 match i with
 | 0=>simp at hq hx; subst hq hx; exact h1
 | 1=>simp at hq hx; subst hq hx; exact h2
 | 2=>simp at hq hx; subst hq hx; exact h3
 | 3=>simp at hq hx; subst hq hx; exact h4
 | i + 4=>simp at hq
theorem df3 {p q r s : T3} {P : T3 → Prop} (h1 : P p) (h2 : P q) (h3 : P r) (h4 : P s) : ∀ t ∈ [p,q,r,s],P t:=by
 intro t ht
 simp only [List.mem_cons,List.not_mem_nil,or_false] at ht
 rcases ht with rfl | rfl | rfl | rfl
 ·exact h1
 ·exact h2
 ·exact h3
 exact h4
namespace T3
def ratioQ (p q r s : T3) : Rat:=if nPart p q s = 0 then 0 else (mPart p q s * nPart p q r) / (mPart p q r * nPart p q s)
end T3
theorem ah2 {a b : Rat} (ha : a ≠ 0) (hb : b ≠ 0) : a * b ≠ 0:=by
 intro h
 rcases Rat.mul_eq_zero.1 h with h | h
 ·exact ha h
 exact hb h
theorem cp5 {S : Nat → Prop} {w : World} {u1 u2 u3 u4 : Value} {p q r s : T3} {m : Nat} (hpt : ds8 p q) (ht : Tab w) (hS : Up S w) (o1 : u1.oneCell' = true) (o2 : u2.oneCell' = true) (o3 : u3.oneCell' = true) (o4 : u4.oneCell' = true) (h1 : (D2 u1 p).p S w) (h2 : (D2 u2 q).p S w) (h3 : (D2 u3 r).p S w) (h4 : (D2 u4 s).p S w)
  (k1 : tl p m) (k2 : tl q m) (k3 : tl r m) (k4 : tl s m) (hmm : m ≤ 100) (b1 : D9 p = 0) (b2 : D9 q = 0) (b3 : D9 r = 0) (b4 : D9 s = 0) (d1 : ¬ T3.Same p q) (d2 : ¬ T3.Same p r) (d3 : ¬ T3.Same q r) (d4 : T3.Flat p q r) (d5 : T3.Flat p q s) (hm0 : T3.mPart p q r ≠ 0) :
  Gives prog 56 [u1,u2,u3,u4] w fun v' w'=>Ext w w' ∧ RatioV S w' v' (T3.ratioQ p q r s) (T3.nPart p q s = 0):=by
 have rm1 : rl (T3.mPart p q r) (8 * m + 2):=j9 (aa6 (r5 k1 k2) (r5 k3 k2) d1)
 have rn1 : rl (T3.nPart p q r) (8 * m + 2):=j9 (aa6 (r5 k1 k2) (r5 k1 k3) d1)
 have rm2 : rl (T3.mPart p q s) (8 * m + 2):=j9 (aa6 (r5 k1 k2) (r5 k4 k2) d1)
 have rn2 : rl (T3.nPart p q s) (8 * m + 2):=j9 (aa6 (r5 k1 k2) (r5 k1 k4) d1)
 refine n8 (E:=env) (S0:=S) (G:=((D2 u1 p).and ((D2 u2 q).and ((D2 u3 r).and (D2 u4 s))))) (l:=[.one (.val u1),.one (.val u2),.one (.val u3),.one (.val u4)]) func56 rfl rfl rfl ⟨o1,o2,o3,o4,trivial⟩ rfl ⟨h1,h2,h3,h4⟩ ?_
 refine o5 (r6 u1 43 9 true (fun x0=>.one (.ag 9 x0)) (fun x0=>o8 x0 (p)) (fun β S w hM hw hG=>let ⟨y,e1,e2,e3⟩:=hG.1; ⟨S,y,e1,e2,e3⟩) ?_)
 intro y1
 refine o5 (r6 u2 43 9 true (fun x0=>.one (.ag 9 x0)) (fun x0=>o8 x0 (q)) (fun β S w hM hw hG=>let ⟨y,e1,e2,e3⟩:=hG.2.2.1; ⟨S,y,e1,e2,e3⟩) ?_)
 intro y2
 refine o5 (r6 u3 43 9 true (fun x0=>.one (.ag 9 x0)) (fun x0=>o8 x0 (r)) (fun β S w hM hw hG=>let ⟨y,e1,e2,e3⟩:=hG.2.2.2.2.1; ⟨S,y,e1,e2,e3⟩) ?_)
 intro y3
 refine o5 (r6 u4 43 9 true (fun x0=>.one (.ag 9 x0)) (fun x0=>o8 x0 (s)) (fun β S w hM hw hG=>let ⟨y,e1,e2,e3⟩:=hG.2.2.2.2.2.2; ⟨S,y,e1,e2,e3⟩) ?_)
 intro y4
 refine O6 (.und) rfl (fun β S w hS hM hs hw hG=>(kx (U9 (ht.to hw) (x9 hS) (H3 (l:=[p,q,r,s]) 1 43 [y1,y2,y3,y4] hM (by kernel_rfl) (dr7 hG.2.2.2.1 hG.2.2.1 hG.2.1 hG.1) (show 4 ≤ maxLen by decide)) (df3 (F3 k1) (F3 k2) (F3 k3) (F3 k4)) (df3 b1 b2 b3 b4)))) ?_
 refine o5 (r6 u1 43 9 true (fun x0=>.one (.ag 9 x0)) (fun x0=>o8 x0 (p)) (fun β S w hM hw hG=>let ⟨y,e1,e2,e3⟩:=hG.2.2.2.2.1; ⟨S,y,e1,e2,e3⟩) ?_)
 intro t1
 refine o5 (r6 u2 43 9 true (fun x0=>.one (.ag 9 x0)) (fun x0=>o8 x0 (q)) (fun β S w hM hw hG=>let ⟨y,e1,e2,e3⟩:=hG.2.2.2.2.2.2.1; ⟨S,y,e1,e2,e3⟩) ?_)
 intro t2
 refine o5 (r6 u3 43 9 true (fun x0=>.one (.ag 9 x0)) (fun x0=>o8 x0 (r)) (fun β S w hM hw hG=>let ⟨y,e1,e2,e3⟩:=hG.2.2.2.2.2.2.2.2.1; ⟨S,y,e1,e2,e3⟩) ?_)
 intro t3
 refine B6 (.und) rfl (fun β S w hS hs hw hG=>(kx (b29 hS hG.2.2.1 hG.2.1 hG.1 k1 k2 k3 (by omega) d1 d2 d3 d4))) ?_
 refine o5 (r6 u1 43 9 true (fun x0=>.one (.ag 9 x0)) (fun x0=>o8 x0 (p)) (fun β S w hM hw hG=>let ⟨y,e1,e2,e3⟩:=hG.2.2.2.2.2.2.2.1; ⟨S,y,e1,e2,e3⟩) ?_)
 intro t4
 refine o5 (r6 u2 43 9 true (fun x0=>.one (.ag 9 x0)) (fun x0=>o8 x0 (q)) (fun β S w hM hw hG=>let ⟨y,e1,e2,e3⟩:=hG.2.2.2.2.2.2.2.2.2.1; ⟨S,y,e1,e2,e3⟩) ?_)
 intro t5
 refine o5 (r6 u4 43 9 true (fun x0=>.one (.ag 9 x0)) (fun x0=>o8 x0 (s)) (fun β S w hM hw hG=>let ⟨y,e1,e2,e3⟩:=hG.2.2.2.2.2.2.2.2.2.2.2.2; ⟨S,y,e1,e2,e3⟩) ?_)
 intro t6
 refine B6 (.one (.tp (T3.Flat p q s))) rfl (fun β S w hS hs hw hG=>(kx (bc8 hS hG.2.2.1 hG.2.1 hG.1 k1 k2 k4 (by omega)))) ?_
 refine ad2 (p:=¬ T3.Flat p q s) (fun h=>h d5) ?_
 refine o5 (r6 u1 43 9 true (fun x0=>.one (.ag 9 x0)) (fun x0=>o8 x0 (p)) (fun β S w hM hw hG=>let ⟨y,e1,e2,e3⟩:=hG.2.2.2.2.2.2.2.2.2.2.1; ⟨S,y,e1,e2,e3⟩) ?_)
 intro t7
 refine o5 (r6 u2 43 9 true (fun x0=>.one (.ag 9 x0)) (fun x0=>o8 x0 (q)) (fun β S w hM hw hG=>let ⟨y,e1,e2,e3⟩:=hG.2.2.2.2.2.2.2.2.2.2.2.2.1; ⟨S,y,e1,e2,e3⟩) ?_)
 intro t8
 refine o5 (r6 u3 43 9 true (fun x0=>.one (.ag 9 x0)) (fun x0=>o8 x0 (r)) (fun β S w hM hw hG=>let ⟨y,e1,e2,e3⟩:=hG.2.2.2.2.2.2.2.2.2.2.2.2.2.2.1; ⟨S,y,e1,e2,e3⟩) ?_)
 intro t9
 refine B0 (fun x0=>pr (.ag 3 (M8 x0 0)) (.ag 3 (M8 x0 1))) (fun x0=>rrG x0 ((T3.mPart p q r)) ((T3.nPart p q r))) (fun _ _ _ h=>cy6 h) (fun β S w hS hs hw hG=>(kx (hpt hS hG.2.2.1 hG.2.1 hG.1 k1 k2 k3 (by omega)))) ?_
 intro a1
 refine o5 (r6 u1 43 9 true (fun x0=>.one (.ag 9 x0)) (fun x0=>o8 x0 (p)) (fun β S w hM hw hG=>let ⟨y,e1,e2,e3⟩:=hG.2.2.2.2.2.2.2.2.2.2.2.2.2.2.1; ⟨S,y,e1,e2,e3⟩) ?_)
 intro ta
 refine o5 (r6 u2 43 9 true (fun x0=>.one (.ag 9 x0)) (fun x0=>o8 x0 (q)) (fun β S w hM hw hG=>let ⟨y,e1,e2,e3⟩:=hG.2.2.2.2.2.2.2.2.2.2.2.2.2.2.2.2.1; ⟨S,y,e1,e2,e3⟩) ?_)
 intro tb
 refine o5 (r6 u4 43 9 true (fun x0=>.one (.ag 9 x0)) (fun x0=>o8 x0 (s)) (fun β S w hM hw hG=>let ⟨y,e1,e2,e3⟩:=hG.2.2.2.2.2.2.2.2.2.2.2.2.2.2.2.2.2.2.2; ⟨S,y,e1,e2,e3⟩) ?_)
 intro tc
 refine B0 (fun x0=>pr (.ag 3 (M8 x0 0)) (.ag 3 (M8 x0 1))) (fun x0=>rrG x0 ((T3.mPart p q s)) ((T3.nPart p q s))) (fun _ _ _ h=>cy6 h) (fun β S w hS hs hw hG=>(kx (hpt hS hG.2.2.1 hG.2.1 hG.1 k1 k2 k4 (by omega)))) ?_
 intro a2
 refine B6 (.one (.tp (T3.nPart p q s = 0))) rfl (fun β S w hS hs hw hG=>(kx (F8 hS hG.1.2.2))) ?_
 refine Z8 (p:=T3.nPart p q s = 0) (fun hb=>?_) (fun hb=>?_)
 ·exact o6 (.agg #[.bool false,.slice none 0 0,.slice none 0 0,.bool true]) rfl (fun S w hs hw hG=>⟨hw,.agg #[.bool false,.slice none 0 0,.slice none 0 0],by rw [← m6 hb]; rfl,by unfold T3.ratioQ; rw [if_pos hb]; exact y6⟩)
 have hmb:=ah2 hm0 hb
 have hf : R0 ((T3.mPart p q s * T3.nPart p q r) / (T3.mPart p q r * T3.nPart p q s)):=Q1 (ae5 (q9 rm2 rn1) (q9 rm1 rn2) (N8 hmb)) (by omega)
 refine j7 10 ?_
 refine b7 2 ?_
 refine o9 (fun x0=>.one (.ag 3 x0)) (fun x0=>l6 x0 ((T3.mPart p q s * T3.nPart p q r))) (fun β η S w hS hs hw hG hd=>(kx (B3 hS hG.1.2.1 hG.2.2.2.2.1.2.2 rm2 rn1 (by omega)))) ?_
 refine b7 2 ?_
 refine o9 (fun x0=>.one (.ag 3 x0)) (fun x0=>l6 x0 ((T3.mPart p q r * T3.nPart p q s))) (fun β η S w hS hs hw hG hd=>(kx (B3 hS hG.2.2.2.2.1.2.1 hG.1.2.2 rm1 rn2 (by omega)))) ?_
 refine h_1 (fun x0=>pr (.ag 3 (A8 x0)) (.lit .i64 0)) (fun x0=>ac3 x0 (((T3.mPart p q s * T3.nPart p q r) / (T3.mPart p q r * T3.nPart p q s))) 0) (fun η=>(by kernel_rfl)) (fun _ _ _ h=>X5 h) (fun β η S w hS hs hw hG hd=>(kx (av1 hf (ao5 hS (p6 hd 2 : (l6 (η 2) ((T3.mPart p q s * T3.nPart p q r))).p S w) (p6 hd 5 : (l6 (η 5) ((T3.mPart p q r * T3.nPart p q s))).p S w) (j9 (q9 rm2 rn1)) (j9 (q9 rm1 rn2)) (N8 hmb))))) ?_
 refine b7 2 ?_
 refine o9 (fun x0=>.one (.ag 3 x0)) (fun x0=>l6 x0 (((T3.mPart p q s * T3.nPart p q r) / (T3.mPart p q r * T3.nPart p q s)))) (fun β η S w hS hs hw hG hd=>(kx (Z6 hS (p6 hd 6 : (ac3 (η 6) (((T3.mPart p q s * T3.nPart p q r) / (T3.mPart p q r * T3.nPart p q s))) 0).p S w).2))) ?_
 refine j3 [true,false,false,false] (Gh.nil) (by exact fun _ _ h=>trivial) (fun g η=>(l6 (η 9) (((T3.mPart p q s * T3.nPart p q r) / (T3.mPart p q r * T3.nPart p q s)))).and g) (fun g η=>(by kernel_rfl)) ?_
 intro η_1
 exact o6 ((SV.agg [.ag 3 (η_1 9),.bb false]).den (fun _=>0)) rfl (fun S w hs hw hG=>⟨hw,η_1 9,by rw [← l7 hb]; rfl,by unfold T3.ratioQ; rw [if_neg hb]; exact hG.1.mono fun k _ hk=>hs k hk⟩)
theorem TripV.to {S : Nat → Prop} {w w' : World} {v : Value} {t : T3} (h : TripV S w v t) (k : Ext w w') : TripV S w' v t:=h.keep (.of k)
theorem a33 {S : Nat → Prop} {w : World} {g : Nat} {v : Value} {t : T3} {T : TypeId} {us : List Value} (hS : S g) (hb : Blk w g T us) (hv : TripV S w v t) (e : v = .agg us.toArray) : (D2 (.pointer (some ⟨g,0,none⟩)) t).p S w:=by
 refine ⟨v,hv.lies,⟨g,0,us.toArray,T,(0,0),rfl,hS,hb,by rw [e]; simp [Value.cells],?_⟩,hv⟩
 rw [e]
 simp [Value.cells]
theorem Gh.at' (G : Gh) {S S' : Nat → Prop} {w w' : World} (h : G.p S w) (hs : ∀ k,k < w.heap.size → S k → S' k) (k : Ext w w') : G.p S' w':=G.keep (G.mono h hs) (.of k)
theorem at9 {n : Nat} {F : Value → Gh} {S : Nat → Prop} {w : World} {u v : Value} {T : TypeId} (h : (cs9 u T (d6 (fun _=>0) [.ag n v])).p S w) (hl : M2 true n v) (hF : (F v).p S w) : (atG true n F u).p S w:=by
 obtain ⟨b,rfl,hs,hB⟩:=h
 rw [ae1] at hB
 exact ⟨v,hl,⟨b,0,v.cells.toList.toArray,T,(0,0),rfl,hs,hB,by simp,by rw [List.drop_zero]; exact List.take_of_length_le (Nat.le_refl _)⟩,hF⟩
abbrev bb0 (S : Nat → Prop) (w : World) (Q : (Nat → Prop) → World → Prop) : Prop:=∀ S' w',Up S' w' → Ext w w' → (∀ k,S' k → S k) → (∀ k,k < w.heap.size → S k → S' k) → Q S' w'
namespace T3
def BadR (p q r s : T3) : Prop:=(Same p q ∨ Same p r ∨ Same q r ∨ ¬ Flat p q r) ∨ ¬ Flat p q s
theorem mPart_ne {p q r : T3} (h1 : ¬ Same p q) (h2 : ¬ Same q r) (h3 : Flat p q r) : mPart p q r ≠ 0:=by
 have key : (r.cross q).None → Same q r:=fun ⟨a,b,c⟩=>by
  simp only [cross] at a b c
  refine ⟨?_,?_,?_⟩ <;> simp only [cross] <;> grind
 have hf : (p.cross q).x * (r.cross q).y = (p.cross q).y * (r.cross q).x ∧ (p.cross q).y * (r.cross q).z = (p.cross q).z * (r.cross q).y ∧ (p.cross q).z * (r.cross q).x = (p.cross q).x * (r.cross q).z:=by
  unfold Flat dot at h3
  simp only [cross] at h3 ⊢
  refine ⟨?_,?_,?_⟩ <;> grind
 have dv : ∀ {a b : Rat},b ≠ 0 → a / b = 0 → a = 0:=fun {a b} hb h=>by
  have h4 : a / b * b = a:=Rat.div_mul_cancel hb
  rw [h] at h4
  rw [← h4,Rat.zero_mul]
 intro h
 unfold mPart over1 at h
 split at h
 ·rename_i hx
  have hx0:=dv hx h
  refine h2 (key ⟨hx0,?_,?_⟩)
  ·have e:=hf.1; rw [hx0,Rat.mul_zero] at e; exact (Rat.mul_eq_zero.1 e).resolve_left hx
  have e:=hf.2.2; rw [hx0,Rat.mul_zero] at e; exact (Rat.mul_eq_zero.1 e.symm).resolve_left hx
 rename_i hx
 have hx : (p.cross q).x = 0:=Classical.not_not.1 hx
 split at h
 ·rename_i hy
  have hy0:=dv hy h
  refine h2 (key ⟨?_,hy0,?_⟩)
  ·have e:=hf.1; rw [hx,Rat.zero_mul] at e; exact (Rat.mul_eq_zero.1 e.symm).resolve_left hy
  have e:=hf.2.1; rw [hy0,Rat.mul_zero] at e; exact (Rat.mul_eq_zero.1 e).resolve_left hy
 rename_i hy
 have hy : (p.cross q).y = 0:=Classical.not_not.1 hy
 have hz : (p.cross q).z ≠ 0:=fun hz=>h1 ⟨hx,hy,hz⟩
 have hz0:=dv hz h
 refine h2 (key ⟨?_,?_,hz0⟩)
 ·have e:=hf.2.2; rw [hx,Rat.zero_mul] at e; exact (Rat.mul_eq_zero.1 e).resolve_left hz
 have e:=hf.2.1; rw [hy,Rat.zero_mul] at e; exact (Rat.mul_eq_zero.1 e.symm).resolve_left hz
end T3
open Classical in
noncomputable def O8 (p q r s : T3) : Int:=if I2 [p,q,r,s] = 0 then (if T3.BadR p q r s then 61 else 0) else I2 [p,q,r,s]
theorem a00 {p q r s : T3} (h : O8 p q r s = 0) : I2 [p,q,r,s] = 0 ∧ ¬ T3.BadR p q r s:=by
 unfold O8 at h
 split at h
 ·split at h
  ·omega
  exact ⟨‹_›,‹_›⟩
 exact absurd h ‹_›
theorem cw8 {S : Nat → Prop} {w : World} {u1 u2 u3 u4 : Value} {p q r s : T3} {m : Nat} (ht : Tab w) (hS : Up S w) (o1 : u1.oneCell' = true) (o2 : u2.oneCell' = true) (o3 : u3.oneCell' = true) (o4 : u4.oneCell' = true) (h1 : (D2 u1 p).p S w) (h2 : (D2 u2 q).p S w) (h3 : (D2 u3 r).p S w) (h4 : (D2 u4 s).p S w)
  (k1 : tl p m) (k2 : tl q m) (k3 : tl r m) (k4 : tl s m) (hmm : m ≤ 100) (e0 : ¬ O8 p q r s = 0) : Pan prog 56 [u1,u2,u3,u4] w (I8 (O8 p q r s)):=by
 refine L8 (E:=env) (S0:=S) (G:=((D2 u1 p).and ((D2 u2 q).and ((D2 u3 r).and (D2 u4 s))))) (l:=[.one (.val u1),.one (.val u2),.one (.val u3),.one (.val u4)]) func56 rfl rfl rfl ⟨o1,o2,o3,o4,trivial⟩ rfl ⟨h1,h2,h3,h4⟩ ?_
 refine o5 (r6 u1 43 9 true (fun x0=>.one (.ag 9 x0)) (fun x0=>o8 x0 (p)) (fun β S w hM hw hG=>let ⟨y,e1,e2,e3⟩:=hG.1; ⟨S,y,e1,e2,e3⟩) ?_)
 intro y1
 refine o5 (r6 u2 43 9 true (fun x0=>.one (.ag 9 x0)) (fun x0=>o8 x0 (q)) (fun β S w hM hw hG=>let ⟨y,e1,e2,e3⟩:=hG.2.2.1; ⟨S,y,e1,e2,e3⟩) ?_)
 intro y2
 refine o5 (r6 u3 43 9 true (fun x0=>.one (.ag 9 x0)) (fun x0=>o8 x0 (r)) (fun β S w hM hw hG=>let ⟨y,e1,e2,e3⟩:=hG.2.2.2.2.1; ⟨S,y,e1,e2,e3⟩) ?_)
 intro y3
 refine o5 (r6 u4 43 9 true (fun x0=>.one (.ag 9 x0)) (fun x0=>o8 x0 (s)) (fun β S w hM hw hG=>let ⟨y,e1,e2,e3⟩:=hG.2.2.2.2.2.2; ⟨S,y,e1,e2,e3⟩) ?_)
 intro y4
 by_cases hb : I2 [p,q,r,s] = 0
 ·have e : O8 p q r s = 61:=by
   unfold O8 at e0 ⊢
   rw [if_pos hb] at e0 ⊢
   split
   ·rfl
   rename_i g
   rw [if_neg g] at e0
   exact absurd rfl e0
  have hB : T3.BadR p q r s:=Classical.byContradiction fun g=>e0 (by unfold O8; rw [if_pos hb,if_neg g])
  rw [e]
  refine O6 (.und) rfl (fun β S w hS hM hs hw hG=>(kx (U9 (ht.to hw) (x9 hS) (H3 (l:=[p,q,r,s]) 1 43 [y1,y2,y3,y4] hM (by kernel_rfl) (dr7 hG.2.2.2.1 hG.2.2.1 hG.2.1 hG.1) (show 4 ≤ maxLen by decide)) (df3 (F3 k1) (F3 k2) (F3 k3) (F3 k4)) (bp9 hb)))) ?_
  refine o5 (r6 u1 43 9 true (fun x0=>.one (.ag 9 x0)) (fun x0=>o8 x0 (p)) (fun β S w hM hw hG=>let ⟨y,e1,e2,e3⟩:=hG.2.2.2.2.1; ⟨S,y,e1,e2,e3⟩) ?_)
  intro t1
  refine o5 (r6 u2 43 9 true (fun x0=>.one (.ag 9 x0)) (fun x0=>o8 x0 (q)) (fun β S w hM hw hG=>let ⟨y,e1,e2,e3⟩:=hG.2.2.2.2.2.2.1; ⟨S,y,e1,e2,e3⟩) ?_)
  intro t2
  refine o5 (r6 u3 43 9 true (fun x0=>.one (.ag 9 x0)) (fun x0=>o8 x0 (r)) (fun β S w hM hw hG=>let ⟨y,e1,e2,e3⟩:=hG.2.2.2.2.2.2.2.2.1; ⟨S,y,e1,e2,e3⟩) ?_)
  intro t3
  by_cases hL : T3.Same p q ∨ T3.Same p r ∨ T3.Same q r ∨ ¬ T3.Flat p q r
  ·exact s_X ⟨b9,hS,j6⟩ (by kernel_rfl) (by kernel_rfl) (fun β S w hS hs hw hG=>(kx (Q7 (dc1 hS hG.2.2.1 hG.2.1 hG.1 k1 k2 k3 (by omega) hL) hw)))
  have d1 : ¬ T3.Same p q:=fun g=>hL (.inl g)
  have d2 : ¬ T3.Same p r:=fun g=>hL (.inr (.inl g))
  have d3 : ¬ T3.Same q r:=fun g=>hL (.inr (.inr (.inl g)))
  have d4 : T3.Flat p q r:=Classical.byContradiction fun g=>hL (.inr (.inr (.inr g)))
  refine B6 (.und) rfl (fun β S w hS hs hw hG=>(kx (b29 hS hG.2.2.1 hG.2.1 hG.1 k1 k2 k3 (by omega) d1 d2 d3 d4))) ?_
  refine o5 (r6 u1 43 9 true (fun x0=>.one (.ag 9 x0)) (fun x0=>o8 x0 (p)) (fun β S w hM hw hG=>let ⟨y,e1,e2,e3⟩:=hG.2.2.2.2.2.2.2.1; ⟨S,y,e1,e2,e3⟩) ?_)
  intro t4
  refine o5 (r6 u2 43 9 true (fun x0=>.one (.ag 9 x0)) (fun x0=>o8 x0 (q)) (fun β S w hM hw hG=>let ⟨y,e1,e2,e3⟩:=hG.2.2.2.2.2.2.2.2.2.1; ⟨S,y,e1,e2,e3⟩) ?_)
  intro t5
  refine o5 (r6 u4 43 9 true (fun x0=>.one (.ag 9 x0)) (fun x0=>o8 x0 (s)) (fun β S w hM hw hG=>let ⟨y,e1,e2,e3⟩:=hG.2.2.2.2.2.2.2.2.2.2.2.2; ⟨S,y,e1,e2,e3⟩) ?_)
  intro t6
  refine B6 (.one (.tp (T3.Flat p q s))) rfl (fun β S w hS hs hw hG=>(kx (bc8 hS hG.2.2.1 hG.2.1 hG.1 k1 k2 k4 (by omega)))) ?_
  refine W0 (p:=¬ T3.Flat p q s) (hB.resolve_left hL) ?_
  exact s_X ⟨b9,hS,j6⟩ (by kernel_rfl) (by kernel_rfl) (fun β S w hS hs hw hG=>(kx (Q7 (ac2 (e:=61)) hw)))
 have e : O8 p q r s = I2 [p,q,r,s]:=by unfold O8; rw [if_neg hb]
 rw [e]
 exact bt8 ⟨b9,hS,j6⟩ (by kernel_rfl) (by kernel_rfl) (fun β S w hS hM hs hw hG=>(kx (Q7 (cf4 (ht.to hw) (x9 hS) (H3 (l:=[p,q,r,s]) 1 43 [y1,y2,y3,y4] hM (by kernel_rfl) (dr7 hG.2.2.2.1 hG.2.2.1 hG.2.1 hG.1) (show 4 ≤ maxLen by decide)) (df3 (F3 k1) (F3 k2) (F3 k3) (F3 k4)) hb) hw)))
theorem d63 {S : Nat → Prop} {w : World} (F : FuncId) [ci : CallI prog F] (cap : List Value) {t : Rat} {p : Prop} {E : Int} (hS : Up S w) (h0 : E = 0 → bb0 S w fun S' w'=>Gives prog F cap w' fun v w''=>Ext w' w'' ∧ RatioV S' w'' v t p) (h1 : ¬ E = 0 → bb0 S w fun S' w'=>Pan prog F cap w' (I8 E)) :
  Gives prog 55 [.func (.func F) #[] cap.toArray] w fun v' w'=>Ext w w' ∧ ∃ x,v' = .tuple #[x,.int .i64 E] ∧ RatioV S w' x (if E = 0 then t else 0) (E = 0 ∧ p):=by
 by_cases e : E = 0
 ·refine (bj6 (F:=F) (cap:=cap) (t:=t) (p:=p) (E:=0) (Y:=True) (Z:=False) hS fun S' w' hS' k' hs hs'=>Gives.toE ((h0 e S' w' hS' k' hs hs').mono fun v w'' h=>⟨h.1,h.2,trivial⟩)).mono ?_
  rintro v' w' ⟨k',h⟩
  obtain ⟨x,rfl,h,_⟩:=h.resolve_right fun h=>h.2
  refine ⟨k',x,by rw [e],?_⟩
  rw [if_pos e,show (E = 0 ∧ p) = p from propext ⟨fun h=>h.2,fun h=>⟨e,h⟩⟩]
  exact h
 refine (bj6 (F:=F) (cap:=cap) (t:=t) (p:=p) (E:=E) (Y:=False) (Z:=True) hS fun S' w' hS' k' hs hs'=>(h1 e S' w' hS' k' hs hs').mono (fun _ _ h=>h.elim) fun ch w'' h=>⟨h.1,h.2,trivial⟩).mono ?_
 rintro v' w' ⟨k',⟨x,rfl,h,hf⟩ | ⟨rfl,_⟩⟩
 ·exact hf.elim
 refine ⟨k',_,rfl,?_⟩
 rw [if_neg e]
 refine ⟨.agg #[.bool false,.slice none 0 0,.slice none 0 0],?_,y6⟩
 have e2 : tst (E = 0 ∧ p) = false:=l7 fun h=>e h.1
 show (Value.agg W8.toArray) = _
 rw [show (SV.agg [.ag 3 (.agg #[.bool false,.slice none 0 0,.slice none 0 0]),.tp (E = 0 ∧ p)]).den (fun _=>0) = .agg #[.bool false,.slice none 0 0,.slice none 0 0,.bool (tst (E = 0 ∧ p))] from by simp [SV.den,d6,Ch.cells,Ch.den,Value.cells],e2]
 rfl
noncomputable def an3 (p q r s : T3) : Rat:=if O8 p q r s = 0 then T3.ratioQ p q r s else 0
def L9 (p q r s : T3) : Prop:=O8 p q r s = 0 ∧ T3.nPart p q s = 0
theorem a52 {S : Nat → Prop} {w : World} {vp vq vr vs : Value} {p q r s : T3} {m : Nat} (ht : Tab w) (hS : Up S w) (hp : TripV S w vp p) (hq : TripV S w vq q) (hr : TripV S w vr r) (hs : TripV S w vs s)
  (k1 : tl p m) (k2 : tl q m) (k3 : tl r m) (k4 : tl s m) (hmm : m ≤ 100) :
  Gives prog 13 [vp,vq,vr,vs] w fun v' w'=>Ext w w' ∧ ∃ x,v' = .tuple #[x,.bool (tst (L9 p q r s)),.int .i64 (O8 p q r s)] ∧ RatV S w' x (an3 p q r s):=by
 unfold L9
 obtain ⟨us1,e1,l1,n1⟩:=hp.ok
 obtain ⟨us2,e2,l2,n2⟩:=hq.ok
 obtain ⟨us3,e3,l3,n3⟩:=hr.ok
 obtain ⟨us4,e4,l4,n4⟩:=hs.ok
 refine l8 func13 rfl rfl rfl ?_
 repeat refine wW ?_
 refine br3 (v:=vp) (cs:=us1) rfl (by rw [e1]; rfl) ?_
 intro w1 g1 x1 hg1 hgs1
 have y1:=hg1.lt
 refine br3 (v:=vq) (cs:=us2) rfl (by rw [e2]; rfl) ?_
 intro w2 g2 x2 hg2 hgs2
 have y2:=hg2.lt
 refine br3 (v:=vr) (cs:=us3) rfl (by rw [e3]; rfl) ?_
 intro w3 g3 x3 hg3 hgs3
 have y3:=hg3.lt
 refine br3 (v:=vs) (cs:=us4) rfl (by rw [e4]; rfl) ?_
 intro w4 g4 x4 hg4 hgs4
 have y4:=hg4.lt
 refine q8 (cs:=[.bool false,.slice none 0 0,.slice none 0 0]) rfl ?_
 intro w5 g5 x5 hg5 hgs5
 have z1:=x1.size
 have z2:=x2.size
 have z3:=x3.size
 have z4:=x4.size
 have z5:=x5.size
 have K:=(((x1.trans x2).trans x3).trans x4).trans x5
 have hl5:=hg5.lt
 replace hg1:=(((hg1.to x2).to x3).to x4).to x5
 replace hg2:=((hg2.to x3).to x4).to x5
 replace hg3:=(hg3.to x4).to x5
 replace hg4:=hg4.to x5
 have hS2 : Up (fun k=>S k ∧ k ≠ g5) w5:=fun i hi=>⟨hS i (by omega),by omega⟩
 have up : ∀ {v : Value} {t : T3},TripV S w v t → TripV (fun k=>S k ∧ k ≠ g5) w5 v t:=fun h=>(h.mono (S':=fun k=>S k ∧ k ≠ g5) fun i hi hs=>⟨hs,by omega⟩).to K
 have t1:=a33 (S:=fun k=>S k ∧ k ≠ g5) ⟨hS g1 hgs1,by omega⟩ hg1 (up hp) e1
 have t2:=a33 (S:=fun k=>S k ∧ k ≠ g5) ⟨hS g2 (by omega),by omega⟩ hg2 (up hq) e2
 have t3:=a33 (S:=fun k=>S k ∧ k ≠ g5) ⟨hS g3 (by omega),by omega⟩ hg3 (up hr) e3
 have t4:=a33 (S:=fun k=>S k ∧ k ≠ g5) ⟨hS g4 (by omega),by omega⟩ hg4 (up hs) e4
 have key0 : O8 p q r s = 0 → bb0 (fun k=>S k ∧ k ≠ g5) w5 fun S' w'=>Gives prog 56 [.pointer (some ⟨g1,0,none⟩),.pointer (some ⟨g2,0,none⟩),.pointer (some ⟨g3,0,none⟩),.pointer (some ⟨g4,0,none⟩)] w' fun v w''=>Ext w' w'' ∧ RatioV S' w'' v (T3.ratioQ p q r s) (T3.nPart p q s = 0):=by
  intro e S' w' hS' k' _ hs'
  obtain ⟨e1,e2⟩:=a00 e
  have eb:=bp9 e1
  have d1 : ¬ T3.Same p q:=fun g=>e2 (.inl (.inl g))
  have d2 : ¬ T3.Same p r:=fun g=>e2 (.inl (.inr (.inl g)))
  have d3 : ¬ T3.Same q r:=fun g=>e2 (.inl (.inr (.inr (.inl g))))
  have d4 : T3.Flat p q r:=Classical.byContradiction fun g=>e2 (.inl (.inr (.inr (.inr g))))
  have d5 : T3.Flat p q s:=Classical.byContradiction fun g=>e2 (.inr g)
  exact cp5 (fun {S w vp vq vr r m} a1 a2 a3 a4 a5 a6 a7 a8=>c39 a1 a2 a3 a4 a5 a6 a7 a8 d1) (ht.to (K.trans k')) hS' rfl rfl rfl rfl ((D2 _ p).at' t1 hs' k') ((D2 _ q).at' t2 hs' k') ((D2 _ r).at' t3 hs' k') ((D2 _ s).at' t4 hs' k') k1 k2 k3 k4 hmm (eb p (by simp)) (eb q (by simp)) (eb r (by simp)) (eb s (by simp)) d1 d2 d3 d4 d5 (T3.mPart_ne d1 d3 d4)
 have key1 : ¬ O8 p q r s = 0 → bb0 (fun k=>S k ∧ k ≠ g5) w5 fun S' w'=>Pan prog 56 [.pointer (some ⟨g1,0,none⟩),.pointer (some ⟨g2,0,none⟩),.pointer (some ⟨g3,0,none⟩),.pointer (some ⟨g4,0,none⟩)] w' (I8 (O8 p q r s)):=by
  intro e S' w' hS' k' _ hs'
  exact cw8 (ht.to (K.trans k')) hS' rfl rfl rfl rfl ((D2 _ p).at' t1 hs' k') ((D2 _ q).at' t2 hs' k') ((D2 _ r).at' t3 hs' k') ((D2 _ s).at' t4 hs' k') k1 k2 k3 k4 hmm e
 repeat (first | refine aq9 ?_ | refine wW ?_)
 refine i1 (d63 56 [.pointer (some ⟨g1,0,none⟩),.pointer (some ⟨g2,0,none⟩),.pointer (some ⟨g3,0,none⟩),.pointer (some ⟨g4,0,none⟩)] hS2 key0 key1) rfl ?_
 rintro v6 w6 ⟨x6,x,rfl,hx⟩
 obtain ⟨y,rfl,hy⟩:=hx
 obtain ⟨ys,ey,ly,ny⟩:=hy.ok
 subst ey
 obtain ⟨c1,c2,c3,rfl⟩ : ∃ c1 c2 c3,ys = [c1,c2,c3]:=by
  match ys,ly with
  | [c1,c2,c3],_=>exact ⟨c1,c2,c3,rfl⟩
 replace hg5:=hg5.to x6
 have z6:=x6.size
 repeat (first | refine q5 ?_ | refine B4 rfl rfl ?_)
 refine q8 (cs:=W8) rfl ?_
 intro w7 g7 x7 hg7 hgs7
 replace hg5:=hg5.to x7
 refine z8 (us:=[c1,c2,c3,.bool (tst (O8 p q r s = 0 ∧ T3.nPart p q s = 0))]) rfl (by conv=>(lhs; whnf)) rfl rfl hg7 rfl (fun v hv=>by
  simp only [List.mem_cons,List.not_mem_nil,or_false] at hv
  rcases hv with rfl | rfl | rfl | rfl
  ·exact ny _ (by simp)
  ·exact ny _ (by simp)
  ·exact ny _ (by simp)
  rfl) ?_
 intro w8 x8 hg8
 have hne : g7 ≠ g5:=by omega
 replace hg5:=hg5.wr x8 (fun e=>hne e.symm)
 have hy6:=hy.mono (S':=fun k=>(S k ∧ k ≠ g5) ∧ k < w6.heap.size) (fun i hi h=>⟨h,hi⟩)
 have hy8 : RatV (fun k=>(S k ∧ k ≠ g5) ∧ k < w6.heap.size) w8 (.agg #[c1,c2,c3]) (an3 p q r s):=(hy6.keep (.of x7)).keep (x8.mono fun i hi=>by have:=hi.2; omega)
 repeat refine wW ?_
 refine aj3 (R:=OneW g5 41 [.bool false,.slice none 0 0,.slice none 0 0] [c1,c2,c3]) 7 OneW.trans OneW.drew (by kernel_rfl) (by kernel_rfl) ?_
 apply D4
 ·intro x w1 k1 hd
  refine j5 rfl ?_
  refine b8 ?_
  exact N5 OneW.refl
 apply D4
 ·intro x w1 k1 hd
  refine p8 rfl (hg8.wr k1.1 hne) rfl rfl ?_
  refine b8 ?_
  exact N5 OneW.refl
 apply D4
 ·intro x w1 k1 hd
  refine j5 rfl ?_
  refine b8 ?_
  exact N5 OneW.refl
 apply D4
 ·intro x w1 k1 hd
  refine f5 rfl (hg8.wr k1.1 hne) rfl ?_
  refine b8 ?_
  exact N5 OneW.refl
 apply D4
 ·intro x w1 k1 hd
  refine ch2 rfl ?_
  refine b8 ?_
  exact N5 OneW.refl
 refine D4 (e:=EntR.of (fun v w=>Blk w g5 41 [c1,c2,c3]) (fun v w w' h k=>k.2.2 h)) ?_ ?_
 ·intro x w1 k1 hd
  rcases k1.2.1 (.inl hg5) with hgx | hgx
  ·refine z8 (us:=[c1,c2,c3]) rfl (by conv=>(lhs; whnf)) rfl rfl hgx rfl ny ?_
   intro w12 k12 hg12
   exact b8 (R8 (OneW.wrote k12 hg12) hg12)
  refine z8 (us:=[c1,c2,c3]) rfl (by conv=>(lhs; whnf)) rfl rfl hgx rfl ny ?_
  intro w12 k12 hg12
  exact b8 (R8 (OneW.wrote k12 hg12) hg12)
 apply D4
 ·intro x w1 k1 hd
  refine b74 rfl ?_
  refine b8 ?_
  exact N5 OneW.refl
 refine az5 (a29 ?_)
 intro x w12 k12 hall
 have h14:=hall.2.1
 repeat refine wW ?_
 refine db2 rfl (n6 h14 rfl) (B8 (by conv=>(lhs; whnf))) (B8 (by conv=>(lhs; whnf))) ⟨?_,_,rfl,?_⟩
 ·exact ((Keeps.past ((K.trans x6).trans x7) x8 (by omega)).past k12.1 (by omega))
 exact (hy8.keep (k12.1.mono fun i hi=>hi.1.2)).mono fun i _ hi=>hi.1.1
abbrev bv8 (v : Value) (t : T3) : Gh:=⟨fun S w=>v = .tuple #[M8 v 0,.int .i64 0] ∧ (O5 (M8 v 0) t).p S w,fun h k=>⟨h.1,(O5 _ t).keep h.2 k⟩,fun h k=>⟨h.1,(O5 _ t).mono h.2 k⟩⟩
theorem cs3 {v : Value} {t : T3} {S : Nat → Prop} {w : World} (h : (bv8 v t).p S w) : (SV.tup [(true,[.ag 3 (cel (M8 v 0) 0 3),.ag 3 (cel (M8 v 0) 3 3),.ag 3 (cel (M8 v 0) 6 3)]),(false,[.lit .i64 0])]).Ok 0 ∧ (SV.tup [(true,[.ag 3 (cel (M8 v 0) 0 3),.ag 3 (cel (M8 v 0) 3 3),.ag 3 (cel (M8 v 0) 6 3)]),(false,[.lit .i64 0])]).den (fun _=>0) = v:=by
 refine ⟨fun p hp c hc=>?_,?_⟩
 ·simp only [List.mem_cons,List.not_mem_nil,or_false] at hp
  rcases hp with rfl | rfl
  ·exact (M0 h.2).1 c hc
  simp only [List.mem_cons,List.not_mem_nil,or_false] at hc
  subst hc
  trivial
 conv=>rhs; rw [h.1,h.2.1]
 rfl
theorem da1 {v : Value} {t : T3} {S : Nat → Prop} {w : World} (h : (F2 v t 0).p S w) : (bv8 v t).p S w:=⟨h.1,a89 h.2⟩
abbrev dx5 (v : Value) (q : Rat) : Gh:=⟨fun S w=>v = .tuple #[M8 v 0,.bool false,.int .i64 0] ∧ RatV S w (M8 v 0) q,fun h k=>⟨h.1,h.2.keep k⟩,fun h k=>⟨h.1,h.2.mono k⟩⟩
theorem dm0 {v : Value} {q : Rat} {S : Nat → Prop} {w : World} (h : (dx5 v q).p S w) : (SV.tup [(true,[.ag 3 (M8 v 0)]),(false,[.bb false]),(false,[.lit .i64 0])]).Ok 0 ∧ (SV.tup [(true,[.ag 3 (M8 v 0)]),(false,[.bb false]),(false,[.lit .i64 0])]).den (fun _=>0) = v:=by
 refine ⟨fun p hp c hc=>?_,?_⟩
 ·simp only [List.mem_cons,List.not_mem_nil,or_false] at hp
  rcases hp with rfl | rfl | rfl <;> (simp only [List.mem_cons,List.not_mem_nil,or_false] at hc; subst hc)
  ·exact h.2.okc
  ·trivial
  trivial
 conv=>rhs; rw [h.1]
 obtain ⟨m,b,hv,_⟩:=h.2
 rw [hv]
 rfl
theorem at3 {t : T3} : af4 t.list ↔ t.None:=by
 unfold af4 T3.None T3.list
 simp only [List.mem_cons,List.not_mem_nil,or_false,not_exists,not_and,Classical.not_not,forall_eq_or_imp,forall_eq]
theorem bh1 {q : Rat} {k : Nat} (h : rl q k) (hk : k ≤ 4) : ¬ Y4 q:=by
 have h2:=J8 q.num.natAbs (show dl q.num.natAbs ≤ k from h.1)
 have h3:=J8 q.den (show dl q.den ≤ k from h.2)
 unfold Y4
 omega
theorem ac5 {t : T3} {k : Nat} (h : tl t k) (hk : k ≤ 4) (hn : ¬ t.None) : D9 t = 0:=by
 unfold D9
 rw [if_neg (fun e=>hn (at3.1 e)),if_neg]
 rintro ⟨x,hx,hl⟩
 exact bh1 (af5 h x hx) hk hl
def P1 : T3:=⟨1,0,0⟩
def P2 : T3:=⟨0,2,0⟩
def P3 : T3:=⟨1,1,0⟩
def P4 : T3:=⟨1,2,0⟩
theorem N7 {q : Rat} (h1 : q.num.natAbs < 1000000000) (h2 : q.den < 1000000000) : rl q 1:=⟨L5 (k:=1) (by omega),L5 (k:=1) (by omega)⟩
theorem b12 : tl P1 1:=⟨N7 (by decide) (by decide),N7 (by decide) (by decide),N7 (by decide) (by decide)⟩
theorem ci4 : tl P2 1:=⟨N7 (by decide) (by decide),N7 (by decide) (by decide),N7 (by decide) (by decide)⟩
theorem c32 : tl P3 1:=⟨N7 (by decide) (by decide),N7 (by decide) (by decide),N7 (by decide) (by decide)⟩
theorem dc0 : tl P4 1:=⟨N7 (by decide) (by decide),N7 (by decide) (by decide),N7 (by decide) (by decide)⟩
theorem cg6 : D9 P1 = 0:=ac5 b12 (by decide) (by decide +kernel)
theorem c54 : D9 P2 = 0:=ac5 ci4 (by decide) (by decide +kernel)
theorem dz9 : D9 P3 = 0:=ac5 c32 (by decide) (by decide +kernel)
theorem dx2 : D9 P4 = 0:=ac5 dc0 (by decide) (by decide +kernel)
theorem ci9 : ¬ T3.Same P1 P2:=by decide +kernel
theorem df6 : ¬ T3.Same P1 P3:=by decide +kernel
theorem dn4 : ¬ T3.Same P2 P3:=by decide +kernel
theorem c67 : T3.Flat P1 P2 P3:=by decide +kernel
theorem c03 : T3.Flat P1 P2 P4:=by decide +kernel
theorem ci2 : (P1.cross P2).normal = ⟨0,0,1⟩:=by
 have h : (P1.cross P2).normal.x = 0 ∧ (P1.cross P2).normal.y = 0 ∧ (P1.cross P2).normal.z = 1:=by decide +kernel
 exact T3.ext h.1 h.2.1 h.2.2
def L1 : T3:=⟨0,0,1⟩
theorem cn5 : tl L1 1:=⟨N7 (by decide) (by decide),N7 (by decide) (by decide),N7 (by decide) (by decide)⟩
theorem dy4 : D9 L1 = 0:=ac5 cn5 (by decide) (by decide +kernel)
theorem dy8 : Q8 P1 P2 = 0:=by unfold Q8; rw [if_pos cg6,c54]
theorem b71 : V0 P1 P2 = 0:=by unfold V0; rw [if_pos dy8,if_neg ci9]
theorem c19 : aq4 P1 P2 = L1:=by unfold aq4; rw [if_pos b71,ci2]; rfl
theorem da5 : Q8 P1 L1 = 0:=by unfold Q8; rw [if_pos cg6,dy4]
theorem d44 : OnP P1 L1:=⟨da5,by decide +kernel⟩
theorem nP : ¬ T3.nPart P1 P2 P4 = 0:=by decide +kernel
theorem de7 : T3.ratioQ P1 P2 P3 P4 = 1 / 2:=by decide +kernel
theorem b47 : O8 P1 P2 P3 P4 = 0:=by
 have h : I2 [P1,P2,P3,P4] = 0:=by
  unfold I2
  rw [if_pos cg6]
  unfold I2
  rw [if_pos c54]
  unfold I2
  rw [if_pos dz9]
  unfold I2
  rw [if_pos dx2]
  rfl
 unfold O8
 rw [if_pos h,if_neg]
 rintro ((g | g | g | g) | g)
 ·exact ci9 g
 ·exact df6 g
 ·exact dn4 g
 ·exact g c67
 exact g c03
theorem dd0 : ¬ L9 P1 P2 P3 P4:=fun h=>nP h.2
theorem ct2 : an3 P1 P2 P3 P4 = 1 / 2:=by unfold an3; rw [if_pos b47,de7]
theorem cr7 : R7 (1 / 2 : Rat) = [49,47,50]:=by
 have h1 : (1 / 2 : Rat).num = 1:=by decide +kernel
 have h2 : (1 / 2 : Rat).den = 2:=by decide +kernel
 unfold R7 Lib.itoa
 rw [h1,h2,if_neg (by decide),if_neg (by decide),show (1 : Int).toNat = 1 from rfl,Lib.decDigits_one (by decide),Lib.decDigits_one (by decide)]
 rfl
theorem dl3 : R7 (1 : Rat) = [49]:=by
 have h1 : (1 : Rat).num = 1:=rfl
 have h2 : (1 : Rat).den = 1:=rfl
 unfold R7 Lib.itoa
 rw [h1,h2,if_neg (by decide),if_pos rfl,show (1 : Int).toNat = 1 from rfl,Lib.decDigits_one (by decide)]
 rfl
theorem au5 {S : Nat → Prop} {w : World} (hS : Up S w) : Gives prog 14 [.int .i64 1,.int .i64 1] w fun v' w'=>Ext w w' ∧ QV S w' v' (1 : Rat):=H6 (a:=1) hS (by decide) (by decide)
theorem dp6 {S : Nat → Prop} {w : World} (hS : Up S w) : Gives prog 14 [.int .i64 2,.int .i64 1] w fun v' w'=>Ext w w' ∧ QV S w' v' (2 : Rat):=H6 (a:=2) hS (by decide) (by decide)
theorem b18 {w : World} (ht : Tab w) : Gives prog 25 [] w fun v' w'=>v' = .bool true ∧ Ext w w':=by
 have hS : Up All w:=Up.all
 refine n8 (E:=env) (S0:=All) (G:=Gh.nil) (l:=[]) func25 rfl rfl rfl trivial rfl trivial ?_
 refine B0 (fun x0=>.one (.ag 4 x0)) (fun x0=>qG x0 ((1 : Rat))) (fun _ _ _ h=>⟨h.ok,rfl⟩) (fun β S w hS hs hw hG=>(kx (au5 hS))) ?_
 intro v1
 refine B0 (fun x0=>.one (.ag 4 x0)) (fun x0=>qG x0 ((0 : Rat))) (fun _ _ _ h=>⟨h.ok,rfl⟩) (fun β S w hS hs hw hG=>(kx (af1 hS))) ?_
 intro v2
 refine B0 (fun x0=>.one (.ag 4 x0)) (fun x0=>qG x0 ((0 : Rat))) (fun _ _ _ h=>⟨h.ok,rfl⟩) (fun β S w hS hs hw hG=>(kx (af1 hS))) ?_
 intro v3
 refine B0 (fun x0=>.one (.ag 9 x0)) (fun x0=>o8 x0 (P1)) (fun _ _ _ h=>⟨h.ok,rfl⟩) (fun β S w hS hs hw hG=>(kx (L7 hS ⟨v1,v2,v3,rfl,hG.2.2.1,hG.2.1,hG.1⟩ b12 (by decide)))) ?_
 intro p
 refine B0 (fun x0=>.one (.ag 4 x0)) (fun x0=>qG x0 ((0 : Rat))) (fun _ _ _ h=>⟨h.ok,rfl⟩) (fun β S w hS hs hw hG=>(kx (af1 hS))) ?_
 intro v4
 refine B0 (fun x0=>.one (.ag 4 x0)) (fun x0=>qG x0 ((2 : Rat))) (fun _ _ _ h=>⟨h.ok,rfl⟩) (fun β S w hS hs hw hG=>(kx (dp6 hS))) ?_
 intro v5
 refine B0 (fun x0=>.one (.ag 4 x0)) (fun x0=>qG x0 ((0 : Rat))) (fun _ _ _ h=>⟨h.ok,rfl⟩) (fun β S w hS hs hw hG=>(kx (af1 hS))) ?_
 intro v6
 refine B0 (fun x0=>.one (.ag 9 x0)) (fun x0=>o8 x0 (P2)) (fun _ _ _ h=>⟨h.ok,rfl⟩) (fun β S w hS hs hw hG=>(kx (L7 hS ⟨v4,v5,v6,rfl,hG.2.2.1,hG.2.1,hG.1⟩ ci4 (by decide)))) ?_
 intro q
 refine B0 (fun x0=>.tup [(true,[.ag 3 (cel (M8 x0 0) 0 3),.ag 3 (cel (M8 x0 0) 3 3),.ag 3 (cel (M8 x0 0) 6 3)]),(false,[.lit .i64 0])]) (fun x0=>bv8 x0 (L1)) (fun _ _ _ h=>cs3 h) (fun β S w hS hs hw hG=>(kx ((cl1 (k:=1) (ht.to hw) hS hG.2.2.2.2.1 hG.1 b12 ci4 (by decide) (by rw [ci2]; exact cn5) (by decide)).mono fun v' w' h=>⟨h.1,da1 (by have h2:=h.2; rw [b71,c19] at h2; exact h2)⟩))) ?_
 intro j
 refine B6 (pr (.bb true) (.lit .i64 0)) rfl (fun β S w hS hs hw hG=>(kx (gK (b77 (ht.to hw) hS hG.2.2.2.2.2.1 ⟨_,_,_,rfl,hG.1.2.2.1,hG.1.2.2.2.1,hG.1.2.2.2.2⟩ b12 cn5 (by decide)) (by rw [m6 d44,da5]; rfl)))) ?_
 refine j7 20 ?_
 refine b7 2 ?_
 refine o9 (fun x0=>.one (.ag 4 x0)) (fun x0=>qG x0 ((1 : Rat))) (fun β η S w hS hs hw hG hd=>(kx (au5 hS))) ?_
 refine o9 (fun x0=>.one (.ag 4 x0)) (fun x0=>qG x0 ((1 : Rat))) (fun β η S w hS hs hw hG hd=>(kx (au5 hS))) ?_
 refine o9 (fun x0=>.one (.ag 4 x0)) (fun x0=>qG x0 ((0 : Rat))) (fun β η S w hS hs hw hG hd=>(kx (af1 hS))) ?_
 refine as1 (fun x0=>.one (.ag 12 x0)) (fun x0=>I7 x0 (P3)) ⟨b9,hS,j6⟩ (fun η=>(by kernel_rfl)) (fun η=>(by kernel_rfl)) (fun β η S w hS hM hs hw hG hd=>have hF : (I7 (ap8 (η 2) (η 3) (η 4)) (P3)).p S w:=⟨_,_,_,rfl,(p6 hd 2 : (qG (η 2) ((1 : Rat))).p S w),(p6 hd 3 : (qG (η 3) ((1 : Rat))).p S w),(p6 hd 4 : (qG (η 4) ((0 : Rat))).p S w)⟩; have hK : ∀ (x0 : Value) (S : Nat → Prop) (w : World),(I7 x0 (P3)).p S w → (.one (.ag 12 x0) : SV).Ok 0 ∧ (.one (.ag 12 x0) : SV).den (fun _=>0) = x0:=(fun _ _ _ h=>⟨h.ok,rfl⟩); ⟨(ap8 (η 2) (η 3) (η 4)),(by kernel_rfl),(hK _ S w hF).2.symm,(hK _ S w hF).1,hF⟩) ?_
 refine o9 (fun x0=>.one (.ag 9 x0)) (fun x0=>o8 x0 (P3)) (fun β η S w hS hs hw hG hd=>(kx (L7 hS (p6 hd 5 : (I7 (η 5) (P3)).p S w) c32 (by decide)))) ?_
 refine o9 (fun x0=>.one (.ag 4 x0)) (fun x0=>qG x0 ((1 : Rat))) (fun β η S w hS hs hw hG hd=>(kx (au5 hS))) ?_
 refine o9 (fun x0=>.one (.ag 4 x0)) (fun x0=>qG x0 ((2 : Rat))) (fun β η S w hS hs hw hG hd=>(kx (dp6 hS))) ?_
 refine o9 (fun x0=>.one (.ag 4 x0)) (fun x0=>qG x0 ((0 : Rat))) (fun β η S w hS hs hw hG hd=>(kx (af1 hS))) ?_
 refine as1 (fun x0=>.one (.ag 12 x0)) (fun x0=>I7 x0 (P4)) ⟨b9,hS,j6⟩ (fun η=>(by kernel_rfl)) (fun η=>(by kernel_rfl)) (fun β η S w hS hM hs hw hG hd=>have hF : (I7 (ap8 (η 7) (η 8) (η 9)) (P4)).p S w:=⟨_,_,_,rfl,(p6 hd 7 : (qG (η 7) ((1 : Rat))).p S w),(p6 hd 8 : (qG (η 8) ((2 : Rat))).p S w),(p6 hd 9 : (qG (η 9) ((0 : Rat))).p S w)⟩; have hK : ∀ (x0 : Value) (S : Nat → Prop) (w : World),(I7 x0 (P4)).p S w → (.one (.ag 12 x0) : SV).Ok 0 ∧ (.one (.ag 12 x0) : SV).den (fun _=>0) = x0:=(fun _ _ _ h=>⟨h.ok,rfl⟩); ⟨(ap8 (η 7) (η 8) (η 9)),(by kernel_rfl),(hK _ S w hF).2.symm,(hK _ S w hF).1,hF⟩) ?_
 refine o9 (fun x0=>.one (.ag 9 x0)) (fun x0=>o8 x0 (P4)) (fun β η S w hS hs hw hG hd=>(kx (L7 hS (p6 hd 10 : (I7 (η 10) (P4)).p S w) dc0 (by decide)))) ?_
 refine h_1 (fun x0=>.tup [(true,[.ag 3 (M8 x0 0)]),(false,[.bb false]),(false,[.lit .i64 0])]) (fun x0=>dx5 x0 ((1 / 2 : Rat))) (fun η=>(by kernel_rfl)) (fun _ _ _ h=>dm0 h) (fun β η S w hS hs hw hG hd=>(kx ((a52 (ht.to hw) hS hG.2.2.2.2.2.1 hG.2.1 (p6 hd 6 : (o8 (η 6) (P3)).p S w) (p6 hd 11 : (o8 (η 11) (P4)).p S w) b12 ci4 c32 dc0 (by decide)).mono fun v' w' h=>⟨h.1,let ⟨x,e,hx⟩:=h.2; ⟨by rw [e,l7 dd0,b47]; rfl,by rw [e]; rw [ct2] at hx; exact hx⟩⟩))) ?_
 refine b7 7 ?_
 refine j3 [true,false,false,false,false,false,false,false,false,false,false] ((bv8 j (L1)).and (Gh.nil)) (by exact fun _ _ h=>⟨h.1,trivial⟩) (fun g η=>(dx5 (η 12) ((1 / 2 : Rat))).and g) (fun g η=>(by kernel_rfl)) ?_
 intro η_1
 refine B6 (.one (.str [49])) rfl (fun β S w hS hs hw hG=>(kx (gK (c78 (ht.to hw) hG.2.1.2.2.2.2 (s6 cn5.2.2 (by decide))) (congrArg F4 dl3)))) ?_
 refine bk1 (p:=([49] : List UInt8) = [49]) 68 ⟨b9,hS,j6⟩ (by kernel_rfl) (by kernel_rfl) (rfl) ?_
 refine B6 (.one (.str [49,47,50])) rfl (fun β S w hS hs hw hG=>(kx (gK (c78 (ht.to hw) hG.1.2 (s6 (N7 (by decide +kernel) (by decide +kernel)) (by decide))) (congrArg F4 cr7)))) ?_
 refine bk1 (p:=([49,47,50] : List UInt8) = [49,47,50]) 73 ⟨b9,hS,j6⟩ (by kernel_rfl) (by kernel_rfl) (rfl) ?_
 exact o6 (.bool true) rfl (fun S w hs hw hG=>⟨rfl,hw⟩)
end Go.Proofs.YtmjbiocildkhnaaGreatDoor
end
section
namespace Go.Proofs.YtmjbiocildkhnaaGreatDoor
open Go Tryz
structure M3 where
 a : T3
 b : T3
 c : T3
namespace T3
def smul (k : Rat) (p : T3) : T3:=⟨k * p.x,k * p.y,k * p.z⟩
theorem bk2 (k l : Rat) (p q : T3) : (p.smul k).cross (q.smul l) = (p.cross q).smul (k * l):=by
 ext <;> simp only [smul,cross] <;> grind
theorem b16 (k l : Rat) (p q : T3) : (p.smul k).dot (q.smul l) = k * l * p.dot q:=by
 simp only [smul,dot]; grind
theorem smul_none {k : Rat} (hk : k ≠ 0) {p : T3} : (p.smul k).None ↔ p.None:=by
 unfold None smul
 simp only [Rat.mul_eq_zero,hk,false_or]
theorem cp9 {k l m : Rat} (hk : k ≠ 0) (hl : l ≠ 0) (hm : m ≠ 0) {p q r : T3} : Flat (p.smul k) (q.smul l) (r.smul m) ↔ Flat p q r:=by
 unfold Flat
 rw [bk2,b16]
 constructor
 ·intro h
  rcases Rat.mul_eq_zero.1 h with h | h
  ·rcases Rat.mul_eq_zero.1 h with h | h
   ·rcases Rat.mul_eq_zero.1 h with h | h
    ·exact absurd h hk
    exact absurd h hl
   exact absurd h hm
  exact h
 intro h; rw [h,Rat.mul_zero]
def Like (p q : T3) : Prop:=∃ k,k ≠ 0 ∧ p = q.smul k
theorem smul_smul (k l : Rat) (p : T3) : (p.smul k).smul l = p.smul (l * k):=by
 ext <;> simp only [smul] <;> grind
theorem smul_one (p : T3) : p.smul 1 = p:=by
 ext <;> simp only [smul] <;> grind
theorem Like.rfl {p : T3} : Like p p:=⟨1,by decide,(smul_one p).symm⟩
theorem Like.trans {p q r : T3} (h : Like p q) (k : Like q r) : Like p r:=by
 obtain ⟨a,ha,rfl⟩:=h
 obtain ⟨b,hb,rfl⟩:=k
 refine ⟨a * b,?_,smul_smul _ _ _⟩
 intro h
 rcases Rat.mul_eq_zero.1 h with h | h
 ·exact ha h
 exact hb h
theorem Like.cross {p q p' q' : T3} (h : Like p p') (k : Like q q') : Like (p.cross q) (p'.cross q'):=by
 obtain ⟨a,ha,rfl⟩:=h
 obtain ⟨b,hb,rfl⟩:=k
 refine ⟨a * b,?_,bk2 _ _ _ _⟩
 intro h
 rcases Rat.mul_eq_zero.1 h with h | h
 ·exact ha h
 exact hb h
theorem Like.none {p p' : T3} (h : Like p p') : p.None ↔ p'.None:=by
 obtain ⟨a,ha,rfl⟩:=h
 exact smul_none ha
theorem Like.same {p q p' q' : T3} (h : Like p p') (k : Like q q') : Same p q ↔ Same p' q':=(h.cross k).none
theorem Like.flat {p q r p' q' r' : T3} (h : Like p p') (k : Like q q') (l : Like r r') : Flat p q r ↔ Flat p' q' r':=by
 obtain ⟨a,ha,rfl⟩:=h
 obtain ⟨b,hb,rfl⟩:=k
 obtain ⟨c,hc,rfl⟩:=l
 exact cp9 ha hb hc
theorem like_normal {p : T3} (h : ¬ p.None) : Like p.normal p:=by
 have hl:=lead_ne h
 refine ⟨1 / p.lead,by grind,?_⟩
 ext <;> simp only [smul,normal,over] <;> grind
end T3
namespace M3
def det (m : M3) : Rat:=m.a.dot (m.b.cross m.c)
def apply (m : M3) (p : T3) : T3:=⟨m.a.dot p,m.b.dot p,m.c.dot p⟩
def cof (m : M3) : M3:=⟨m.b.cross m.c,m.c.cross m.a,m.a.cross m.b⟩
theorem cross_apply (m : M3) (p q : T3) : (m.apply p).cross (m.apply q) = m.cof.apply (p.cross q):=by
 ext <;> simp only [apply,cof,T3.cross,T3.dot] <;> grind
theorem ck1 (m : M3) (p : T3) : m.cof.cof.apply p = (m.apply p).smul m.det:=by
 ext <;> simp only [apply,cof,det,T3.cross,T3.dot,T3.smul] <;> grind
theorem d95 (m : M3) (v : T3) : m.det * v.x = m.a.x * (m.cof.apply v).x + m.b.x * (m.cof.apply v).y + m.c.x * (m.cof.apply v).z ∧
  m.det * v.y = m.a.y * (m.cof.apply v).x + m.b.y * (m.cof.apply v).y + m.c.y * (m.cof.apply v).z ∧ m.det * v.z = m.a.z * (m.cof.apply v).x + m.b.z * (m.cof.apply v).y + m.c.z * (m.cof.apply v).z:=by
 refine ⟨?_,?_,?_⟩ <;> simp only [apply,cof,det,T3.cross,T3.dot] <;> grind
theorem cof_none {m : M3} (h : m.det ≠ 0) {v : T3} : (m.cof.apply v).None ↔ v.None:=by
 obtain ⟨h1,h2,h3⟩:=d95 m v
 constructor
 ·rintro ⟨e1,e2,e3⟩
  rw [e1,e2,e3] at h1 h2 h3
  have z : ∀ x : Rat,m.det * x = 0 → x = 0:=fun x hx=>(Rat.mul_eq_zero.1 hx).resolve_left h
  exact ⟨z _ (by rw [h1]; grind),z _ (by rw [h2]; grind),z _ (by rw [h3]; grind)⟩
 rintro ⟨e1,e2,e3⟩
 unfold T3.None apply T3.dot
 simp only [e1,e2,e3]
 refine ⟨?_,?_,?_⟩ <;> grind
theorem cn6 (m : M3) : m.cof.det = m.det * m.det:=by
 simp only [det,cof,T3.cross,T3.dot]; grind
theorem da9 {m : M3} (h : m.det ≠ 0) : m.cof.det ≠ 0:=by
 rw [cn6]
 intro e
 rcases Rat.mul_eq_zero.1 e with e | e <;> exact h e
theorem cofcof_like {m : M3} (h : m.det ≠ 0) (v : T3) : T3.Like (m.cof.cof.apply v) (m.apply v):=by
 rw [ck1]
 exact ⟨m.det,h,rfl⟩
theorem same_apply {m : M3} (h : m.det ≠ 0) {p q : T3} : T3.Same (m.apply p) (m.apply q) ↔ T3.Same p q:=by
 unfold T3.Same
 rw [cross_apply]
 exact cof_none h
theorem same_cof {m : M3} (h : m.det ≠ 0) {p q : T3} : T3.Same (m.cof.apply p) (m.cof.apply q) ↔ T3.Same p q:=same_apply (da9 h)
theorem apply_none {m : M3} (h : m.det ≠ 0) {v : T3} : (m.apply v).None ↔ v.None:=by
 have h1:=cof_none (da9 h) (v:=v)
 rw [ck1,T3.smul_none h] at h1
 exact h1
theorem flat_apply {m : M3} (h : m.det ≠ 0) {p q r : T3} : T3.Flat (m.apply p) (m.apply q) (m.apply r) ↔ T3.Flat p q r:=by
 unfold T3.Flat
 have e : ((m.apply p).cross (m.apply q)).dot (m.apply r) = m.det * (p.cross q).dot r:=by
  simp only [apply,det,T3.cross,T3.dot]; grind
 rw [e]
 constructor
 ·intro h1; exact (Rat.mul_eq_zero.1 h1).resolve_left h
 intro h1; rw [h1,Rat.mul_zero]
end M3
structure Six6 where
 p0 : T3
 p1 : T3
 p2 : T3
 p3 : T3
 p4 : T3
 p5 : T3
namespace Six6
def l0 (s : Six6) : T3:=s.p0.cross s.p1
def l1 (s : Six6) : T3:=s.p1.cross s.p2
def l2 (s : Six6) : T3:=s.p2.cross s.p3
def l3 (s : Six6) : T3:=s.p3.cross s.p4
def l4 (s : Six6) : T3:=s.p4.cross s.p5
def l5 (s : Six6) : T3:=s.p5.cross s.p0
def m0 (s : Six6) : T3:=s.l0.cross s.l3
def m1 (s : Six6) : T3:=s.l1.cross s.l4
def m2 (s : Six6) : T3:=s.l2.cross s.l5
structure Ok (s : Six6) : Prop where
 d01 : ¬ T3.Same s.p1 s.p0
 d02 : ¬ T3.Same s.p2 s.p0
 d03 : ¬ T3.Same s.p3 s.p0
 d04 : ¬ T3.Same s.p4 s.p0
 d05 : ¬ T3.Same s.p5 s.p0
 d12 : ¬ T3.Same s.p2 s.p1
 d13 : ¬ T3.Same s.p3 s.p1
 d14 : ¬ T3.Same s.p4 s.p1
 d15 : ¬ T3.Same s.p5 s.p1
 d23 : ¬ T3.Same s.p3 s.p2
 d24 : ¬ T3.Same s.p4 s.p2
 d25 : ¬ T3.Same s.p5 s.p2
 d34 : ¬ T3.Same s.p4 s.p3
 d35 : ¬ T3.Same s.p5 s.p3
 d45 : ¬ T3.Same s.p5 s.p4
 o0 : ¬ T3.Same s.l0 s.l3
 o1 : ¬ T3.Same s.l1 s.l4
 o2 : ¬ T3.Same s.l2 s.l5
 fl : T3.Flat s.m0 s.m1 s.m2
 ns : ¬ (T3.Same s.m0 s.m1 ∧ T3.Same s.m0 s.m2)
def map (m : M3) (s : Six6) : Six6:=⟨m.apply s.p0,m.apply s.p1,m.apply s.p2,m.apply s.p3,m.apply s.p4,m.apply s.p5⟩
theorem Ok.map {m : M3} (h : m.det ≠ 0) {s : Six6} (k : s.Ok) : (s.map m).Ok:=by
 have e0 : T3.Like (s.map m).m0 (m.apply s.m0):=by unfold m0 l0 l3 Six6.map; simp only [M3.cross_apply]; exact M3.cofcof_like h _
 have e1 : T3.Like (s.map m).m1 (m.apply s.m1):=by unfold m1 l1 l4 Six6.map; simp only [M3.cross_apply]; exact M3.cofcof_like h _
 have e2 : T3.Like (s.map m).m2 (m.apply s.m2):=by unfold m2 l2 l5 Six6.map; simp only [M3.cross_apply]; exact M3.cofcof_like h _
 refine ⟨?_,?_,?_,?_,?_,?_,?_,?_,?_,?_,?_,?_,?_,?_,?_,?_,?_,?_,?_,?_⟩
 ·exact fun e=>k.d01 ((M3.same_apply h).1 e)
 ·exact fun e=>k.d02 ((M3.same_apply h).1 e)
 ·exact fun e=>k.d03 ((M3.same_apply h).1 e)
 ·exact fun e=>k.d04 ((M3.same_apply h).1 e)
 ·exact fun e=>k.d05 ((M3.same_apply h).1 e)
 ·exact fun e=>k.d12 ((M3.same_apply h).1 e)
 ·exact fun e=>k.d13 ((M3.same_apply h).1 e)
 ·exact fun e=>k.d14 ((M3.same_apply h).1 e)
 ·exact fun e=>k.d15 ((M3.same_apply h).1 e)
 ·exact fun e=>k.d23 ((M3.same_apply h).1 e)
 ·exact fun e=>k.d24 ((M3.same_apply h).1 e)
 ·exact fun e=>k.d25 ((M3.same_apply h).1 e)
 ·exact fun e=>k.d34 ((M3.same_apply h).1 e)
 ·exact fun e=>k.d35 ((M3.same_apply h).1 e)
 ·exact fun e=>k.d45 ((M3.same_apply h).1 e)
 ·exact fun e=>k.o0 ((M3.same_cof h).1 (by unfold l0 l3 Six6.map at e; simp only [M3.cross_apply] at e; exact e))
 ·exact fun e=>k.o1 ((M3.same_cof h).1 (by unfold l1 l4 Six6.map at e; simp only [M3.cross_apply] at e; exact e))
 ·exact fun e=>k.o2 ((M3.same_cof h).1 (by unfold l2 l5 Six6.map at e; simp only [M3.cross_apply] at e; exact e))
 ·exact (e0.flat e1 e2).2 ((M3.flat_apply h).2 k.fl)
 exact fun e=>k.ns ⟨(M3.same_apply h).1 ((e0.same e1).1 e.1),(M3.same_apply h).1 ((e0.same e2).1 e.2)⟩
end Six6
namespace T3
theorem cross_dot1 (u v : T3) : u.dot (u.cross v) = 0:=by simp only [dot,cross]; grind
theorem cross_dot2 (u v : T3) : v.dot (u.cross v) = 0:=by simp only [dot,cross]; grind
theorem dot_comm (u v : T3) : u.dot v = v.dot u:=by simp only [dot]; grind
end T3
end Go.Proofs.YtmjbiocildkhnaaGreatDoor
end
section
namespace Go.Proofs.YtmjbiocildkhnaaGreatDoor
open Go Go.RowKit Tryz
section
variable {c : Cx} {st : St} {G : Gh} {all : List Oper} {K : List HRec → Prop} {acc : List HRec} {ops : List Oper}
def dj3 (c : Cx) (st : St) (acc : List HRec) (ops : List Oper) (η : Nat → Value) : Option (Value × Nat × Int × Nat):=match (opH ops).op with
 | .indexAddr T x ix=>match opd (frH st acc η) x,opd (frH st acc η) ix,D1 c.E T with
  | some (.one (.val v)),some (.one (.lit _ z)),.array n e=>(c.E.get e).map fun te=>(v,n,z,te.size)
  | _,_,_=>none
 | _=>none
theorem al8 (u : Value) (n : Nat) (i : Int) (sz : Nat) (hc : c.Ok) (hok : ∀ η,ar5 all st acc ops η = true) (hq : ∀ η,dj3 c st acc ops η = some (u,n,i,sz)) (h0 : 0 ≤ i) (h1 : i < n)
  (h : ∀ β η S w,Mem c.bs st.hp β w → Keeps c.K c.w0 w → G.p S w → depsH acc (opH ops).after.toList η S w → ∃ b k,u = .pointer (some ⟨b,k,none⟩))
  (k : Hd c st G all K (.spec ((opH ops).dst.getD 0) (fun x=>.one (.val x)) (fun x=>Q5 (x = A5 u (i.toNat * sz))) :: acc) (ops.drop 1)) : Hd c st G all K acc ops:=by
 refine a54 (fun x=>.one (.val x)) (fun x=>Q5 (x = A5 u (i.toNat * sz))) hok (fun β η S w F m ty hkn hup hM hS hw hG hd=>?_) k
 have hq:=hq η
 unfold dj3 at hq
 split at hq <;> first | (cases hq; done) | skip
 rename_i T x ix hop
 split at hq <;> first | (cases hq; done) | skip
 rename_i v kd z n' e hx hix hk
 cases hte : c.E.get e with
 | none=>rw [hte] at hq; cases hq
 | some te=>
  rw [hte] at hq
  simp only [Option.map_some,Option.some.injEq,Prod.mk.injEq] at hq
  obtain ⟨rfl,rfl,rfl,rfl⟩:=hq
  have hkd:=D8 (t:=T) hc.env
  rw [hk] at hkd
  have hkd' : c.P.underlying T = some (.array n' e):=hkd
  obtain ⟨zz,hty,_⟩:=(hc.env.get hte).ty
  obtain ⟨b,k',hu⟩:=h β η S w hM hw hG hd
  rw [hop] at hkn ⊢
  have g1 : ev F x = .pointer (some ⟨b,k',none⟩):=by rw [(hkn x (by simp [Op.operands]) _ hx).1]; exact hu
  have g2:=(hkn ix (by simp [Op.operands]) _ hix).1
  refine ⟨A5 v (z.toNat * te.size),?_,rfl,aw0 _ _,rfl⟩
  rw [hu]
  intro d pos aft g
  simp [execOp,g1,g2,SV.den,Ch.den,Instr.indexAt,asIntOf,run_underlying hkd',Instr.sureAddr,h0,h1,hty.runSize w,R4,A5]
end
theorem At.part {g : Bool} {s : Nat} {S : Nat → Prop} {w : World} {u : Value} {vs : List Value} (h : At S w u (A3 vs)) (hl : ∀ x ∈ vs,M2 g s x) {i : Nat} {x : Value} (hx : vs[i]? = some x) : At S w (A5 u (i * s)) x.cells.toList:=by
 obtain ⟨b,o,arr,T,fr,h1,h2,h3,h4,h5⟩:=h
 have hi:=(List.getElem?_eq_some_iff.1 hx).1
 have hx1:=(hl x (List.mem_of_getElem? hx)).1
 have hc:=R2 hl
 have h6:=am4 hl hx
 have hle : (i + 1) * s ≤ vs.length * s:=Nat.mul_le_mul_right _ hi
 rw [Nat.add_mul,Nat.one_mul] at hle
 refine ⟨b,o + i * s,arr,T,fr,by rw [h1]; rfl,h2,h3,by rw [hx1]; omega,?_⟩
 rw [hx1,← h6]
 show ((arr.toList.drop (o + i * s)).take s) = ((A3 vs).drop (i * s)).take s
 rw [← h5,hc,List.drop_take,List.drop_drop,List.take_take]
 congr 1
 omega
section
variable {S : Nat → Prop} {w : World} {u : Value} {s : Six6}
end
namespace Six6
end Six6
def ae3 (l : Nat) : Value:=.func (.yield l) #[] #[]
structure SeqA (P : Program) (l : Nat) (X : Nat → List Value → Gh) (n : Nat) (B : Nat → Prop) (W : World) (T0 : Nat → Prop) (J : (Nat → Prop) → (Nat → Prop) → Nat → Bool → World → Prop) : Prop where
 stab : ∀ T V k f W1 W2,J T V k f W1 → W1.heap.size ≤ W2.heap.size → (∀ b,T b ∨ V b → W2.heap[b]? = W1.heap[b]?) → Keeps (fun b=>¬ T0 b) W W2 → J T V k f W2
 fits : ∀ T V k f W1,J T V k f W1 → ∀ b,T b → b < W1.heap.size
 t0 : ∀ T V k f W1,J T V k f W1 → ∀ b,T0 b → T b
 yld : ∀ T V V' k x W1,k < n → J T V k true W1 → Keeps (fun b=>¬ T0 b) W W1 → (∀ b,V b → V' b) → (∀ b,V' b → ¬ T b ∧ b < W1.heap.size ∧ B b) → (X k x).p V' W1 → YieldAt Fence.wide 0 P l x.toArray W1 fun e W'=>
  ∃ f T',e = .returned (.bool f) ∧ J T' V' (k + 1) f W' ∧ Keeps (fun b=>¬ T b) W1 W' ∧ ∀ b,T' b → T b ∨ W1.heap.size ≤ b
def dt7 (P : Program) (gf : FuncId) (lb : List Value) (X : Nat → List Value → Gh) (n n0 : Nat) (S : Nat → Prop) (w : World) : Prop:=
 ∀ l W T0 J,Keeps S w W → (∀ b,b < w.heap.size → S b → ¬ T0 b) → SeqA P l X n (fun b=>(S b ∧ b < n0) ∨ n0 ≤ b) W T0 J → J T0 (fun _=>False) 0 true W →
  Gives P gf (ae3 l :: lb) W fun _ W'=>Keeps (fun b=>¬ T0 b) W W' ∧ ∃ T' V' k,(k = n ∧ J T' V' k true W') ∨ J T' V' k false W'
theorem SeqA.bound {P : Program} {l n : Nat} {X : Nat → List Value → Gh} {B B' : Nat → Prop} {W : World} {T0 : Nat → Prop} {J : (Nat → Prop) → (Nat → Prop) → Nat → Bool → World → Prop} (q : SeqA P l X n B W T0 J) (h : ∀ b,B' b → B b) : SeqA P l X n B' W T0 J:=
 ⟨q.stab,q.fits,q.t0,fun T V V' k x W1 hk hJ hkp h1 h2 h3=>q.yld T V V' k x W1 hk hJ hkp h1 (fun b hb=>⟨(h2 b hb).1,(h2 b hb).2.1,h b (h2 b hb).2.2⟩) h3⟩
abbrev dp3 (P : Program) (gf : FuncId) (lb : List Value) (X : Nat → List Value → Gh) (n n0 : Nat) : Gh:=⟨fun S w=>n0 ≤ w.heap.size ∧ dt7 P gf lb X n n0 S w,
 fun h k=>⟨Nat.le_trans h.1 k.size,fun l W T0 J h1 h2 h3 h4=>h.2 l W T0 J (k.trans h1) (fun b hb hs=>h2 b (Nat.lt_of_lt_of_le hb k.size) hs) h3 h4⟩,
 fun h hs=>⟨h.1,fun l W T0 J h1 h2 h3 h4=>h.2 l W T0 J ⟨h1.os,h1.tape,h1.output,h1.size,fun k hk hk2=>h1.block k hk (hs k hk hk2)⟩ (fun b hb hb2=>h2 b hb (hs b hb hb2)) (h3.bound fun b hb=>hb.imp (fun hb=>⟨hs b (Nat.lt_of_lt_of_le hb.2 h.1) hb.1,hb.2⟩) id) h4⟩⟩
theorem b89 {w w' : World} {b : Nat} (h : b < w.heap.size) (e : w'.heap[b]? = w.heap[b]?) : b < w'.heap.size:=by
 rw [Array.getElem?_eq_getElem h] at e
 exact (Array.getElem?_eq_some_iff.1 e).1
def ao3 (W : World) (T0 : Nat → Prop) (J : (Nat → Prop) → (Nat → Prop) → Nat → Bool → World → Prop) (T V : Nat → Prop) (C : Nat → Option Obj) (k : Nat) (f : Bool) : AbsE where
 Q:=T
 R:=fun w=>(∀ b,T b → b < w.heap.size) ∧ (∀ b,T0 b → T b) ∧ ∀ w2,w.heap.size ≤ w2.heap.size → (∀ b,T b → w2.heap[b]? = w.heap[b]?) → (∀ b,V b → w2.heap[b]? = C b) → Keeps (fun b=>¬ T0 b) W w2 → J T V k f w2
 frame:=fun w w' ⟨h1,h0,h2⟩ hz hs=>⟨fun b hb=>b89 (h1 b hb) (hs b hb),h0,fun w2 h0 h3 h4=>h2 w2 (Nat.le_trans hz h0) (fun b hb=>(h3 b hb).trans (hs b hb)) h4⟩
theorem SeqA.entry {P : Program} {l n : Nat} {X : Nat → List Value → Gh} {B : Nat → Prop} {W : World} {T0 : Nat → Prop} {J : (Nat → Prop) → (Nat → Prop) → Nat → Bool → World → Prop} (q : SeqA P l X n B W T0 J) {T V : Nat → Prop} {C : Nat → Option Obj} {k : Nat} {f : Bool} {w : World} (h : J T V k f w) (hC : ∀ b,V b → w.heap[b]? = C b) : (ao3 W T0 J T V C k f).R w:=
 ⟨q.fits T V k f w h,q.t0 T V k f w h,fun w2 h0 h1 h2 h3=>q.stab T V k f w w2 h h0 (fun b hb=>hb.elim (h1 b) fun hv=>(h2 b hv).trans (hC b hv).symm) h3⟩
abbrev b88 (V : Nat → Prop) (C : Nat → Option Obj) : Gh:=⟨fun S w=>∀ b,V b → S b ∧ b < w.heap.size ∧ w.heap[b]? = C b,
 fun h k b hb=>⟨(h b hb).1,Nat.lt_of_lt_of_le (h b hb).2.1 k.size,(k.block b (h b hb).2.1 (h b hb).1).trans (h b hb).2.2⟩,fun h hs b hb=>⟨hs b (h b hb).2.1 (h b hb).1,(h b hb).2⟩⟩
def bd7 (st : St) : Cur → Option (Value × List SV × Nat)
 | .ops _ (o1 :: _)=>match o1.guard,o1.dst,o1.op with
  | none,some d,.call cl=>match cl.callee with
   | .value x=>match opd st.fr x with
    | some (.one (.val v))=>match a09 (cl.args.toList.map (opd st.fr)) with
     | some l=>some (v,l,d)
     | none=>none
    | _=>none
   | _=>none
  | _,_,_=>none
 | _=>none
def dv4 (o : Out) : Option Value:=(bd7 o.st o.cur).map (·.1)
def cm8 (o : Out) : List SV:=match bd7 o.st o.cur with | some (_,l,_)=>l | none=>[]
def bd0 (o : Out) (f : Bool) (b : Nat) (A : AbsE) : Out:=match H5 o (.one (.bb f)) with | ⟨cur,k,⟨fr,hp⟩,_⟩=>⟨cur,k,⟨fr,Y1 hp b (.abs A)⟩,[]⟩
section
variable {c : Cx} {o : Out} {G : Gh}
theorem cs5 [Rd] {l : Nat} {β : Nat → Nat} {ρ : Fr} {w : World} (hf : dv4 o = some (ae3 l)) (hS : Sat c.bs o.st β ρ w) :
  ∃ all o1 r d,o.cur = .ops all (o1 :: r) ∧ o1.guard = none ∧ o1.dst = some d ∧ (∀ s,H5 o s = ⟨.ops all r,o.k,⟨(d,s) :: o.st.fr,o.st.hp⟩,[]⟩) ∧
   (execOp (ev ρ) o1).run c.P w = (Instr.yield l ((cm8 o).map (SV.den β)).toArray).run c.P w:=by
 unfold dv4 at hf
 cases hco : bd7 o.st o.cur with
 | none=>rw [hco] at hf; cases hf
 | some x=>
  obtain ⟨g,l',d⟩:=x
  rw [hco] at hf
  simp only [Option.map_some,Option.some.injEq] at hf
  subst hf
  have hargs : cm8 o = l':=by unfold cm8; rw [hco]
  unfold bd7 at hco
  split at hco <;> first | (cases hco; done) | skip
  rename_i all o1 r hcur
  split at hco <;> first | (cases hco; done) | skip
  rename_i d' cl hg hd hop
  split at hco <;> first | (cases hco; done) | skip
  rename_i x hcl
  split at hco <;> first | (cases hco; done) | skip
  rename_i v hx
  split at hco <;> first | (cases hco; done) | skip
  rename_i l2 hl
  simp only [Option.some.injEq,Prod.mk.injEq] at hco
  obtain ⟨rfl,rfl,rfl⟩:=hco
  refine ⟨all,o1,r,d',hcur,hg,hd,fun s=>by unfold H5; rw [hcur]; simp only [hd,Option.getD_some],?_⟩
  have h1:=(ad8 (ρ:=ρ) (fun t _=>hS.fr t) _ hx).1
  have h2:=bx6 hS.fr hl
  rw [hargs,← h2]
  obtain ⟨dst,op,ty,pos,aft,g⟩:=o1
  simp only at hop hg hd
  subst hop
  obtain ⟨callee,args,ts⟩:=cl
  simp only at hcl
  subst hcl
  have e : (List.map (ev ρ) args.toList).toArray = Array.map (ev ρ) args:=by rw [← Array.toList_map,Array.toArray_toList]
  show _ = (Instr.yield l (List.map (ev ρ) args.toList).toArray).run c.P w
  rw [e]
  simp [execOp,resolve,Deferred.ofValue,h1,SV.den,Ch.den,ae3,invoke]
theorem ac4 [Rd] {l n : Nat} {X : Nat → List Value → Gh} {B : Nat → Prop} {W : World} {T0 : Nat → Prop} {J : (Nat → Prop) → (Nat → Prop) → Nat → Bool → World → Prop} (q : SeqA c.P l X n B W T0 J) (b : Nat) (T V : Nat → Prop) (C : Nat → Option Obj) (k : Nat) (x : List Value) (hc : c.Ok) (hw0 : c.w0 = W) (hK : c.K = fun b=>¬ T0 b) (hB : ∀ b,c.S0 b → T0 b ∨ B b)
  (hx : k < n) (hb : nth o.st.hp b = some (.abs (ao3 W T0 J T V C k true))) (hf : dv4 o = some (ae3 l)) (ha : ∀ β S w,Keeps c.K c.w0 w → G.p S w → (cm8 o).map (SV.den β) = x ∧ (X k x).p S w ∧ (b88 V C).p S w)
  (h1 : ∀ T' V' C',Run c (bd0 o true b (ao3 W T0 J T' V' C' (k + 1) true)) ((b88 V' C').and G)) (h2 : ∀ T' V' C',Run c (bd0 o false b (ao3 W T0 J T' V' C' (k + 1) false)) ((b88 V' C').and G)) : Run c o G:=by
 refine ⟨fun β ρ w hS hw hG=>?_⟩
 rw [M5] at hb
 obtain ⟨all,o1,r,d,hcur,hg,hd,hnx,hr⟩:=cs5 hf hS
 have hbl:=(List.getElem?_eq_some_iff.1 hb).1
 have hmb : ∀ g,m9 β o.st.hp b g ↔ T g:=fun g=>P8 hb
 have hkw : Keeps (fun b=>¬ T0 b) W w:=by have:=hw; rw [hK,hw0] at this; exact this
 obtain ⟨f1,f0,f2⟩:=hS.mem.abs b _ hb
 obtain ⟨a1,a2,a3⟩:=ha β _ w hw hG
 have hJ : J T V k true w:=f2 w (Nat.le_refl _) (fun _ _=>rfl) (fun b hb=>(a3 b hb).2.2) hkw
 let V' : Nat → Prop:=fun g=>Sof c.S0 β o.st.hp g ∧ g < w.heap.size
 have hVT : ∀ g,V' g → ¬ T g:=fun g hg ht=>hg.1.2 b ((hmb g).2 ht)
 obtain ⟨fn,tmps,assign,body,hy,hR⟩:=q.yld T V V' k x w hx hJ hkw (fun g hg=>⟨(a3 g hg).1,(a3 g hg).2.1⟩) (fun g hg=>⟨hVT g hg,hg.2,(hB g hg.1.1).resolve_left fun h0=>hVT g hg (f0 g h0)⟩) ((X k x).mono a2 fun g hg hs=>⟨hs,hg⟩)
 rw [a1] at hr
 rw [hcur]
 show WqR c.P c.n all (kQ c.P c.n c.Q o.k) (o1 :: r) ρ w
 refine cz2 hg hd (hr.trans hy) hR fun e w' he=>?_
 obtain ⟨f,T',rfl,hJ',hkp,hT⟩:=he
 refine ⟨_,rfl,?_⟩
 let C' : Nat → Option Obj:=fun g=>w.heap[g]?
 have hC' : ∀ g,V' g → w'.heap[g]? = C' g:=fun g hg=>hkp.block g hg.2 (hVT g hg)
 have hlen : (o.st.hp.set b (.abs (ao3 W T0 J T' V' C' (k + 1) f))).length = o.st.hp.length:=by simp
 have hget : ∀ i y,(o.st.hp.set b (.abs (ao3 W T0 J T' V' C' (k + 1) f)))[i]? = some y → (i = b ∧ y = .abs (ao3 W T0 J T' V' C' (k + 1) f)) ∨ (b ≠ i ∧ o.st.hp[i]? = some y):=by
  intro i y hy
  by_cases e : b = i
  ·subst e
   rw [List.getElem?_set_self hbl] at hy
   exact .inl ⟨rfl,(Option.some.inj hy).symm⟩
  rw [List.getElem?_set_ne e] at hy
  exact .inr ⟨e,hy⟩
 have hother : ∀ i g,b ≠ i → m9 β o.st.hp i g → ¬ T g:=fun i g hne hm ht=>hne (hS.mem.apart b i g ((hmb g).2 ht) hm)
 have hmine : ∀ i g,m9 β (o.st.hp.set b (.abs (ao3 W T0 J T' V' C' (k + 1) f))) i g → (i = b ∧ T' g) ∨ (b ≠ i ∧ m9 β o.st.hp i g):=by
  rintro i g ⟨y,hy,hm⟩
  rcases hget i y hy with ⟨rfl,rfl⟩ | ⟨h3,h4⟩
  ·exact .inl ⟨rfl,hm⟩
  exact .inr ⟨h3,y,h4,hm⟩
 have hlow : ∀ i g,m9 β o.st.hp i g → g < w.heap.size:=fun i g hm=>(hS.mem.low i g hm).2
 have hSat : ∀ s : SV,s.Ok o.st.hp.length → Sat c.bs ⟨(d,s) :: o.st.fr,o.st.hp.set b (.abs (ao3 W T0 J T' V' C' (k + 1) f))⟩ β (upd ρ d (s.den β)) w':=by
  intro s hs
  refine ⟨fun i s' hs'=>?_,⟨fun i T2 l2 hi=>?_,fun i T2 s2 v n cs hi=>?_,fun i A hi=>?_,fun i g hi=>?_,fun i j g hi hj=>?_⟩,by rw [hlen]; exact hS.agr.1,hS.agr.2⟩
  ·show _ ∧ s'.Ok (o.st.hp.set b (.abs (ao3 W T0 J T' V' C' (k + 1) f))).length
   rw [hlen]
   exact ((hS.put (d:=d) (s:=s) (v:=s.den β) rfl hs).fr i) s' hs'
  ·rcases hget i _ hi with ⟨_,e⟩ | ⟨hne,e⟩
   ·cases e
   show _ ∧ ∀ c ∈ l2,c.Ok (o.st.hp.set b (.abs (ao3 W T0 J T' V' C' (k + 1) f))).length
   rw [hlen]
   exact ⟨(hS.mem.blk i T2 l2 e).1.keep hkp (hother i _ hne ⟨_,e,rfl⟩),(hS.mem.blk i T2 l2 e).2⟩
  ·rcases hget i _ hi with ⟨_,e⟩ | ⟨hne,e⟩
   ·cases e
   exact aa8 (hS.mem.row i T2 s2 v n cs e) hkp fun g hg=>hother i g hne ⟨_,e,hg⟩
  ·rcases hget i _ hi with ⟨_,e⟩ | ⟨hne,e⟩
   ·cases e
    exact q.entry hJ' hC'
   exact A.keep (hS.mem.abs i A e) (fun k' hk=>hlow i k' ⟨_,e,hk⟩) hkp fun g hg=>hother i g hne ⟨_,e,hg⟩
  ·rcases hmine i g hi with ⟨rfl,ht⟩ | ⟨hne,hm⟩
   ·refine ⟨?_,q.fits _ _ _ _ _ hJ' g ht⟩
    rcases hT g ht with h3 | h3
    ·exact (hS.mem.low i g ((hmb g).2 h3)).1
    have:=hw.size
    exact .inl (Nat.le_trans this h3)
   exact ⟨(hS.mem.low i g hm).1,Nat.lt_of_lt_of_le (hlow i g hm) hkp.size⟩
  rcases hmine i g hi with ⟨rfl,ht⟩ | ⟨hne,hm⟩ <;> rcases hmine j g hj with ⟨e2,ht2⟩ | ⟨hne2,hm2⟩
  ·exact e2.symm
  ·rcases hT g ht with h3 | h3
   ·exact hS.mem.apart i j g ((hmb g).2 h3) hm2
   ·have:=hlow j g hm2
    omega
  ·subst e2
   rcases hT g ht2 with h3 | h3
   ·exact hS.mem.apart i j g hm ((hmb g).2 h3)
   ·have:=hlow i g hm
    omega
  exact hS.mem.apart i j g hm hm2
 have hw' : Keeps c.K c.w0 w':=Mem.grow hS.mem hw hkp b fun i hi=>(hmb i).2 (Classical.not_not.1 hi)
 have hsof : ∀ g,V' g → Sof c.S0 β (o.st.hp.set b (.abs (ao3 W T0 J T' V' C' (k + 1) f))) g:=fun g hs=>⟨hs.1.1,fun i hi=>by
  rcases hmine i g hi with ⟨rfl,ht⟩ | ⟨_,hm⟩
  ·rcases hT g ht with h3 | h3
   ·exact hs.1.2 i ((hmb g).2 h3)
   ·have:=hs.2
    omega
  exact hs.1.2 i hm⟩
 have hG' : ((b88 V' C').and G).p (Sof c.S0 β (o.st.hp.set b (.abs (ao3 W T0 J T' V' C' (k + 1) f)))) w':=by
  have g1 : G.p V' w:=G.mono hG fun g hg hs=>⟨hs,hg⟩
  have g2:=G.keep g1 (hkp.mono fun g hg=>hVT g hg)
  exact ⟨fun g hg=>⟨hsof g hg,Nat.lt_of_lt_of_le hg.2 hkp.size,hC' g hg⟩,G.mono g2 fun g _ hs=>hsof g hs⟩
 cases f with
 | true=>
  have h3:=(h1 T' V' C').run
  unfold bd0 at h3
  rw [hnx] at h3
  simp only [M4] at h3
  exact h3 β _ w' (hSat (.one (.bb true)) trivial) hw' hG'
 | false=>
  have h3:=(h2 T' V' C').run
  unfold bd0 at h3
  rw [hnx] at h3
  simp only [M4] at h3
  exact h3 β _ w' (hSat (.one (.bb false)) trivial) hw' hG'
end
theorem dr9 {P : Program} {E : Env} {S : Nat → Prop} {f : FuncId} {fn : Func} {code : Code} {ls : List SV} {lb : List Value} {X : Nat → List Value → Gh} {n n0 : Nat} {w : World} {G : Gh} (hn0 : n0 ≤ w.heap.size) (hf : P.funcs[f]? = some fn) (hb : fn.body = some code) (hok : bb6 fn code = true)
  (hn : Nat.ble (lb.length + 1) fn.ntmps = true) (hl : SVsOk ls) (ha : ls.map (SV.den fun _=>0) = lb) (hG : G.p S w)
  (h : ∀ l W T0 J (S0 : Nat → Prop),Up S0 W → (∀ k,¬ ¬ T0 k → S0 k) → SeqA P l X n (fun b=>(S b ∧ b < n0) ∨ n0 ≤ b) W T0 J → (∀ b,S0 b → T0 b ∨ ((S b ∧ b < n0) ∨ n0 ≤ b)) →
   Run (Cx.fnK P fn E W S0 (fun b=>¬ T0 b) fun _ W'=>Keeps (fun b=>¬ T0 b) W W' ∧ ∃ T' V' k,(k = n ∧ J T' V' k true W') ∨ J T' V' k false W') ⟨.code code,[],⟨bl3 0 (.one (.val (ae3 l)) :: ls),[.abs (ao3 W T0 J T0 (fun _=>False) (fun _=>none) 0 true)]⟩,[]⟩ G) : dt7 P f lb X n n0 S w:=by
 intro l W T0 J hW hT0 q hJ
 have hmine : ∀ i g,m9 (fun _=>0) [HE.abs (ao3 W T0 J T0 (fun _=>False) (fun _=>none) 0 true)] i g → i = 0 ∧ T0 g:=by
  rintro i g ⟨y,hy,hm⟩
  cases i with
  | zero=>
   simp only [List.getElem?_cons_zero,Option.some.injEq] at hy
   subst hy
   exact ⟨rfl,hm⟩
  | succ i=>simp at hy
 refine b69 (S0:=fun k=>(S k ∧ k < w.heap.size) ∨ w.heap.size ≤ k ∨ T0 k) (K:=fun b=>¬ T0 b) (hp:=[.abs (ao3 W T0 J T0 (fun _=>False) (fun _=>none) 0 true)]) (β:=fun _=>0) (l:=.one (.val (ae3 l)) :: ls) hf hb hok (by simpa using hn) ⟨rfl,?_⟩ (by rw [List.map_cons,ha]; rfl) ?_ ?_
  (h l W T0 J _ (fun k hk=>.inr (.inl (Nat.le_trans hW.size hk))) (fun k hk=>.inr (.inr (Classical.not_not.1 hk))) q (fun b hb=>?_))
 ·have aux : ∀ {r : List SV},SVsOk r → SVsOkM 1 r:=by
   intro r
   induction r with
   | nil=>intro _; trivial
   | cons s r ih=>intro h; exact ⟨h.1.le (Nat.zero_le _),ih h.2⟩
  exact aux hl
 ·refine ⟨fun i T l hi=>?_,fun i T s v n cs hi=>?_,fun i A hi=>?_,fun i g hi=>?_,fun i j g hi hj=>?_⟩
  ·cases i <;> simp at hi
  ·cases i <;> simp at hi
  ·cases i with
   | zero=>
    simp only [List.getElem?_cons_zero,Option.some.injEq,HE.abs.injEq] at hi
    subst hi
    exact q.entry hJ fun _ hb=>hb.elim
   | succ i=>simp at hi
  ·obtain ⟨rfl,h1⟩:=hmine i g hi
   exact ⟨.inr fun h2=>h2 h1,q.fits _ _ _ _ _ hJ g h1⟩
  rw [(hmine i g hi).1,(hmine j g hj).1]
 ·have g1 : G.p (fun k=>S k ∧ k < w.heap.size) w:=G.mono hG fun k hk hs=>⟨hs,hk⟩
  have g2:=G.keep g1 (hW.mono fun k hk=>hk.1)
  exact G.mono g2 fun k _ hk=>⟨.inl hk,fun i hi=>hT0 k hk.2 hk.1 (hmine i k hi).2⟩
 rcases hb with ⟨h1,h2⟩ | h1 | h1
 ·rcases Nat.lt_or_ge b n0 with h3 | h3
  ·exact .inr (.inl ⟨h1,h3⟩)
  exact .inr (.inr h3)
 ·exact .inr (.inr (Nat.le_trans hn0 h1))
 exact .inl h1
theorem Z3 {W w : World} {T0 T V : Nat → Prop} {C : Nat → Option Obj} {J : (Nat → Prop) → (Nat → Prop) → Nat → Bool → World → Prop} {k b : Nat} {f : Bool} {base : Bs} {hp : List HE} {β : Nat → Nat} {n : Nat} {S : Nat → Prop} (hM : Mem base hp β w) (hb : nth hp b = some (.abs (ao3 W T0 J T V C k f))) (hz : (b88 V C).p S w) (hw : Keeps (fun b=>¬ T0 b) W w) (hk : f = true → k = n) :
  Keeps (fun b=>¬ T0 b) W w ∧ ∃ T' V' k,(k = n ∧ J T' V' k true w) ∨ J T' V' k false w:=by
 rw [M5] at hb
 have h:=(hM.abs b _ hb).2.2 w (Nat.le_refl _) (fun _ _=>rfl) (fun b hb=>(hz b hb).2.2) hw
 refine ⟨hw,T,V,k,?_⟩
 cases f with
 | true=>exact .inl ⟨hk rfl,h⟩
 | false=>exact .inr h
theorem c11 [Rd] {P : Program} {n : Nat} {x : Code} {Q : F1} {ρ : Fr} {w : World} (h : G0 n x = true → ∀ D a,MtI n D a ρ → x.wpIn RF 0 P (av2 n D Q) a w) : WqC P n x Q ρ w:=by unfold WqC; exact h
theorem ck8 [Rd] {P : Program} {n : Nat} {x : Code} {Q : F1} {ρ : Fr} {w : World} (h : WqC P n x Q ρ w) : G0 n x = true → ∀ D a,MtI n D a ρ → x.wpIn RF 0 P (av2 n D Q) a w:=by unfold WqC at h; exact h
theorem Mem.keepS {base : Bs} {hp : List HE} {β : Nat → Nat} {w w' : World} {S : Nat → Prop} (h : Mem base hp β w) (k : Keeps S w w') (hs : ∀ i b,m9 β hp i b → S b) : Mem base hp β w':=
 ⟨fun i T l hi=>⟨(h.blk i T l hi).1.keep k (hs i _ ⟨_,hi,rfl⟩),(h.blk i T l hi).2⟩,fun i T s v n cs hi=>aa8 (h.row i T s v n cs hi) k fun g hg=>hs i g ⟨_,hi,hg⟩,
  fun i A hi=>A.keep (h.abs i A hi) (fun k' hk=>(h.low i k' ⟨_,hi,hk⟩).2) k fun g hg=>hs i g ⟨_,hi,hg⟩,
  fun i k' hk=>⟨(h.low i k' hk).1,Nat.lt_of_lt_of_le (h.low i k' hk).2 k.size⟩,h.apart⟩
theorem Mem.rebase {base base' : Bs} {hp : List HE} {β : Nat → Nat} {w : World} (h : Mem base hp β w) (hl : ∀ i k,m9 β hp i k → base'.n ≤ k ∨ ¬ base'.K k) : Mem base' hp β w:=
 ⟨h.blk,h.row,h.abs,fun i k hk=>⟨hl i k hk,(h.low i k hk).2⟩,h.apart⟩
theorem at0 {β : Nat → Nat} {hp : List HE} {e : HE} {i k : Nat} (h : m9 β (hp ++ [e]) i k) : m9 β hp i k ∨ (i = hp.length ∧ e.mine (β i) k):=by
 obtain ⟨y,hy,hm⟩:=h
 rcases Nat.lt_or_ge i hp.length with hi | hi
 ·rw [List.getElem?_append_left hi] at hy
  exact .inl ⟨y,hy,hm⟩
 rw [List.getElem?_append_right hi] at hy
 have : i - hp.length = 0:=by
  cases h0 : i - hp.length with
  | zero=>rfl
  | succ n=>rw [h0] at hy; simp at hy
 rw [this] at hy
 simp only [List.getElem?_cons_zero,Option.some.injEq] at hy
 subst hy
 exact .inr ⟨by omega,hm⟩
theorem Mem.snoc {base : Bs} {hp : List HE} {β : Nat → Nat} {w : World} {A : AbsE} (h : Mem base hp β w) (hA : A.R w) (hl : ∀ k,A.Q k → (base.n ≤ k ∨ ¬ base.K k) ∧ k < w.heap.size) (ho : ∀ i k,m9 β hp i k → ¬ A.Q k) : Mem base (hp ++ [.abs A]) β w:=by
 have get : ∀ {i : Nat} {e : HE},(hp ++ [.abs A])[i]? = some e → hp[i]? = some e ∨ (i = hp.length ∧ e = .abs A):=by
  intro i e hi
  rcases Nat.lt_or_ge i hp.length with h1 | h1
  ·rw [List.getElem?_append_left h1] at hi
   exact .inl hi
  rw [List.getElem?_append_right h1] at hi
  have : i - hp.length = 0:=by
   cases h0 : i - hp.length with
   | zero=>rfl
   | succ n=>rw [h0] at hi; simp at hi
  rw [this] at hi
  simp only [List.getElem?_cons_zero,Option.some.injEq] at hi
  exact .inr ⟨by omega,hi.symm⟩
 refine ⟨fun i T l hi=>?_,fun i T s v n cs hi=>?_,fun i B hi=>?_,fun i k hk=>?_,fun i j k hi hj=>?_⟩
 ·rcases get hi with h1 | ⟨_,h1⟩
  ·exact ⟨(h.blk i T l h1).1,fun c hc=>((h.blk i T l h1).2 c hc).le (by simp)⟩
  cases h1
 ·rcases get hi with h1 | ⟨_,h1⟩
  ·exact h.row i T s v n cs h1
  cases h1
 ·rcases get hi with h1 | ⟨_,h1⟩
  ·exact h.abs i B h1
  cases h1; exact hA
 ·rcases at0 hk with h1 | ⟨_,h1⟩
  ·exact h.low i k h1
  exact hl k h1
 rcases at0 hi with h1 | ⟨h0,h1⟩ <;> rcases at0 hj with h2 | ⟨h3,h2⟩
 ·exact h.apart i j k h1 h2
 ·exact absurd h2 (ho i k h1)
 ·exact absurd h1 (ho j k h2)
 rw [h0,h3]
def dfE (D : Nat) : AbsE where
 Q:=fun k=>k = D
 R:=fun w=>w.heap[D]? = some (.deferred (some []))
 frame:=fun w w' h _ hs=>(hs D rfl).trans h
def c46 (D : Nat) : Value:=.pointer (some ⟨D,0,none⟩)
def mkS : List Nat → SV
 | []=>.und
 | D :: ms=>.tup ((D :: ms).map fun D=>(false,[.val (c46 D)]))
def mkD (D : Nat) : Deferred:={ target:=.collected D,args:=#[] }
theorem dy1 {m : Nat} (ms : List Nat) : (mkS ms).Ok m:=by
 cases ms with
 | nil=>trivial
 | cons D ms=>
  intro p hp
  obtain ⟨D',_,rfl⟩:=List.mem_map.1 hp
  intro c hc
  simp only [List.mem_singleton] at hc
  subst hc
  rfl
theorem a38 (β : Nat → Nat) (ms : List Nat) : bk8 ((mkS ms).den β) = ms.map mkD:=by
 have key : ∀ l : List Nat,(l.map c46).flatMap c63 = l.map mkD:=by
  intro l
  induction l with
  | nil=>rfl
  | cons D l ih=>rw [List.map_cons,List.flatMap_cons,ih]; rfl
 cases ms with
 | nil=>rfl
 | cons D ms=>
  have e : (mkS (D :: ms)).den β = .tuple ((D :: ms).map c46).toArray:=by
   show Value.tuple (((D :: ms).map fun D=>(false,[Ch.val (c46 D)])).map (ar6 β)).toArray = _
   rw [List.map_map]
   rfl
  rw [e]
  show (((D :: ms).map c46).toArray.toList).flatMap c63 = _
  rw [List.toList_toArray]
  exact key _
def am9 (ps : List Nat) (ls : List SV) (fr : List (Nat × SV)) : List (Nat × SV):=(ps.zip ls).foldl (fun fr p=>p :: fr) fr
def b20 (ps : List Nat) (vs : List Value) (ρ : Fr) : Fr:=(ps.zip vs).foldl (fun ρ p=>upd ρ p.1 p.2) ρ
theorem c77 {β : Nat → Nat} {m : Nat} : ∀ {ps : List Nat} {ls : List SV} {fr : List (Nat × SV)} {ρ : Fr},(∀ d,Kn β m (J3 fr d) (ρ d)) → (∀ s ∈ ls,s.Ok m) → ∀ d,Kn β m (J3 (am9 ps ls fr) d) (b20 ps (ls.map (SV.den β)) ρ d):=by
 intro ps
 induction ps with
 | nil=>intro ls fr ρ h _; simpa [am9,b20] using h
 | cons p ps ih=>
  intro ls fr ρ h hl
  cases ls with
  | nil=>simpa [am9,b20] using h
  | cons s ls=>
   have h2:=ih (ls:=ls) (fr:=(p,s) :: fr) (ρ:=upd ρ p (s.den β)) (fun d s' hs=>?_) (fun s' hs=>hl s' (List.mem_cons_of_mem _ hs))
   ·simpa [am9,b20] using h2
   rw [G8] at hs
   rw [ad7]
   split at hs
   ·rename_i e
    simp only [Option.some.injEq] at hs
    subst hs
    rw [if_pos e]
    exact ⟨rfl,hl s (List.mem_cons_self ..)⟩
   rename_i e
   rw [if_neg e]
   exact h d s' hs
theorem dk8 [Rd] {n : Nat} {D : List Deferred} : ∀ {ps : List Nat} {vs : List Value} {a : Act} {ρ : Fr},MtI n D a ρ → ps.all (fun d=>Nat.blt d n) = true → MtI n D { tmps:=(ps.zip vs).foldl (fun t p=>t.setIfInBounds p.1 p.2) a.tmps,defers:=a.defers } (b20 ps vs ρ):=by
 intro ps
 induction ps with
 | nil=>intro vs a ρ h _; simpa [b20] using h
 | cons p ps ih=>
  intro vs a ρ h hp
  simp only [List.all_cons,Bool.and_eq_true] at hp
  cases vs with
  | nil=>simpa [b20] using h
  | cons v vs=>exact ih (vs:=vs) (a:=a.put (some p) v) (ρ:=upd ρ p v) (h.put hp.1 v) hp.2
section
variable {ι : Type}
def d88 (c : Cx) (hpI : ι → List HE) (GI : ι → Gh) (pN : ι → Prop) (pX : Exit → ι → Prop) : F1:=fun e ρ w=>match e with
 | .normal=>∃ j,pN j ∧ RelI c (fun j=>⟨[],hpI j⟩) GI j ρ w
 | .exit id=>∃ j,pX (.exit id) j ∧ RelI c (fun j=>⟨[],hpI j⟩) GI j ρ w
 | .ret=>∃ j,pX .ret j ∧ RelI c (fun j=>⟨[],hpI j⟩) GI j ρ w
 | _=>False
abbrev Cx.rnd (c : Cx) (hpI : ι → List HE) (GI : ι → Gh) (pN : ι → Prop) (pX : Exit → ι → Prop) : Cx:=⟨c.P,c.n,c.E,c.w0,c.S0,c.K,d88 c hpI GI pN pX,c.m,c.b⟩
def d51 (o : Out) : Exit:=match o.cur with | .ex e=>e | _=>.normal
def c50 (o : Out) : Bool:=match o.cur,o.k with | .ex (.exit _),[]=>true | .ex .ret,[]=>true | _,_=>false
theorem ab4 [Rd] {c : Cx} {o : Out} {G : Gh} {hpI : ι → List HE} {GI : ι → Gh} {pN : ι → Prop} {pX : Exit → ι → Prop} (j : ι) (he : an5 o = true) (hp : pN j) (hsub : bn0 o.st ⟨[],hpI j⟩) (hok : ∀ S w,Keeps c.K c.w0 w → G.p S w → an2 ⟨[],hpI j⟩) (hg : ∀ S w,Keeps c.K c.w0 w → G.p S w → (GI j).p S w) :
  Run (c.rnd hpI GI pN pX) o G:=by
 refine ⟨fun β ρ w hS hw hG=>?_⟩
 obtain ⟨h1,h2⟩:=a45 he
 rw [h1,h2]
 exact ⟨j,hp,bf2 (c:=c) (st':=fun j=>⟨[],hpI j⟩) j hS hw hG hsub hok hg⟩
theorem ds3 [Rd] {c : Cx} {o : Out} {G : Gh} {hpI : ι → List HE} {GI : ι → Gh} {pN : ι → Prop} {pX : Exit → ι → Prop} (j : ι) (he : c50 o = true) (hp : pX (d51 o) j) (hsub : bn0 o.st ⟨[],hpI j⟩) (hok : ∀ S w,Keeps c.K c.w0 w → G.p S w → an2 ⟨[],hpI j⟩) (hg : ∀ S w,Keeps c.K c.w0 w → G.p S w → (GI j).p S w) :
  Run (c.rnd hpI GI pN pX) o G:=by
 refine ⟨fun β ρ w hS hw hG=>?_⟩
 have hr:=bf2 (c:=c) (st':=fun j=>⟨[],hpI j⟩) j hS hw hG hsub hok hg
 unfold d51 at hp
 unfold c50 at he
 split at he <;> first | (cases he; done) | skip
 ·rename_i id e1 e2
  rw [e1] at hp ⊢
  rw [e2]
  exact ⟨j,hp,hr⟩
 rename_i e1 e2
 rw [e1] at hp ⊢
 rw [e2]
 exact ⟨j,hp,hr⟩
structure RngJ (c : Cx) (N0 : Nat) (β0 : Nat → Nat) (W : World) (l D : Nat) (T0 : Nat → Prop) (hpI : ι → List HE) (GI : ι → Gh) (j : ι) (β : Nat → Nat) (T V : Nat → Prop) (W1 : World) : Prop where
 mem : Mem c.bs (hpI j) β W1
 agr : ∀ i,i < N0 → β i = β0 i
 k0 : Keeps (fun b=>¬ T0 b) W W1
 own : ∀ i b,m9 β (hpI j) i b → T b ∧ b ≠ l ∧ b ≠ D
 facts : (GI j).p (fun b=>Sof c.S0 β (hpI j) b ∧ ((b < W.heap.size ∧ ¬ T0 b) ∨ (T b ∧ b ≠ l ∧ b ≠ D) ∨ V b)) W1
 dfr : W1.heap[D]? = some (.deferred (some []))
 tl : T l
 td : T D
 t0 : ∀ b,T0 b → T b
 vt : ∀ b,V b → ¬ T b
 lo : ∀ b,T b → b < W1.heap.size
 nw : ∀ b,T b → T0 b ∨ W.heap.size ≤ b
theorem RngJ.stab {c : Cx} {N0 : Nat} {β0 : Nat → Nat} {W : World} {l D : Nat} {T0 : Nat → Prop} {hpI : ι → List HE} {GI : ι → Gh} {j : ι} {β : Nat → Nat} {T V : Nat → Prop} {W1 W2 : World} (h : RngJ c N0 β0 W l D T0 hpI GI j β T V W1)
  (hz : W1.heap.size ≤ W2.heap.size) (hT : ∀ b,T b ∨ V b → W2.heap[b]? = W1.heap[b]?) (hk : Keeps (fun b=>¬ T0 b) W W2) : RngJ c N0 β0 W l D T0 hpI GI j β T V W2:=by
 have k : Keeps (fun b=>(b < W.heap.size ∧ ¬ T0 b) ∨ T b ∨ V b) W1 W2:=by
  refine ⟨hk.os.trans h.k0.os.symm,hk.tape.trans h.k0.tape.symm,hk.output.trans h.k0.output.symm,hz,fun b _ hb=>?_⟩
  rcases hb with ⟨h1,h2⟩ | h1
  ·exact (hk.block b h1 h2).trans (h.k0.block b h1 h2).symm
  exact hT b h1
 refine ⟨h.mem.keepS k fun i b hb=>.inr (.inl (h.own i b hb).1),h.agr,hk,h.own,?_,(hT D (.inl h.td)).trans h.dfr,h.tl,h.td,h.t0,h.vt,fun b hb=>Nat.lt_of_lt_of_le (h.lo b hb) hz,h.nw⟩
 refine (GI j).keep h.facts (k.mono fun b hb=>?_)
 rcases hb.2 with h1 | h1 | h1
 ·exact .inl h1
 ·exact .inr (.inl h1.1)
 exact .inr (.inr h1)
def rfQ (o : Out) : Option (Operand × List Nat × Code × Code):=match o.cur with | .code (.rangeFunc g ps a b)=>some (g,ps.toList,a,b) | _=>none
def dm4 (o : Out) : List Nat:=match rfQ o with | some (_,ps,_,_)=>ps | none=>[]
def rfA (o : Out) : Code:=match rfQ o with | some (_,_,a,_)=>a | none=>.skip
def rfB (o : Out) : Code:=match rfQ o with | some (_,_,_,b)=>b | none=>.skip
def rfF (o : Out) : Option Value:=match rfQ o with | some (g,_,_,_)=>(match opd o.st.fr g with | some (.one (.val v))=>some v | _=>none) | none=>none
noncomputable def rfO (E : Env) (N : Nat) (o : Out) (ls : List SV) (hp : List HE) : Out:=exec E false N ⟨.code (rfA o),[],⟨am9 (dm4 o) ls o.st.fr,hp⟩,[]⟩
def bc5 (o : Out) : Bool:=match o.cur,o.k,o.vc with | .ex .normal,[],[]=>true | _,_,_=>false
end
abbrev N6 (fn : FuncId) (tmps : Array Value) (ps : Array Tmp) (A B : Code) (D : Nat) (st : LoopState) (pe : Option Code) : Loop:={ state:=st,pending:=pe,fn:=fn,tmps:=tmps,params:=ps,assign:=A,body:=B,defers:=D }
theorem H8 {w : World} {l : Nat} {x : Obj} : Keeps (fun b=>b ≠ l) w (w.putObj l x):=
 ⟨rfl,rfl,rfl,by rw [World.putObj_size]; exact Nat.le_refl _,fun k _ hk=>World.putObj_heap_other hk⟩
section
variable {ι : Type} {c : Cx} {hpI : ι → List HE} {GI : ι → Gh} {pN : ι → Prop} {pX : Exit → ι → Prop} {W W1 : World} {l D N0 : Nat} {T0 T V : Nat → Prop} {β β0 : Nat → Nat} {j : ι}
def d54 (c : Cx) (N0 : Nat) (β0 : Nat → Nat) (W : World) (l D : Nat) (T0 : Nat → Prop) (hpI : ι → List HE) (GI : ι → Gh) (pN : ι → Prop) (pX : Exit → ι → Prop) (R : LoopState → Option Code → Loop) (f : Bool) (T V : Nat → Prop) (W1 : World) : Prop:=
 ∃ j β,RngJ c N0 β0 W l D T0 hpI GI j β T V W1 ∧ match f with
  | true=>pN j ∧ W1.heap[l]? = some (.loop (R .ready none))
  | false=>(pX .ret j ∧ W1.heap[l]? = some (.loop (R .done (some .ret)))) ∨ ∃ id,pX (.exit id) j ∧ W1.heap[l]? = some (.loop (R .done (some (.exit id))))
theorem ce1 {o : Out} (h : bc5 o = true) : o.cur = .ex .normal ∧ o.k = [] ∧ o.vc = []:=by
 unfold bc5 at h
 split at h
 ·rename_i h1 h2 h3; exact ⟨h1,h2,h3⟩
 cases h
theorem bw0 {oA : St} {V' : Nat → Prop} {β2 : Nat → Nat} {w1 w3 : World} {j' : ι} {ρ3 : Fr} (hc : c.Ok) (h : RngJ c N0 β0 W l D T0 hpI GI j β T V W1) (hlD : l ≠ D) (hT0l : T0 l) (hW : c.w0.heap.size ≤ W1.heap.size) (hN0 : N0 ≤ (hpI j).length) (hV' : ∀ b,V' b → ¬ T b ∧ b < W1.heap.size)
  (R : LoopState → Option Code → Loop) (hS2 : (hpI j).length ≤ oA.hp.length ∧ ∀ i,i < (hpI j).length → β2 i = β i) (hlow2 : ∀ i k,m9 β2 oA.hp i k → W1.heap.size ≤ k ∨ ∃ i',m9 β (hpI j) i' k)
  (hw2 : Keeps (fun b=>∀ i,¬ m9 β (hpI j) i b) W1 w1)
  (hr : RelI ⟨c.P,c.n,c.E,w1.putObj l (.loop (R .busy none)),fun b=>c.S0 b ∧ ((b < W.heap.size ∧ ¬ T0 b) ∨ (T b ∧ b ≠ l ∧ b ≠ D) ∨ V' b ∨ W1.heap.size ≤ b),fun b=>∀ i,¬ m9 β2 oA.hp i b,fun _ _ _=>False,oA.hp.length,β2⟩ (fun j=>⟨[],hpI j⟩) GI j' ρ3 w3) :
  w3.heap[l]? = some (.loop (R .busy none)) ∧ ∀ x : Obj,∃ β3 T',RngJ c N0 β0 W l D T0 hpI GI j' β3 T' V' (w3.putObj l x) ∧ Keeps (fun b=>¬ T b) W1 (w3.putObj l x) ∧ (∀ b,T' b → T b ∨ W1.heap.size ≤ b) ∧ (w3.putObj l x).heap[l]? = some x:=by
 obtain ⟨β3,⟨hS3,hag3⟩,hw3,hG3⟩:=hr
 simp only at hS3 hag3 hw3 hG3
 have hl1 : l < W1.heap.size:=h.lo l h.tl
 have hD1 : D < W1.heap.size:=h.lo D h.td
 have hl2 : l < w1.heap.size:=Nat.lt_of_lt_of_le hl1 hw2.size
 have hz2 : (w1.putObj l (.loop (R .busy none))).heap.size = w1.heap.size:=World.putObj_size
 have hne2 : ∀ i b,m9 β2 oA.hp i b → b ≠ l ∧ b ≠ D:=by
  intro i b hb
  rcases hlow2 i b hb with h1 | ⟨i',h1⟩
  ·exact ⟨by omega,by omega⟩
  exact (h.own i' b h1).2
 have hrec2 : (w1.putObj l (.loop (R .busy none))).heap[l]? = some (.loop (R .busy none)):=World.putObj_heap_same hl2
 have hrec3 : w3.heap[l]? = some (.loop (R .busy none)):=(hw3.block l (by rw [hz2]; exact hl2) fun i hi=>(hne2 i l hi).1 rfl).trans hrec2
 have hl3 : l < w3.heap.size:=(Array.getElem?_eq_some_iff.1 hrec3).1
 refine ⟨hrec3,fun x=>?_⟩
 have hk4 : Keeps (fun b=>(∀ i,¬ m9 β (hpI j) i b) ∧ b ≠ l) W1 (w3.putObj l x):=by
  refine Keeps.behind (Keeps.behind (Keeps.behind (hw2.mono fun b hb=>hb.1) (H8 (x:=.loop (R .busy none))) fun b _ hb=>hb.2) hw3 ?_) (H8 (x:=x)) fun b _ hb=>hb.2
  intro b hb hb2 i hi
  rcases hlow2 i b hi with h1 | ⟨i',h1⟩
  ·omega
  exact hb2.1 i' h1
 have hz4 : w3.heap.size = (w3.putObj l x).heap.size:=World.putObj_size.symm
 have hmine3 : ∀ i b,m9 β3 (hpI j') i b → W1.heap.size ≤ b ∨ ∃ i',m9 β (hpI j) i' b:=by
  intro i b hb
  rcases (hS3.mem.low i b hb).1 with h1 | h1
  ·have h2 : (w1.putObj l (.loop (R .busy none))).heap.size ≤ b:=h1
   rw [hz2] at h2
   exact .inl (Nat.le_trans hw2.size h2)
  obtain ⟨i',h2⟩:=Classical.not_forall.1 h1
  exact hlow2 i' b (Classical.not_not.1 h2)
 have hne3 : ∀ i b,m9 β3 (hpI j') i b → b ≠ l ∧ b ≠ D:=by
  intro i b hb
  rcases hmine3 i b hb with h1 | ⟨i',h1⟩
  ·exact ⟨by omega,by omega⟩
  exact (h.own i' b h1).2
 have hlow3 : ∀ i b,m9 β3 (hpI j') i b → b < (w3.putObj l x).heap.size:=fun i b hb=>by rw [← hz4]; exact (hS3.mem.low i b hb).2
 have hSl : ∀ b,(c.S0 b ∧ ((b < W.heap.size ∧ ¬ T0 b) ∨ (T b ∧ b ≠ l ∧ b ≠ D) ∨ V' b ∨ W1.heap.size ≤ b)) → b ≠ l:=by
  rintro b ⟨_,h1 | h1 | h1 | h1⟩
  ·exact fun e=>h1.2 (e ▸ hT0l)
  ·exact h1.2.1
  ·exact fun e=>(hV' b h1).1 (e ▸ h.tl)
  omega
 refine ⟨β3,fun b=>T b ∨ (W1.heap.size ≤ b ∧ b < (w3.putObj l x).heap.size),⟨?_,?_,?_,?_,?_,?_,.inl h.tl,.inl h.td,fun b hb=>.inl (h.t0 b hb),?_,?_,?_⟩,hk4.mono fun b hb=>⟨fun i hi=>hb (h.own i b hi).1,fun e=>hb (e ▸ h.tl)⟩,?_,World.putObj_heap_same hl3⟩
 ·refine (hS3.mem.keepS (H8 (x:=x)) fun i b hb=>(hne3 i b hb).1).rebase fun i b hb=>?_
  rcases hmine3 i b hb with h1 | ⟨i',h1⟩
  ·exact .inl (Nat.le_trans hW h1)
  exact (h.mem.low i' b h1).1
 ·intro i hi
  have h1 : i < (hpI j).length:=Nat.lt_of_lt_of_le hi hN0
  exact ((hag3 i (Nat.lt_of_lt_of_le h1 hS2.1)).trans (hS2.2 i h1)).trans (h.agr i hi)
 ·refine Keeps.behind h.k0 hk4 fun b hb hb2=>⟨fun i hi=>?_,fun e=>hb2 (e ▸ hT0l)⟩
  rcases h.nw b (h.own i b hi).1 with h1 | h1
  ·exact hb2 h1
  omega
 ·intro i b hb
  refine ⟨?_,hne3 i b hb⟩
  rcases hmine3 i b hb with h1 | ⟨i',h1⟩
  ·exact .inr ⟨h1,hlow3 i b hb⟩
  exact .inl (h.own i' b h1).1
 ·have g1:=(GI j').keep hG3 ((H8 (w:=w3) (l:=l) (x:=x)).mono fun b hb=>hSl b hb.1)
  refine (GI j').mono g1 fun b hb hs=>⟨⟨hs.1.1,hs.2⟩,?_⟩
  rcases hs.1.2 with h1 | h1 | h1 | h1
  ·exact .inl h1
  ·exact .inr (.inl ⟨.inl h1.1,h1.2⟩)
  ·exact .inr (.inr h1)
  exact .inr (.inl ⟨.inr ⟨h1,hb⟩,by omega,by omega⟩)
 ·exact (hk4.block D hD1 ⟨fun i hi=>(h.own i D hi).2.2 rfl,fun e=>hlD e.symm⟩).trans h.dfr
 ·rintro b hb (h1 | h1)
  ·exact (hV' b hb).1 h1
  have:=(hV' b hb).2
  omega
 ·rintro b (h1 | h1)
  ·exact Nat.lt_of_lt_of_le (h.lo b h1) hk4.size
  exact h1.2
 ·rintro b (h1 | h1)
  ·exact h.nw b h1
  exact .inr (Nat.le_trans h.k0.size h1.1)
 rintro b (h1 | h1)
 ·exact .inl h1
 exact .inr h1.1
theorem cu5 {fr : List (Nat × SV)} {fn : FuncId} {tmps : Array Value} {ps : Array Tmp} {A B : Code} {ρ : Fr} {x : List Value} {ls : List SV} {N : Nat} {V' : Nat → Prop} {F : Gh} (hc : c.Ok) (h : RngJ c N0 β0 W l D T0 hpI GI j β T V W1)
  (hrec : W1.heap[l]? = some (.loop (N6 fn tmps ps A B D .ready none))) (hlD : l ≠ D) (hT0l : T0 l) (hW : c.w0.heap.size ≤ W1.heap.size) (hm : @MtI ⟨some l,false⟩ c.n [] { tmps:=tmps,defers:=[] } ρ) (hfr : ∀ d,Kn β0 N0 (J3 fr d) (ρ d)) (hN0 : N0 ≤ (hpI j).length)
  (hokA : G0 c.n A = true) (hokB : G0 c.n B = true) (hps : ps.toList.all (fun d=>Nat.blt d c.n) = true) (hx : ls.map (SV.den fun _=>0) = x) (hls : ∀ s ∈ ls,s.Ok 0) (hlen : x.length = ps.size)
  (hVV : ∀ b,V b → V' b) (hV' : ∀ b,V' b → ¬ T b ∧ b < W1.heap.size ∧ c.S0 b) (hF : F.p V' W1)
  (hnA : bc5 (exec c.E false N ⟨.code A,[],⟨am9 ps.toList ls fr,hpI j⟩,[]⟩) = true)
  (hB : ∀ (i : Rd) (w1 : World) (S K : Nat → Prop) (m : Nat) (b : Nat → Nat),(Cx.rnd ⟨c.P,c.n,c.E,w1,S,K,fun _ _ _=>False,m,b⟩ hpI GI pN pX).Ok →
   Run (Cx.rnd ⟨c.P,c.n,c.E,w1,S,K,fun _ _ _=>False,m,b⟩ hpI GI pN pX) ⟨.code B,[],(exec c.E false N ⟨.code A,[],⟨am9 ps.toList ls fr,hpI j⟩,[]⟩).st,[]⟩ (F.and (GI j))) :
  YieldAt Fence.wide 0 c.P l x.toArray W1 fun e W'=>∃ f T',e = .returned (.bool f) ∧ d54 c N0 β0 W l D T0 hpI GI pN pX (N6 fn tmps ps A B D) f T' V' W' ∧ Keeps (fun b=>¬ T b) W1 W' ∧ ∀ b,T' b → T b ∨ W1.heap.size ≤ b:=by
 letI i0 : Rd:=⟨some l,false⟩
 obtain ⟨oA,hoA⟩ : ∃ oA,exec c.E false N ⟨.code A,[],⟨am9 ps.toList ls fr,hpI j⟩,[]⟩ = oA:=⟨_,rfl⟩
 rw [hoA] at hnA hB
 obtain ⟨hn1,hn2,hn3⟩:=ce1 hnA
 have hl1 : l < W1.heap.size:=h.lo l h.tl
 have hD1 : D < W1.heap.size:=h.lo D h.td
 have hmS : ∀ i k,m9 β (hpI j) i k → c.S0 k:=fun i k hk=>by
  rcases (h.mem.low i k hk).1 with h1 | h1
  ·exact hc.up k h1
  exact hc.lent k h1
 let SA : Nat → Prop:=fun b=>c.S0 b ∧ ((b < W.heap.size ∧ ¬ T0 b) ∨ (T b ∧ b ≠ l ∧ b ≠ D) ∨ V' b ∨ W1.heap.size ≤ b)
 let KA : Nat → Prop:=fun b=>∀ i,¬ m9 β (hpI j) i b
 have hup : Up SA W1:=fun k hk=>⟨hc.up k (Nat.le_trans hW hk),.inr (.inr (.inr hk))⟩
 have hlA : ∀ k,¬ KA k → ∃ i,m9 β (hpI j) i k:=fun k hk=>by
  obtain ⟨i,hi⟩:=Classical.not_forall.1 hk
  exact ⟨i,Classical.not_not.1 hi⟩
 have hSA : ∀ i k,m9 β (hpI j) i k → SA k:=fun i k hk=>⟨hmS i k hk,.inr (.inl (h.own i k hk))⟩
 let cA : Cx:=⟨c.P,c.n,c.E,W1,SA,KA,fun e ρ w=>e = .normal ∧ ∃ β',Sat ⟨W1.heap.size,KA,(hpI j).length,β⟩ oA.st β' ρ w ∧ Keeps KA W1 w ∧ (F.and (GI j)).p (Sof SA β' oA.st.hp) w,(hpI j).length,β⟩
 have hcA : cA.Ok:=⟨hc.env,hup,fun k hk=>by obtain ⟨i,hi⟩:=hlA k hk; exact hSA i k hi⟩
 have hA : Run cA ⟨.code A,[],⟨am9 ps.toList ls fr,hpI j⟩,[]⟩ (F.and (GI j)):=by
  refine co3 (un:=false) hcA (N:=N) ?_ ?_
  ·show K7 (exec c.E false N ⟨.code A,[],⟨am9 ps.toList ls fr,hpI j⟩,[]⟩).vc
   rw [hoA,hn3]
   trivial
  show Run cA (exec c.E false N ⟨.code A,[],⟨am9 ps.toList ls fr,hpI j⟩,[]⟩) (F.and (GI j))
  rw [hoA]
  refine ⟨fun β' ρ' w' hS hw hG=>?_⟩
  rw [hn1,hn2]
  exact ⟨rfl,β',hS,hw,hG⟩
 have hxβ : ls.map (SV.den β) = x:=by
  rw [← hx]
  exact List.map_congr_left fun s hs=>SV.den_congr (m:=0) (fun i hi=>absurd hi (Nat.not_lt_zero i)) (hls s hs)
 have hS1 : Sat cA.bs ⟨am9 ps.toList ls fr,hpI j⟩ β (b20 ps.toList x ρ) W1:=by
  refine ⟨fun d=>?_,h.mem.rebase fun i k hk=>.inr fun h2=>h2 i hk,Nat.le_refl _,fun _ _=>rfl⟩
  rw [← hxβ]
  refine c77 (fun d s hs=>?_) (fun s hs=>(hls s hs).le (Nat.zero_le _)) d
  obtain ⟨h1,h2⟩:=hfr d s hs
  exact ⟨h1.trans (SV.den_congr (fun i hi=>(h.agr i hi).symm) h2),h2.le hN0⟩
 have hG1 : (F.and (GI j)).p (Sof SA β (hpI j)) W1:=⟨F.mono hF fun b _ hb=>⟨⟨(hV' b hb).2.2,.inr (.inr (.inl hb))⟩,fun i hi=>(hV' b hb).1 (h.own i b hi).1⟩,(GI j).mono h.facts fun b _ hb=>⟨⟨hb.1.1,hb.2.elim .inl fun h1=>h1.elim (fun h1=>.inr (.inl h1)) fun h1=>.inr (.inr (.inl (hVV b h1)))⟩,hb.1.2⟩⟩
 have hmt:=dk8 (vs:=x) hm hps
 have h1:=ck8 (hA.run β _ W1 hS1 .refl hG1) hokA [] _ hmt
 refine ⟨fn,_,A,B,run_yield hrec (by simpa using hlen),roundIn_of_wpIn trivial ?_⟩
 have ht : (ps.zip x.toArray).foldl (fun tmps (t,a)=>tmps.setIfInBounds t a) tmps = (ps.toList.zip x).foldl (fun t p=>t.setIfInBounds p.1 p.2) tmps:=by
  rw [← Array.foldl_toList,Array.toList_zip]
 show A.wpIn (Fence.wide.inRound l) 0 c.P _ { tmps:=(ps.zip x.toArray).foldl (fun tmps (t,a)=>tmps.setIfInBounds t a) tmps,defers:=[] } W1
 rw [ht]
 refine Go.wpIn_mono h1 ?_
 rintro e a1 w1 ⟨ρ2,hm2,rfl,β2,hS2,hw2,hG2⟩
 have hrec1 : w1.heap[l]? = some (.loop (N6 fn tmps ps A B D .ready none)):=(hw2.block l hl1 fun i hi=>(h.own i l hi).2.1 rfl).trans hrec
 refine ⟨_,run_beginRound hrec1 rfl,?_⟩
 have hl2 : l < w1.heap.size:=Nat.lt_of_lt_of_le hl1 hw2.size
 have hz2 : (w1.putObj l (.loop (N6 fn tmps ps A B D .busy none))).heap.size = w1.heap.size:=World.putObj_size
 have hlow2 : ∀ i k,m9 β2 oA.st.hp i k → W1.heap.size ≤ k ∨ ∃ i',m9 β (hpI j) i' k:=by
  intro i k hk
  rcases (hS2.mem.low i k hk).1 with h1 | h1
  ·exact .inl h1
  exact .inr (hlA k h1)
 have hne2 : ∀ i b,m9 β2 oA.st.hp i b → b ≠ l:=by
  intro i b hb
  rcases hlow2 i b hb with h1 | ⟨i',h1⟩
  ·omega
  exact (h.own i' b h1).2.1
 have hSl : ∀ b,SA b → b ≠ l:=by
  rintro b ⟨_,h1 | h1 | h1 | h1⟩
  ·exact fun e=>h1.2 (e ▸ hT0l)
  ·exact h1.2.1
  ·exact fun e=>(hV' b h1).1 (e ▸ h.tl)
  omega
 let w2:=w1.putObj l (.loop (N6 fn tmps ps A B D .busy none))
 let KB : Nat → Prop:=fun b=>∀ i,¬ m9 β2 oA.st.hp i b
 have hcB : (Cx.rnd ⟨c.P,c.n,c.E,w2,SA,KB,fun _ _ _=>False,oA.st.hp.length,β2⟩ hpI GI pN pX).Ok:=by
  refine ⟨hc.env,fun k hk=>hup k ?_,fun k hk=>?_⟩
  ·have : w2.heap.size ≤ k:=hk
   rw [hz2] at this
   exact Nat.le_trans hw2.size this
  obtain ⟨i,hi⟩:=Classical.not_forall.1 hk
  rcases hlow2 i k (Classical.not_not.1 hi) with h1 | ⟨i',h1⟩
  ·exact hup k h1
  exact hSA i' k h1
 have hS2' : Sat ⟨w2.heap.size,KB,oA.st.hp.length,β2⟩ oA.st β2 ρ2 w2:=
  ⟨hS2.fr,(hS2.mem.keepS H8 hne2).rebase fun i k hk=>.inr fun h2=>h2 i hk,Nat.le_refl _,fun _ _=>rfl⟩
 have hG2' : (F.and (GI j)).p (Sof SA β2 oA.st.hp) w2:=(F.and (GI j)).keep hG2 (H8.mono fun b hb=>hSl b hb.1)
 have h2:=ck8 ((hB i0 w2 SA KB oA.st.hp.length β2 hcB).run β2 ρ2 w2 hS2' .refl hG2') hokB [] a1 hm2
 refine Go.wpIn_mono h2 ?_
 rintro e a3 w3 ⟨ρ3,hm3,hq⟩
 cases e with
 | normal=>
  obtain ⟨j',hp,hr⟩:=hq
  obtain ⟨h3,h4⟩:=bw0 hc h hlD hT0l hW hN0 (fun b hb=>⟨(hV' b hb).1,(hV' b hb).2.1⟩) (N6 fn tmps ps A B D) hS2.agr hlow2 hw2 hr
  obtain ⟨β3,T',h5,h6,h7,h8⟩:=h4 (.loop (N6 fn tmps ps A B D .ready none))
  exact ⟨_,_,run_endRound none h3,true,T',rfl,⟨j',β3,h5,hp,h8⟩,h6,h7⟩
 | ret=>
  obtain ⟨j',hp,hr⟩:=hq
  obtain ⟨h3,h4⟩:=bw0 hc h hlD hT0l hW hN0 (fun b hb=>⟨(hV' b hb).1,(hV' b hb).2.1⟩) (N6 fn tmps ps A B D) hS2.agr hlow2 hw2 hr
  obtain ⟨β3,T',h5,h6,h7,h8⟩:=h4 (.loop (N6 fn tmps ps A B D .done (some .ret)))
  exact ⟨_,_,run_endRound (some .ret) h3,false,T',rfl,⟨j',β3,h5,.inl ⟨hp,h8⟩⟩,h6,h7⟩
 | exit id=>
  obtain ⟨j',hp,hr⟩:=hq
  obtain ⟨h3,h4⟩:=bw0 hc h hlD hT0l hW hN0 (fun b hb=>⟨(hV' b hb).1,(hV' b hb).2.1⟩) (N6 fn tmps ps A B D) hS2.agr hlow2 hw2 hr
  obtain ⟨β3,T',h5,h6,h7,h8⟩:=h4 (.loop (N6 fn tmps ps A B D .done (some (.exit id))))
  exact ⟨_,_,run_endRound (some (.exit id)) h3,false,T',rfl,⟨j',β3,h5,.inr ⟨id,hp,h8⟩⟩,h6,h7⟩
 | _=>exact hq.elim
end
def d57 (o : Out) : Bool:=(rfQ o).isSome
def rfN (o : Out) : Nat:=(dm4 o).length
theorem bu3 {w : World} {x y : Obj} : Ext w ((w.alloc x).alloc y):=(N2 w x).trans (N2 _ y)
section
variable {ι : Type}
theorem co5 {c : Cx} {o : Out} {G : Gh} [i : Rd] (gf : FuncId) (lb : List Value) (X : Nat → List Value → Gh) (n n0 : Nat) (hpI : ι → List HE) (GI : ι → Gh) (pre : ι → Prop) (kk : ι → Nat) (prx : Exit → ι → Prop) (ls : ι → List Value → List SV) (N : Nat) (ms : List Nat) (j0 : ι) (hr : i.r = none) (hdm : i.dm = true) (hc : c.Ok) [hcl : CallI c.P gf]
  (hq : d57 o = true) (hF : rfF o = some (.func (.func gf) #[] lb.toArray)) (hms : J3 o.st.fr c.n = some (mkS ms)) (hn0 : c.w0.heap.size ≤ n0) (hseq : ∀ S w,Keeps c.K c.w0 w → G.p S w → (dp3 c.P gf lb X n n0).p S w)
  (hl : ∀ j,o.st.hp.length ≤ (hpI j).length) (hp0 : pre j0) (hk0 : kk j0 = 0) (hsub : bn0 o.st ⟨[],hpI j0⟩) (hok : ∀ S w,Keeps c.K c.w0 w → G.p S w → an2 ⟨[],hpI j0⟩) (hg : ∀ S w,Keeps c.K c.w0 w → G.p S w → (GI j0).p S w)
  (hx : ∀ j x S w,pre j → kk j < n → (X (kk j) x).p S w → (ls j x).map (SV.den fun _=>0) = x ∧ SVsOk (ls j x) ∧ (ls j x).length = rfN o)
  (hA : ∀ j x,pre j → kk j < n → bc5 (rfO c.E N o (ls j x) (hpI j)) = true)
  (hB : ∀ j x (i' : Rd) (w1 : World) (S K : Nat → Prop) (m : Nat) (b : Nat → Nat),pre j → kk j < n → (Cx.rnd ⟨c.P,c.n,c.E,w1,S,K,fun _ _ _=>False,m,b⟩ hpI GI (fun j'=>pre j' ∧ kk j' = kk j + 1) prx).Ok →
   Run (Cx.rnd ⟨c.P,c.n,c.E,w1,S,K,fun _ _ _=>False,m,b⟩ hpI GI (fun j'=>pre j' ∧ kk j' = kk j + 1) prx) ⟨.code (rfB o),[],(rfO c.E N o (ls j x) (hpI j)).st,[]⟩ ((X (kk j) x).and (GI j)))
  (h1 : ∀ D j,pre j → kk j = n → Run c ⟨.ex .normal,o.k,⟨(c.n,mkS (D :: ms)) :: o.st.fr,hpI j ++ [.abs (dfE D)]⟩,[]⟩ (GI j))
  (h2 : ∀ D j e,prx e j → (e = .ret ∨ ∃ id,e = .exit id) → Run c ⟨.ex e,o.k,⟨(c.n,mkS (D :: ms)) :: o.st.fr,hpI j ++ [.abs (dfE D)]⟩,[]⟩ (GI j)) : Run c o G:=by
 refine ⟨fun β0 ρ w hS hw hG=>?_⟩
 obtain ⟨hS0,hsof⟩:=hS.sub hsub (hok _ _ hw hG)
 have hg0:=hg _ _ hw hG
 obtain ⟨hsz,hsq⟩:=hseq _ _ hw hG
 unfold rfF at hF
 unfold d57 at hq
 unfold rfN dm4 at hx
 unfold rfO dm4 rfA at hA hB
 unfold rfB at hB
 cases hQ : rfQ o with
 | none=>rw [hQ] at hq; cases hq
 | some y=>
 obtain ⟨g,psl,A,B⟩:=y
 rw [hQ] at hF hx hA hB
 simp only at hF hx hA hB
 have hcur : ∃ ps : Array Tmp,o.cur = .code (.rangeFunc g ps A B) ∧ psl = ps.toList:=by
  unfold rfQ at hQ
  split at hQ
  ·rename_i g' ps' a' b' e
   simp only [Option.some.injEq,Prod.mk.injEq] at hQ
   obtain ⟨rfl,rfl,rfl,rfl⟩:=hQ
   exact ⟨ps',e,rfl⟩
  cases hQ
 obtain ⟨ps,hcur,rfl⟩:=hcur
 have hgo : opd o.st.fr g = some (.one (.val (.func (.func gf) #[] lb.toArray))):=by
  split at hF
  ·rename_i v e
   simp only [Option.some.injEq] at hF
   subst hF
   exact e
  cases hF
 rw [hcur]
 show WqC c.P c.n (.rangeFunc g ps A B) (kQ c.P c.n c.Q o.k) ρ w
 refine c11 fun hcok D0 a hm=>?_
 simp only [G0,Bool.and_eq_true] at hcok
 obtain ⟨⟨⟨hg1,hps⟩,hokA⟩,hokB⟩:=hcok
 refine wpIn_rangeFunc fun fn _=>?_
 rw [db8,hr]
 have hgv : a.eval g = .func (.func gf) #[] lb.toArray:=(hm.opd hg1).trans ((ad8 (fun t _=>hS.fr t)) _ hgo).1
 obtain ⟨W,hW⟩ : ∃ W,(w.alloc (.deferred (some []))).alloc (.loop (N6 fn a.tmps ps A B w.heap.size .ready none)) = W:=⟨_,rfl⟩
 have hzW : W.heap.size = w.heap.size + 2:=by rw [← hW]; simp
 have hxW : Ext w W:=by rw [← hW]; exact bu3
 have hWl : W.heap[w.heap.size + 1]? = some (.loop (N6 fn a.tmps ps A B w.heap.size .ready none)):=by
  rw [← hW]; have:=World.alloc_heap_new (w.alloc (.deferred (some []))) (.loop (N6 fn a.tmps ps A B w.heap.size .ready none)); rwa [World.size_alloc] at this
 have hWD : W.heap[w.heap.size]? = some (.deferred (some [])):=by
  rw [← hW]; exact (Below.heap_alloc _ _ _ (by simp)).trans (World.alloc_heap_new w _)
 let T0 : Nat → Prop:=fun b=>(∃ i,m9 β0 (hpI j0) i b) ∨ b = w.heap.size ∨ b = w.heap.size + 1
 have hT0w : ∀ b,b < w.heap.size → T0 b → ∃ i,m9 β0 (hpI j0) i b:=by
  rintro b hb (h3 | h3 | h3)
  ·exact h3
  ·omega
  omega
 have hw0 : c.w0.heap.size ≤ w.heap.size:=hw.size
 let J : (Nat → Prop) → (Nat → Prop) → Nat → Bool → World → Prop:=fun T V k f W1=>d54 c o.st.hp.length β0 W (w.heap.size + 1) w.heap.size T0 hpI GI (fun j=>pre j ∧ kk j = k) prx (N6 fn a.tmps ps A B w.heap.size) f T V W1
 have hJ0 : J T0 (fun _=>False) 0 true W:=by
  refine ⟨j0,β0,⟨?_,fun _ _=>rfl,.refl,?_,?_,hWD,.inr (.inr rfl),.inr (.inl rfl),fun _ hb=>hb,fun _ hb=>hb.elim,?_,fun b hb=>.inl hb⟩,⟨hp0,hk0⟩,hWl⟩
  ·exact (hS0.mem.rebase (base':=c.bs) fun i k hk=>(hS0.mem.low i k hk).1).to hxW
  ·intro i b hb
   have:=(hS0.mem.low i b hb).2
   exact ⟨.inl ⟨i,hb⟩,by omega,by omega⟩
  ·have g1:=(GI j0).mono hg0 (S':=fun b=>Sof c.S0 β0 o.st.hp b ∧ b < w.heap.size) fun b hb hs=>⟨hs,hb⟩
   refine (GI j0).mono ((GI j0).keep g1 (Keeps.of hxW)) fun b _ hb=>⟨hsof _ _ hb.1,.inl ⟨by omega,fun h3=>?_⟩⟩
   obtain ⟨i,h4⟩:=hT0w b hb.2 h3
   exact (hsof _ _ hb.1).2 i h4
  ·rintro b (⟨i,h3⟩ | h3 | h3)
   ·have:=(hS0.mem.low i b h3).2
    omega
   ·omega
   omega
 have hA' : SeqA c.P (w.heap.size + 1) X n (fun b=>(Sof c.S0 β0 o.st.hp b ∧ b < n0) ∨ n0 ≤ b) W T0 J:=by
  refine ⟨?_,?_,?_,?_⟩
  ·rintro T V k f W1 W2 ⟨j,β,h3,h4⟩ hz hT hk
   refine ⟨j,β,h3.stab hz hT hk,?_⟩
   cases f with
   | true=>exact ⟨h4.1,(hT _ (.inl h3.tl)).trans h4.2⟩
   | false=>exact h4.imp (fun h5=>⟨h5.1,(hT _ (.inl h3.tl)).trans h5.2⟩) fun ⟨id,h5⟩=>⟨id,h5.1,(hT _ (.inl h3.tl)).trans h5.2⟩
  ·rintro T V k f W1 ⟨j,β,h3,_⟩
   exact h3.lo
  ·rintro T V k f W1 ⟨j,β,h3,_⟩
   exact h3.t0
  rintro T V V' k x W1 hlt ⟨j,β,h3,⟨hp,rfl⟩,hrec⟩ hk hVV hV' hF'
  obtain ⟨x1,x2,x3⟩:=hx j x _ _ hp hlt hF'
  have hmr : @MtI ⟨some (w.heap.size + 1),false⟩ c.n [] { tmps:=a.tmps,defers:=[] } ρ:=@MtI.mk ⟨some (w.heap.size + 1),false⟩ c.n [] { tmps:=a.tmps,defers:=[] } ρ hm.size rfl hm.get
  refine cu5 (fr:=o.st.fr) (ρ:=ρ) (N:=N) hc h3 hrec (by omega) (.inr (.inr rfl)) (Nat.le_trans hw0 (Nat.le_trans hxW.size hk.size)) hmr hS.fr (hl j) hokA hokB hps x1 (SVsOk.all x2) ?_ hVV (fun b hb=>⟨(hV' b hb).1,(hV' b hb).2.1,?_⟩) hF' (hA j x hp hlt) (fun i' w1 S K m b h4=>hB j x i' w1 S K m b hp hlt h4)
  ·rw [← x1,List.length_map,x3]
   simp
  rcases (hV' b hb).2.2 with h4 | h4
  ·exact h4.1.1
  exact hc.up b (Nat.le_trans hn0 h4)
 have hkw : ∀ W3 x,Keeps (fun b=>¬ T0 b) W W3 → Keeps c.K c.w0 (W3.putObj (w.heap.size + 1) x):=by
  intro W3 x hk
  have h3 : Keeps (fun b=>¬ T0 b) w (W3.putObj (w.heap.size + 1) x):=Keeps.behind (Keeps.behind (Keeps.of hxW) hk fun b _ hb=>hb) (H8 (x:=x)) fun b hb hb2=>by omega
  refine Keeps.behind hw h3 fun b hb hb2 hT=>?_
  obtain ⟨i,h4⟩:=hT0w b (by omega) hT
  rcases (hS0.mem.low i b h4).1 with h5 | h5
  ·have h6 : c.w0.heap.size ≤ b:=h5
   omega
  exact h5 hb2
 have fin : ∀ j β T V W3 x,RngJ c o.st.hp.length β0 W (w.heap.size + 1) w.heap.size T0 hpI GI j β T V W3 →
   Sat c.bs ⟨(c.n,mkS (w.heap.size :: ms)) :: o.st.fr,hpI j ++ [.abs (dfE w.heap.size)]⟩ β (upd ρ c.n ((mkS (w.heap.size :: ms)).den β)) (W3.putObj (w.heap.size + 1) x) ∧
   (GI j).p (Sof c.S0 β (hpI j ++ [.abs (dfE w.heap.size)])) (W3.putObj (w.heap.size + 1) x) ∧
   MtI c.n D0 { a with defers:=[mkD w.heap.size] ++ a.defers } (upd ρ c.n ((mkS (w.heap.size :: ms)).den β)):=by
  intro j β T V W3 x h3
  have hD3:=h3.lo _ h3.td
  have hlen : o.st.hp.length ≤ (hpI j ++ [HE.abs (dfE w.heap.size)]).length:=by
   have:=hl j
   simp
   omega
  refine ⟨⟨fun d s hs=>?_,?_,Nat.le_trans hS.agr.1 hlen,fun i hi=>(h3.agr i (Nat.lt_of_lt_of_le hi hS.agr.1)).trans (hS.agr.2 i hi)⟩,?_,?_,?_,?_⟩
  ·rw [G8] at hs
   rw [ad7]
   split at hs
   ·rename_i e
    simp only [Option.some.injEq] at hs
    subst hs
    rw [if_pos e]
    exact ⟨rfl,dy1 _⟩
   rename_i e
   rw [if_neg e]
   obtain ⟨h4,h5⟩:=hS.fr d s hs
   exact ⟨h4.trans (SV.den_congr (fun i hi=>(h3.agr i hi).symm) h5),h5.le hlen⟩
  ·refine Mem.snoc (h3.mem.keepS H8 fun i b hb=>(h3.own i b hb).2.1) ?_ ?_ ?_
   ·exact (World.putObj_heap_other (by omega)).trans h3.dfr
   ·rintro k rfl
    exact ⟨.inl hw0,by rw [World.putObj_size]; exact hD3⟩
   rintro i k hk rfl
   exact (h3.own i _ hk).2.2 rfl
  ·have g1:=(GI j).keep h3.facts ((H8 (w:=W3) (l:=w.heap.size + 1) (x:=x)).mono fun b hb=>?_)
   ·refine (GI j).mono g1 fun b _ hb=>⟨hb.1.1,fun i hi=>?_⟩
    rcases at0 hi with h4 | ⟨_,h4⟩
    ·exact hb.1.2 i h4
    have h5 : b = w.heap.size:=h4
    rcases hb.2 with h6 | h6 | h6
    ·exact h6.2 (.inr (.inl h5))
    ·exact h6.2.2 h5
    exact h3.vt b h6 (h5 ▸ h3.td)
   rcases hb.2 with h6 | h6 | h6
   ·exact fun e=>h6.2 (.inr (.inr e))
   ·exact h6.2.1
   exact fun e=>h3.vt b h6 (e ▸ h3.tl)
  ·exact hm.size
  ·show [mkD w.heap.size] ++ a.defers = bo2 (upd ρ c.n ((mkS (w.heap.size :: ms)).den β) c.n) ++ D0
   have h4:=hm.defers
   have h5 : ρ c.n = (mkS ms).den β0:=((hS.fr c.n) _ hms).1
   unfold bo2 at h4 ⊢
   rw [B9,hdm,cond_true,a38]
   rw [h5,hdm,cond_true,a38] at h4
   rw [h4]
   rfl
  intro t ht
  rw [ad7,if_neg (show c.n ≠ t by omega)]
  exact hm.get t ht
 refine ⟨w.heap.size + 1,[mkD w.heap.size],W,{ target:=.fn (.func gf) lb.toArray,args:=#[ae3 (w.heap.size + 1)] },W,gf,#[ae3 (w.heap.size + 1)] ++ lb.toArray,W,?_,?_,fun f' _=>aa4 f',?_,ar0,ak0 ?_⟩
 ·rw [← hW]; exact run_enterLoop_outer _ _ _ _ _
 ·simp only [resolve,hgv]
  simp [go_sem,ae3]
 ·simp [invoke,go_sem,hcl.run]
 have h3:=hsq (w.heap.size + 1) W T0 J (Keeps.of hxW) (fun b hb hs hT=>by obtain ⟨i,h4⟩:=hT0w b hb hT; exact (hsof _ _ hs).2 i h4) hA' hJ0
 unfold Gives at h3
 have e : (ae3 (w.heap.size + 1) :: lb).toArray = #[ae3 (w.heap.size + 1)] ++ lb.toArray:=by simp
 rw [e] at h3
 refine Calls.mono h3 ?_
 rintro e W3 ⟨v,rfl,hk3,T',V',k,hJ⟩
 rcases hJ with ⟨rfl,j,β,h4,⟨hp,hkj⟩,hrec⟩ | ⟨j,β,h4,h5⟩
 ·obtain ⟨f1,f2,f3⟩:=fin j β T' V' W3 (.loop (N6 fn a.tmps ps A B w.heap.size .exhausted none)) h4
  exact ⟨none,_,run_endLoop hrec (by simp),⟨_,f3,(h1 w.heap.size j hp hkj).run β _ _ f1 (hkw W3 _ hk3) f2⟩⟩
 rcases h5 with ⟨hp,hrec⟩ | ⟨id,hp,hrec⟩
 ·obtain ⟨f1,f2,f3⟩:=fin j β T' V' W3 (.loop (N6 fn a.tmps ps A B w.heap.size .exhausted (some .ret))) h4
  exact ⟨some .ret,_,run_endLoop hrec (by simp),Go.wpIn_ret ⟨_,f3,(h2 w.heap.size j _ hp (.inl rfl)).run β _ _ f1 (hkw W3 _ hk3) f2⟩⟩
 obtain ⟨f1,f2,f3⟩:=fin j β T' V' W3 (.loop (N6 fn a.tmps ps A B w.heap.size .exhausted (some (.exit id)))) h4
 exact ⟨some (.exit id),_,run_endLoop hrec (by simp),Go.wpIn_exit ⟨_,f3,(h2 w.heap.size j _ hp (.inr ⟨id,rfl⟩)).run β _ _ f1 (hkw W3 _ hk3) f2⟩⟩
end
abbrev Cx.fnD (P : Program) (fn : Func) (E : Env) (w0 : World) (S0 K : Nat → Prop) (Ψ : Value → World → Prop) : Cx:=⟨P,fn.ntmps,E,w0,S0,K,b39 P fn Ψ,0,fun _=>0⟩
theorem db1 {P : Program} {E : Env} {S0 K : Nat → Prop} {f : FuncId} {fn : Func} {code : Code} {l : List SV} {hp : List HE} {β : Nat → Nat} {args : List Value} {w : World} {Ψ : Value → World → Prop} {G : Gh} (hf : P.funcs[f]? = some fn) (hb : fn.body = some code) (hok : bb6 fn code = true)
  (hn : Nat.ble args.length fn.ntmps = true) (hl : SVsOkM hp.length l) (ha : l.map (SV.den β) = args) (hM : Mem (Bs.of w.heap.size K) hp β w) (hG : G.p (Sof S0 β hp) w)
  (h : ∀ i : Rd,i.dm = true → i.r = none → Run (Cx.fnD P fn E w S0 K Ψ) ⟨.code code,[],⟨(fn.ntmps,mkS []) :: bl3 0 l,hp⟩,[]⟩ G) : Gives P f args w Ψ:=by
 refine ct6 hf hb hok hn fun i h1 h2=>?_
 subst ha
 have h0:=bi7 (base:=Bs.of w.heap.size K) hl hM rfl
 refine (h i h1 h2).run β _ w ⟨fun d s hs=>?_,h0.mem,h0.agr⟩ .refl hG
 rw [G8] at hs
 split at hs
 ·rename_i e
  simp only [Option.some.injEq] at hs
  subst hs
  refine ⟨?_,trivial⟩
  have h3 : (l.map (SV.den β)).length ≤ d:=by rw [← e]; exact Nat.le_of_ble_eq_true hn
  show (l.map (SV.den β)).getD d undef = undef
  simp [List.getD_eq_getElem?_getD,List.getElem?_eq_none h3]
 exact h0.fr d s hs
theorem b82 {P : Program} {E : Env} {S0 : Nat → Prop} {f : FuncId} {fn : Func} {code : Code} {l : List SV} {args : List Value} {w : World} {Ψ : Value → World → Prop} {G : Gh} (hf : P.funcs[f]? = some fn) (hb : fn.body = some code) (hok : bb6 fn code = true)
  (hn : Nat.ble args.length fn.ntmps = true) (hl : SVsOk l) (ha : l.map (SV.den fun _=>0) = args) (hG : G.p S0 w)
  (h : ∀ i : Rd,i.r = none → i.dm = true → Run (Cx.fnD P fn E w S0 All Ψ) ⟨.code code,[],⟨(fn.ntmps,mkS []) :: bl3 0 l,[]⟩,[]⟩ G) : Gives P f args w Ψ:=by
 have aux : ∀ {r : List SV},SVsOk r → SVsOkM 0 r:=by
  intro r
  induction r with
  | nil=>intro _; trivial
  | cons s r ih=>intro h; exact ⟨h.1,ih h.2⟩
 exact db1 (hp:=[]) (β:=fun _=>0) hf hb hok hn (aux hl) ha (a50 (base:=Bs.of w.heap.size All) hl rfl).mem (G.mono hG fun k _ hk=>⟨hk,fun i hi=>by simp [m9] at hi⟩) fun i h1 h2=>h i h2 h1
theorem ae9 {m : Nat} {hp : List HE} (hm : hp.length = m) (h : hp.foldr (fun p q=>HE.Ok m p ∧ q) True) : an2 ⟨[],hp⟩:=by
 subst hm
 have key : ∀ {m : Nat} {l : List HE},l.foldr (fun p q=>HE.Ok m p ∧ q) True → ∀ p ∈ l,HE.Ok m p:=by
  intro m l
  induction l with
  | nil=>intro _ p hp; cases hp
  | cons x r ih=>
   intro h p hp
   rcases List.mem_cons.1 hp with rfl | hp
   ·exact h.1
   exact ih h.2 p hp
 exact ⟨fun d s hs=>(by cases hs),key h⟩
def di7 : List HE → List Nat → List Nat → Prop
 | _,[],[]=>True
 | hp,b :: bs,D :: ms=>nth hp b = some (.abs (dfE D)) ∧ di7 (Y1 hp b .gone) bs ms
 | _,_,_=>False
def av5 : List HE → List Nat → List HE
 | hp,[]=>hp
 | hp,b :: bs=>av5 (Y1 hp b .gone) bs
theorem c36 {base : Bs} {hp : List HE} {β : Nat → Nat} {w w' : World} {b : Nat} {A : AbsE} (h : Mem base hp β w) (hb : hp[b]? = some (.abs A)) (k : Keeps (fun g=>¬ A.Q g) w w') : Mem base (hp.set b .gone) β w' ∧ ∀ i g,m9 β (hp.set b .gone) i g → m9 β hp i g:=by
 have get : ∀ {i : Nat} {e : HE},(hp.set b .gone)[i]? = some e → (b ≠ i ∧ hp[i]? = some e) ∨ e = .gone:=by
  intro i e hi
  by_cases e0 : b = i
  ·subst e0
   rw [List.getElem?_set_self (List.getElem?_eq_some_iff.1 hb).1] at hi
   exact .inr (Option.some.inj hi).symm
  rw [List.getElem?_set_ne e0] at hi
  exact .inl ⟨e0,hi⟩
 have hm : ∀ i g,m9 β (hp.set b .gone) i g → b ≠ i ∧ m9 β hp i g:=by
  rintro i g ⟨e,he,hg⟩
  rcases get he with ⟨h1,h2⟩ | rfl
  ·exact ⟨h1,e,h2,hg⟩
  exact hg.elim
 have hA : ∀ i g,b ≠ i → m9 β hp i g → ¬ A.Q g:=fun i g hne hg hq=>hne (h.apart b i g ⟨_,hb,hq⟩ hg)
 refine ⟨⟨fun i T l hi=>?_,fun i T s v n cs hi=>?_,fun i B hi=>?_,fun i g hi=>?_,fun i j g hi hj=>h.apart i j g (hm i g hi).2 (hm j g hj).2⟩,fun i g hi=>(hm i g hi).2⟩
 ·rcases get hi with ⟨h1,h2⟩ | h1
  ·exact ⟨(h.blk i T l h2).1.keep k (hA i _ h1 ⟨_,h2,rfl⟩),fun c hc=>by rw [List.length_set]; exact (h.blk i T l h2).2 c hc⟩
  cases h1
 ·rcases get hi with ⟨h1,h2⟩ | h1
  ·exact aa8 (h.row i T s v n cs h2) k fun g hg=>hA i g h1 ⟨_,h2,hg⟩
  cases h1
 ·rcases get hi with ⟨h1,h2⟩ | h1
  ·exact B.keep (h.abs i B h2) (fun g hg=>(h.low i g ⟨_,h2,hg⟩).2) k fun g hg=>hA i g h1 ⟨_,h2,hg⟩
  cases h1
 exact ⟨(h.low i g (hm i g hi).2).1,Nat.lt_of_lt_of_le (h.low i g (hm i g hi).2).2 k.size⟩
theorem dh9 {c : Cx} {G : Gh} {β : Nat → Nat} {S : Nat → Prop} {K : World → Prop} : ∀ {ms bs : List Nat} {hp : List HE} {w : World},di7 hp bs ms → Mem c.bs hp β w → Keeps c.K c.w0 w → (∀ k,S k → ∀ i,¬ m9 β hp i k) → G.p S w →
  (∀ w',Mem c.bs (av5 hp bs) β w' → Keeps c.K c.w0 w' → G.p S w' → K w') → ay2 c.P (ms.map mkD) w K:=by
 intro ms
 induction ms with
 | nil=>
  intro bs hp w hd hM hw hS hG hK
  cases bs with
  | nil=>exact hK w hM hw hG
  | cons b bs=>exact hd.elim
 | cons D ms ih=>
  intro bs hp w hd hM hw hS hG hK
  cases bs with
  | nil=>exact hd.elim
  | cons b bs=>
   obtain ⟨h1,h2⟩:=hd
   rw [M5] at h1
   have h3 : w.heap[D]? = some (.deferred (some [])):=hM.abs b _ h1
   have hk : Keeps (fun g=>g ≠ D) w (w.putObj D (.deferred none)):=H8
   obtain ⟨h4,h5⟩:=c36 hM h1 (w':=w.putObj D (.deferred none)) (hk.mono fun g hg=>hg)
   refine ⟨D,_,rfl,run_takeDeferred h3,ih (hp:=Y1 hp b .gone) h2 ?_ ?_ ?_ ?_ hK⟩
   ·rw [M4]; exact h4
   ·exact Mem.grow hM hw hk b fun i hi=>⟨_,h1,Classical.not_not.1 hi⟩
   ·intro k hk i hi
    rw [M4] at hi
    exact hS k hk i (h5 i k hi)
   refine G.keep hG (hk.mono fun g hg e=>hS g hg b ⟨_,h1,e⟩)
theorem bo3 : ∀ {bs : List Nat} {hp : List HE},(av5 hp bs).length = hp.length:=by
 intro bs
 induction bs with
 | nil=>intro hp; rfl
 | cons b bs ih=>intro hp; simp only [av5]; rw [ih,M4,List.length_set]
theorem ds9 [Rd] {c : Cx} {fn : Func} {Ψ : Value → World → Prop} {rs : List ResultVar} {o : Out} {G : Gh} (v : Value) (ms bs : List Nat) (hc : c.Ok) (hQ : c.Q = b39 c.P fn Ψ) (hn : c.n = fn.ntmps) (hrs : fn.results.toList = rs) (he : ap7 o = true)
  (hms : J3 o.st.fr c.n = some (mkS ms)) (hbs : di7 o.st.hp bs ms) (hv : ∀ β,ap4 c.E rs ⟨o.st.fr,av5 o.st.hp bs⟩ β = some v)
  (h : ∀ β S w,Mem c.bs (av5 o.st.hp bs) β w → (∀ k,S k → Sof c.S0 β o.st.hp k) → Keeps c.K c.w0 w → G.p S w → Ψ v w) : Run c o G:=by
 refine ⟨fun β ρ w hS hw hG=>?_⟩
 have hend : ∀ e,e = Exit.ret ∨ e = Exit.normal → b39 c.P fn Ψ e ρ w:=by
  have h0 : ay2 c.P (bk8 (ρ fn.ntmps)) w fun w'=>∃ vs,O7 c.P ρ w' fn.results.toList vs ∧ Ψ (bb4 vs) w':=by
   rw [← hn,((hS.fr c.n) _ hms).1,a38]
   refine dh9 (S:=Sof c.S0 β o.st.hp) hbs hS.mem hw (fun k hk=>hk.2) hG fun w' hM' hw' hG'=>?_
   have h1:=hv β
   unfold ap4 at h1
   cases hl : av3 c.E ⟨o.st.fr,av5 o.st.hp bs⟩ rs with
   | none=>rw [hl] at h1; cases h1
   | some l=>
    rw [hl] at h1
    simp only [Option.map_some,Option.some.injEq] at h1
    have hS' : Sat c.bs ⟨o.st.fr,av5 o.st.hp bs⟩ β ρ w':=⟨fun d s hs=>by rw [bo3]; exact hS.fr d s hs,hM',by rw [bo3]; exact hS.agr.1,hS.agr.2⟩
    have h2:=bf6 hc.env hS' hl
    exact ⟨_,hrs ▸ h2,h1 ▸ h β _ w' hM' (fun k hk=>hk) hw' hG'⟩
  rintro e (rfl | rfl) <;> exact h0
 unfold ap7 at he
 split at he <;> first | (cases he; done) | skip
 ·rename_i e1 e2
  rw [e1,e2]
  show c.Q .ret ρ w
  rw [hQ]
  exact hend _ (.inl rfl)
 rename_i e1 e2
 rw [e1,e2]
 show c.Q .normal ρ w
 rw [hQ]
 exact hend _ (.inr rfl)
theorem db7 [Rd] {P : Program} {fn : Func} {E : Env} {w0 : World} {S0 K : Nat → Prop} {Ψ : Value → World → Prop} {rs : List ResultVar} {o : Out} {G : Gh} (v : Value) (ms bs : List Nat) (hc : (Cx.fnD P fn E w0 S0 K Ψ).Ok) (hv0 : (ex (Cx.fnD P fn E w0 S0 K Ψ) o).vc = []) (hrs : fn.results.toList = rs) (he : ap7 (ex (Cx.fnD P fn E w0 S0 K Ψ) o) = true)
  (hms : J3 (ex (Cx.fnD P fn E w0 S0 K Ψ) o).st.fr fn.ntmps = some (mkS ms)) (hbs : di7 (ex (Cx.fnD P fn E w0 S0 K Ψ) o).st.hp bs ms) (hv : ∀ β,ap4 E rs ⟨(ex (Cx.fnD P fn E w0 S0 K Ψ) o).st.fr,av5 (ex (Cx.fnD P fn E w0 S0 K Ψ) o).st.hp bs⟩ β = some v)
  (h : ∀ β S w,Mem (Bs.of w0.heap.size K) (av5 (ex (Cx.fnD P fn E w0 S0 K Ψ) o).st.hp bs) β w → (∀ k,S k → Sof S0 β (ex (Cx.fnD P fn E w0 S0 K Ψ) o).st.hp k) → Keeps K w0 w → G.p S w → Ψ v w) : Run (Cx.fnD P fn E w0 S0 K Ψ) o G:=
 aa3 hc hv0 (ds9 v ms bs hc rfl rfl hrs he hms hbs hv h)
def ml (m : M3) (n : Nat) : Prop:=tl m.a n ∧ tl m.b n ∧ tl m.c n
noncomputable def do0 (a1 a2 a3 b1 b2 b3 c1 c2 c3 : Value) : Value:=(SV.agg [.ag 4 a1,.ag 4 a2,.ag 4 a3,.ag 4 b1,.ag 4 b2,.ag 4 b3,.ag 4 c1,.ag 4 c2,.ag 4 c3]).den fun _=>0
structure QMapC (S : Nat → Prop) (w : World) (m : M3) (a1 a2 a3 b1 b2 b3 c1 c2 c3 : Value) : Prop where
 a1 : QV S w a1 m.a.x
 a2 : QV S w a2 m.a.y
 a3 : QV S w a3 m.a.z
 b1 : QV S w b1 m.b.x
 b2 : QV S w b2 m.b.y
 b3 : QV S w b3 m.b.z
 c1 : QV S w c1 m.c.x
 c2 : QV S w c2 m.c.y
 c3 : QV S w c3 m.c.z
def QMapV (S : Nat → Prop) (w : World) (v : Value) (m : M3) : Prop:=∃ a1 a2 a3 b1 b2 b3 c1 c2 c3,v = do0 a1 a2 a3 b1 b2 b3 c1 c2 c3 ∧ QMapC S w m a1 a2 a3 b1 b2 b3 c1 c2 c3
section
variable {S S' : Nat → Prop} {w w' : World} {v : Value} {m : M3}
theorem QMapV.keep (h : QMapV S w v m) (k : Keeps S w w') : QMapV S w' v m:=let ⟨a1,a2,a3,b1,b2,b3,c1,c2,c3,e,h⟩:=h; ⟨a1,a2,a3,b1,b2,b3,c1,c2,c3,e,⟨h.a1.keep k,h.a2.keep k,h.a3.keep k,h.b1.keep k,h.b2.keep k,h.b3.keep k,h.c1.keep k,h.c2.keep k,h.c3.keep k⟩⟩
theorem QMapV.mono (h : QMapV S w v m) (hs : ∀ k,k < w.heap.size → S k → S' k) : QMapV S' w v m:=let ⟨a1,a2,a3,b1,b2,b3,c1,c2,c3,e,h⟩:=h; ⟨a1,a2,a3,b1,b2,b3,c1,c2,c3,e,⟨h.a1.mono hs,h.a2.mono hs,h.a3.mono hs,h.b1.mono hs,h.b2.mono hs,h.b3.mono hs,h.c1.mono hs,h.c2.mono hs,h.c3.mono hs⟩⟩
theorem QMapC.ok (n : Nat) {a1 a2 a3 b1 b2 b3 c1 c2 c3 : Value} (h : QMapC S w m a1 a2 a3 b1 b2 b3 c1 c2 c3) : (SV.agg [.ag 4 a1,.ag 4 a2,.ag 4 a3,.ag 4 b1,.ag 4 b2,.ag 4 b3,.ag 4 c1,.ag 4 c2,.ag 4 c3]).Ok n:=
 H0 ⟨h.a1.okc,h.a2.okc,h.a3.okc,h.b1.okc,h.b2.okc,h.b3.okc,h.c1.okc,h.c2.okc,h.c3.okc,trivial⟩
theorem QMapV.ok (h : QMapV S w v m) : (SV.one (.ag 36 v)).Ok 0:=by
 obtain ⟨a1,a2,a3,b1,b2,b3,c1,c2,c3,rfl,h⟩:=h
 exact bh3 (h.ok 0) rfl
end
abbrev a15 (v : Value) (m : M3) : Gh:=⟨fun S w=>QMapV S w v m,fun h k=>h.keep k,fun h k=>h.mono k⟩
theorem bs9 {α : Type} {base : Bs} {hp : List HE} {β : Nat → Nat} {g : Bool} {s : Nat} {F : Value → α → Gh} {S : Nat → Prop} {w : World} {l : List α} (i k n : Nat) (T : TypeId) (vs : List Value) (hM : Mem base hp β w) (hb : nth hp i = some (.blk T (vs.map (Ch.ag s)))) (hl : ∀ x ∈ vs,M2 g s x) (h : ElsV g s F S w ((vs.drop k).take n) l) (hn : l.length = n) (hkn : k + n ≤ vs.length) (hm : n ≤ maxLen) :
  SeqV g s F (fun k=>S k ∨ some k = Value.ownBlock (.slice (some ⟨β i,0,none⟩) 0 0)) w (.slice (some ⟨β i,k * s,none⟩) n n) l:=by
 rw [M5] at hb
 have hB:=(hM.blk i T _ hb).1
 rw [aj7] at hB
 have hc:=R2 hl
 have hle : (k + n) * s ≤ vs.length * s:=Nat.mul_le_mul_right _ hkn
 rw [Nat.add_mul] at hle
 refine ⟨T,(vs.drop k).take n,h.len,h.lies,⟨?_,.inr ⟨β i,k * s,n,(A3 vs).toArray,(0,0),by rw [hn],by rw [hn]; exact Nat.le_refl _,hm,.inr rfl,hB,?_,?_⟩⟩,fun j a x ha hx=>((F x a).mono (h.el j a x ha hx) fun k _ hk=>.inl hk)⟩
 ·have h1:=R2 h.lies
  rw [h.len] at h1
  exact h1
 ·simp only [List.size_toArray,hc]
  omega
 rw [hn]
 have e1:=cw7 (g:=g) (s:=s) (vs:=vs.drop k) (fun x hx=>hl x (List.mem_of_mem_drop hx)) n
 have e2 : (A3 vs).drop (k * s) = A3 (vs.drop k):=by
  have h3 : A3 vs = A3 (vs.take k) ++ A3 (vs.drop k):=by unfold A3; rw [← List.flatMap_append,List.take_append_drop]
  have h4:=R2 (g:=g) (s:=s) (vs:=vs.take k) (fun x hx=>hl x (List.mem_of_mem_take hx))
  rw [List.length_take,Nat.min_eq_left (by omega)] at h4
  rw [h3,← h4,List.drop_left]
 show ((A3 vs).drop (k * s)).take (n * s) = _
 rw [e2,e1]
 rfl
theorem dy3 {S : Nat → Prop} {w : World} {a b c : Value} {t : T3} (h1 : QV S w a t.x) (h2 : QV S w b t.y) (h3 : QV S w c t.z) : ElsV true 4 qF S w [a,b,c] t.list:=by
 refine ⟨rfl,fun x hx=>?_,fun i q x hq hx=>?_⟩
 ·simp only [List.mem_cons,List.not_mem_nil,or_false] at hx
  rcases hx with rfl | rfl | rfl
  ·exact h1.lies
  ·exact h2.lies
  exact h3.lies
 match i with
 | 0=>simp [T3.list] at hq hx; subst hq hx; exact h1
 | 1=>simp [T3.list] at hq hx; subst hq hx; exact h2
 | 2=>simp [T3.list] at hq hx; subst hq hx; exact h3
 | i + 3=>simp [T3.list] at hq
theorem du9 {S : Nat → Prop} {w : World} {v : Value} {m : M3} {n : Nat} (hS : Up S w) (hv : QMapV S w v m) (hl : ml m n) (hn : n ≤ 100000) :
  Gives prog 68 [v] w fun v' w'=>Ext w w' ∧ QV S w' v' m.det:=by
 obtain ⟨a1,a2,a3,b1,b2,b3,c1,c2,c3,rfl,hm⟩:=hv
 refine n8 (E:=env) (S0:=S) (G:=((qG a1 m.a.x).and ((qG a2 m.a.y).and ((qG a3 m.a.z).and ((qG b1 m.b.x).and ((qG b2 m.b.y).and ((qG b3 m.b.z).and ((qG c1 m.c.x).and ((qG c2 m.c.y).and (qG c3 m.c.z)))))))))) (l:=[.agg [.ag 4 a1,.ag 4 a2,.ag 4 a3,.ag 4 b1,.ag 4 b2,.ag 4 b3,.ag 4 c1,.ag 4 c2,.ag 4 c3]]) func68 rfl rfl rfl ⟨hm.ok _,trivial⟩ rfl ⟨hm.a1,hm.a2,hm.a3,hm.b1,hm.b2,hm.b3,hm.c1,hm.c2,hm.c3⟩ ?_
 refine j7 8 ?_
 refine b7 6 ?_
 refine o9 (fun x0=>.one (.ag 12 x0)) (fun x0=>I7 x0 ((m.b.cross m.c))) (fun β η S w hS hs hw hG hd=>(kx (b61 hS ⟨_,_,_,rfl,hG.2.2.2.1,hG.2.2.2.2.1,hG.2.2.2.2.2.1⟩ ⟨_,_,_,rfl,hG.2.2.2.2.2.2.1,hG.2.2.2.2.2.2.2.1,hG.2.2.2.2.2.2.2.2⟩ hl.2.1 hl.2.2 (by omega)))) ?_
 refine o9 (fun x0=>.one (.ag 4 x0)) (fun x0=>qG x0 (m.det)) (fun β η S w hS hs hw hG hd=>(kx (bu2 hS ⟨_,_,_,rfl,hG.1,hG.2.1,hG.2.2.1⟩ (p6 hd 6 : (I7 (η 6) ((m.b.cross m.c))).p S w) hl.1 (r5 hl.2.1 hl.2.2) (by omega)))) ?_
 refine j3 [true,false] (Gh.nil) (by exact fun _ _ h=>trivial) (fun g η=>(qG (η 7) (m.det)).and g) (fun g η=>(by kernel_rfl)) ?_
 intro η_1
 exact o6 ((η_1 7)) rfl (fun S w hs hw hG=>⟨hw,hG.1.mono fun k _ hk=>hs k hk⟩)
theorem de9 {S : Nat → Prop} {w : World} {v vp : Value} {m : M3} {p : T3} {n k : Nat} (hS : Up S w) (hv : QMapV S w v m) (hp : QTripV S w vp p) (hl : ml m n) (hk : tl p k) (hn : n + k ≤ 100000) :
  Gives prog 19 [v,vp] w fun v' w'=>Ext w w' ∧ QTripV S w' v' (m.apply p):=by
 obtain ⟨a1,a2,a3,b1,b2,b3,c1,c2,c3,rfl,hm⟩:=hv
 refine n8 (E:=env) (S0:=S) (G:=((I7 vp (p)).and ((qG a1 m.a.x).and ((qG a2 m.a.y).and ((qG a3 m.a.z).and ((qG b1 m.b.x).and ((qG b2 m.b.y).and ((qG b3 m.b.z).and ((qG c1 m.c.x).and ((qG c2 m.c.y).and (qG c3 m.c.z))))))))))) (l:=[.agg [.ag 4 a1,.ag 4 a2,.ag 4 a3,.ag 4 b1,.ag 4 b2,.ag 4 b3,.ag 4 c1,.ag 4 c2,.ag 4 c3],.one (.ag 12 vp)]) func19 rfl rfl rfl ⟨hm.ok _,hp.ok,trivial⟩ rfl ⟨hp,hm.a1,hm.a2,hm.a3,hm.b1,hm.b2,hm.b3,hm.c1,hm.c2,hm.c3⟩ ?_
 refine n9 ?_
 refine j7 7 ?_
 refine b7 5 ?_
 refine o9 (fun x0=>.one (.ag 4 x0)) (fun x0=>qG x0 ((m.a.dot p))) (fun β η S w hS hs hw hG hd=>(kx (bu2 hS ⟨_,_,_,rfl,hG.2.1,hG.2.2.1,hG.2.2.2.1⟩ hG.1 hl.1 hk (by omega)))) ?_
 refine b7 1 ?_
 refine j3 [true] ((I7 vp (p)).and ((qG b1 m.b.x).and ((qG b2 m.b.y).and ((qG b3 m.b.z).and ((qG c1 m.c.x).and ((qG c2 m.c.y).and ((qG c3 m.c.z).and (Gh.nil)))))))) (by exact fun _ _ h=>⟨h.1,h.2.2.2.2.1,h.2.2.2.2.2.1,h.2.2.2.2.2.2.1,h.2.2.2.2.2.2.2.1,h.2.2.2.2.2.2.2.2.1,h.2.2.2.2.2.2.2.2.2,trivial⟩) (fun g η=>(qG (η 5) ((m.a.dot p))).and g) (fun g η=>(by kernel_rfl)) ?_
 intro η_1
 refine j7 7 ?_
 refine b7 5 ?_
 refine o9 (fun x0=>.one (.ag 4 x0)) (fun x0=>qG x0 ((m.b.dot p))) (fun β η S w hS hs hw hG hd=>(kx (bu2 hS ⟨_,_,_,rfl,hG.2.2.1,hG.2.2.2.1,hG.2.2.2.2.1⟩ hG.2.1 hl.2.1 hk (by omega)))) ?_
 refine b7 1 ?_
 refine j3 [true] ((qG (η_1 5) ((m.a.dot p))).and ((I7 vp (p)).and ((qG c1 m.c.x).and ((qG c2 m.c.y).and ((qG c3 m.c.z).and (Gh.nil)))))) (by exact fun _ _ h=>⟨h.1,h.2.1,h.2.2.2.2.2.1,h.2.2.2.2.2.2.1,h.2.2.2.2.2.2.2.1,trivial⟩) (fun g η=>(qG (η 5) ((m.b.dot p))).and g) (fun g η=>(by kernel_rfl)) ?_
 intro η_2
 refine j7 7 ?_
 refine b7 5 ?_
 refine o9 (fun x0=>.one (.ag 4 x0)) (fun x0=>qG x0 ((m.c.dot p))) (fun β η S w hS hs hw hG hd=>(kx (bu2 hS ⟨_,_,_,rfl,hG.2.2.2.1,hG.2.2.2.2.1,hG.2.2.2.2.2.1⟩ hG.2.2.1 hl.2.2 hk (by omega)))) ?_
 refine b7 1 ?_
 refine j3 [true] ((qG (η_2 5) ((m.b.dot p))).and ((qG (η_1 5) ((m.a.dot p))).and (Gh.nil))) (by exact fun _ _ h=>⟨h.1,h.2.1,trivial⟩) (fun g η=>(qG (η 5) ((m.c.dot p))).and g) (fun g η=>(by kernel_rfl)) ?_
 intro η_3
 exact o6 (ap8 (η_1 5) (η_2 5) (η_3 5)) rfl (fun S w hs hw hG=>⟨hw,_,_,_,rfl,hG.2.2.1.mono fun k _ hk=>hs k hk,hG.2.1.mono fun k _ hk=>hs k hk,hG.1.mono fun k _ hk=>hs k hk⟩)
theorem bg2 {t : T3} {k : Nat} (h : tl t k) (hk : k ≤ 4) : ¬ am6 t.list:=by
 rintro ⟨x,hx,hl⟩
 exact bh1 (af5 h x hx) hk hl
theorem be3 {m : M3} (h : m.a.None) : m.det = 0:=by
 obtain ⟨h1,h2,h3⟩:=h
 unfold M3.det T3.dot
 rw [h1,h2,h3]
 grind
theorem b79 {S : Nat → Prop} {w : World} {v : Value} {m : M3} {n : Nat} (hS : Up S w) (hv : QMapV S w v m) (hl : ml m n) (hn : n ≤ 4) :
  Gives prog 15 [v] w fun v' w'=>v' = .int .i64 (if m.det = 0 then 60 else 0) ∧ Ext w w':=by
 have n1:=bg2 hl.1 hn
 have n2:=bg2 hl.2.1 hn
 have n3:=bg2 hl.2.2 hn
 obtain ⟨a1,a2,a3,b1,b2,b3,c1,c2,c3,rfl,hm⟩:=hv
 have hlies : ∀ x ∈ [a1,a2,a3,b1,b2,b3,c1,c2,c3],M2 true 4 x:=by
  intro x hx
  simp only [List.mem_cons,List.not_mem_nil,or_false] at hx
  rcases hx with rfl | rfl | rfl | rfl | rfl | rfl | rfl | rfl | rfl
  ·exact hm.a1.lies
  ·exact hm.a2.lies
  ·exact hm.a3.lies
  ·exact hm.b1.lies
  ·exact hm.b2.lies
  ·exact hm.b3.lies
  ·exact hm.c1.lies
  ·exact hm.c2.lies
  exact hm.c3.lies
 refine n8 (E:=env) (S0:=S) (G:=((qG a1 m.a.x).and ((qG a2 m.a.y).and ((qG a3 m.a.z).and ((qG b1 m.b.x).and ((qG b2 m.b.y).and ((qG b3 m.b.z).and ((qG c1 m.c.x).and ((qG c2 m.c.y).and (qG c3 m.c.z)))))))))) (l:=[.agg [.ag 4 a1,.ag 4 a2,.ag 4 a3,.ag 4 b1,.ag 4 b2,.ag 4 b3,.ag 4 c1,.ag 4 c2,.ag 4 c3]]) func15 rfl rfl rfl ⟨hm.ok _,trivial⟩ rfl ⟨hm.a1,hm.a2,hm.a3,hm.b1,hm.b2,hm.b3,hm.c1,hm.c2,hm.c3⟩ ?_
 by_cases hall : m.a.None ∧ m.b.None ∧ m.c.None
 ·refine B6 (.one (.bb true)) rfl (fun β S w hS hs hw hG=>(kx ((ab9 hS ⟨_,_,_,rfl,hG.1,hG.2.1,hG.2.2.1⟩).mono fun v' w' h=>⟨by rw [h.1,m6 hall.1]; rfl,h.2⟩))) ?_
  refine B6 (.one (.bb true)) rfl (fun β S w hS hs hw hG=>(kx ((ab9 hS ⟨_,_,_,rfl,hG.2.2.2.1,hG.2.2.2.2.1,hG.2.2.2.2.2.1⟩).mono fun v' w' h=>⟨by rw [h.1,m6 hall.2.1]; rfl,h.2⟩))) ?_
  refine B6 (.one (.bb true)) rfl (fun β S w hS hs hw hG=>(kx ((ab9 hS ⟨_,_,_,rfl,hG.2.2.2.2.2.2.1,hG.2.2.2.2.2.2.2.1,hG.2.2.2.2.2.2.2.2⟩).mono fun v' w' h=>⟨by rw [h.1,m6 hall.2.2]; rfl,h.2⟩))) ?_
  exact o6 (.int .i64 60) rfl (fun S w hs hw hG=>⟨by rw [if_pos (be3 hall.1)],hw⟩)
 refine dp5 (ι:=Unit) [(4,16)] (fun x=>[(16,.one (.bb false))]) (fun _=>[]) (fun x=>((qG a1 m.a.x).and ((qG a2 m.a.y).and ((qG a3 m.a.z).and ((qG b1 m.b.x).and ((qG b2 m.b.y).and ((qG b3 m.b.z).and ((qG c1 m.c.x).and ((qG c2 m.c.y).and (qG c3 m.c.z)))))))))) (fun x=>True) ⟨b9,hS,j6⟩ (by kernel_rfl) (fun hso=>?_) (fun x hx=>?_)
 ·by_cases h1 : m.a.None
  ·refine B6 (.one (.bb true)) rfl (fun β S w hS hs hw hG=>(kx ((ab9 hS ⟨_,_,_,rfl,hG.1,hG.2.1,hG.2.2.1⟩).mono fun v' w' h=>⟨by rw [h.1,m6 h1]; rfl,h.2⟩))) ?_
   by_cases h2 : m.b.None
   ·refine B6 (.one (.bb true)) rfl (fun β S w hS hs hw hG=>(kx ((ab9 hS ⟨_,_,_,rfl,hG.2.2.2.1,hG.2.2.2.2.1,hG.2.2.2.2.2.1⟩).mono fun v' w' h=>⟨by rw [h.1,m6 h2]; rfl,h.2⟩))) ?_
    refine B6 (.one (.bb false)) rfl (fun β S w hS hs hw hG=>(kx ((ab9 hS ⟨_,_,_,rfl,hG.2.2.2.2.2.2.1,hG.2.2.2.2.2.2.2.1,hG.2.2.2.2.2.2.2.2⟩).mono fun v' w' h=>⟨by rw [h.1,l7 fun h3=>hall ⟨h1,h2,h3⟩]; rfl,h.2⟩))) ?_
    exact M7 (()) hso (trivial) (fun S w hw hG=>⟨B5 rfl,fun p hp=>by cases hp⟩) (fun S w hw hG=>hG)
   refine B6 (.one (.bb false)) rfl (fun β S w hS hs hw hG=>(kx ((ab9 hS ⟨_,_,_,rfl,hG.2.2.2.1,hG.2.2.2.2.1,hG.2.2.2.2.2.1⟩).mono fun v' w' h=>⟨by rw [h.1,l7 h2]; rfl,h.2⟩))) ?_
   exact M7 (()) hso (trivial) (fun S w hw hG=>⟨B5 rfl,fun p hp=>by cases hp⟩) (fun S w hw hG=>hG)
  refine B6 (.one (.bb false)) rfl (fun β S w hS hs hw hG=>(kx ((ab9 hS ⟨_,_,_,rfl,hG.1,hG.2.1,hG.2.2.1⟩).mono fun v' w' h=>⟨by rw [h.1,l7 h1]; rfl,h.2⟩))) ?_
  exact M7 (()) hso (trivial) (fun S w hw hG=>⟨B5 rfl,fun p hp=>by cases hp⟩) (fun S w hw hG=>hG)
 refine n9 ?_
 refine O6 (.one (.bb false)) rfl (fun β S w hS hM hs hw hG=>(kx ((bv9 (x9 hS) (bs9 0 0 3 58 [a1,a2,a3,b1,b2,b3,c1,c2,c3] hM (by kernel_rfl) hlies (dy3 hG.1 hG.2.1 hG.2.2.1) rfl (by simp) (by decide)) (fun x hx=>j9 (af5 hl.1 x hx))).mono fun v' w' h=>⟨by rw [h.1,l7 n1]; rfl,h.2⟩))) ?_
 refine O6 (.one (.bb false)) rfl (fun β S w hS hM hs hw hG=>(kx ((bv9 (x9 hS) (bs9 0 3 3 58 [a1,a2,a3,b1,b2,b3,c1,c2,c3] hM (by kernel_rfl) hlies (dy3 hG.2.2.2.1 hG.2.2.2.2.1 hG.2.2.2.2.2.1) rfl (by simp) (by decide)) (fun x hx=>j9 (af5 hl.2.1 x hx))).mono fun v' w' h=>⟨by rw [h.1,l7 n2]; rfl,h.2⟩))) ?_
 refine O6 (.one (.bb false)) rfl (fun β S w hS hM hs hw hG=>(kx ((bv9 (x9 hS) (bs9 0 6 3 58 [a1,a2,a3,b1,b2,b3,c1,c2,c3] hM (by kernel_rfl) hlies (dy3 hG.2.2.2.2.2.2.1 hG.2.2.2.2.2.2.2.1 hG.2.2.2.2.2.2.2.2) rfl (by simp) (by decide)) (fun x hx=>j9 (af5 hl.2.2 x hx))).mono fun v' w' h=>⟨by rw [h.1,l7 n3]; rfl,h.2⟩))) ?_
 refine B0 (fun x0=>.one (.ag 4 x0)) (fun x0=>qG x0 (m.det)) (fun _ _ _ h=>⟨h.ok,rfl⟩) (fun β S w hS hs hw hG=>(kx (du9 hS ⟨_,_,_,_,_,_,_,_,_,rfl,⟨hG.1,hG.2.1,hG.2.2.1,hG.2.2.2.1,hG.2.2.2.2.1,hG.2.2.2.2.2.1,hG.2.2.2.2.2.2.1,hG.2.2.2.2.2.2.2.1,hG.2.2.2.2.2.2.2.2⟩⟩ hl (by omega)))) ?_
 intro d
 refine B6 (.one (.int .i64 m.det.num.sign)) rfl (fun β S w hS hs hw hG=>(kx (bx1 hG.1))) ?_
 refine Z8 (p:=m.det.num.sign = 0) (fun h0=>?_) (fun h0=>?_)
 ·exact o6 (.int .i64 60) rfl (fun S w hs hw hG=>⟨by rw [if_pos (a39.1 h0)],hw⟩)
 exact o6 (.int .i64 0) rfl (fun S w hs hw hG=>⟨by rw [if_neg fun e=>h0 (a39.2 e)],hw⟩)
section
variable {c : Cx} {st : St} {G : Gh} {all : List Oper} {K : List HRec → Prop} {acc : List HRec} {ops : List Oper}
theorem b92 (u : (Nat → Value) → Value) (V : Value) (n : Nat) (i : Int) (sz : Nat) (hc : c.Ok) (hok : ∀ η,ar5 all st acc ops η = true) (hq : ∀ η,dj3 c st acc ops η = some (u η,n,i,sz)) (h0 : 0 ≤ i) (h1 : i < n)
  (h : ∀ β η S w,Mem c.bs st.hp β w → Keeps c.K c.w0 w → G.p S w → depsH acc (opH ops).after.toList η S w → ∃ b k,u η = .pointer (some ⟨b,k,none⟩) ∧ V = A5 (u η) (i.toNat * sz))
  (k : Hd c st G all K (.spec ((opH ops).dst.getD 0) (fun x=>.one (.val x)) (fun x=>Q5 (x = V)) :: acc) (ops.drop 1)) : Hd c st G all K acc ops:=by
 refine a54 (fun x=>.one (.val x)) (fun x=>Q5 (x = V)) hok (fun β η S w F m ty hkn hup hM hS hw hG hd=>?_) k
 have hq:=hq η
 obtain ⟨b,k',hu,hV⟩:=h β η S w hM hw hG hd
 generalize u η = uu at hq hu hV
 unfold dj3 at hq
 split at hq <;> first | (cases hq; done) | skip
 rename_i T x ix hop
 split at hq <;> first | (cases hq; done) | skip
 rename_i v kd z n' e hx hix hk
 cases hte : c.E.get e with
 | none=>rw [hte] at hq; cases hq
 | some te=>
  rw [hte] at hq
  simp only [Option.map_some,Option.some.injEq,Prod.mk.injEq] at hq
  obtain ⟨rfl,rfl,rfl,rfl⟩:=hq
  have hkd:=D8 (t:=T) hc.env
  rw [hk] at hkd
  have hkd' : c.P.underlying T = some (.array n' e):=hkd
  obtain ⟨zz,hty,_⟩:=(hc.env.get hte).ty
  rw [hop] at hkn ⊢
  have g1 : ev F x = .pointer (some ⟨b,k',none⟩):=by rw [(hkn x (by simp [Op.operands]) _ hx).1]; exact hu
  have g2:=(hkn ix (by simp [Op.operands]) _ hix).1
  refine ⟨A5 v (z.toNat * te.size),?_,rfl,aw0 _ _,hV.symm⟩
  rw [hu]
  intro d pos aft g
  simp [execOp,g1,g2,SV.den,Ch.den,Instr.indexAt,asIntOf,run_underlying hkd',Instr.sureAddr,h0,h1,hty.runSize w,R4,A5]
end
def M3.rows (m : M3) : List T3:=[m.a,m.b,m.c]
def MapV (S : Nat → Prop) (w : World) (v : Value) (m : M3) : Prop:=(SV.one (.ag 27 v)).Ok 0 ∧ ∃ vs,v.cells.toList = A3 vs ∧ ElsV true 9 ay0 S w vs m.rows
abbrev A4 (v : Value) (m : M3) : Gh:=⟨fun S w=>MapV S w v m,fun ⟨o,vs,h1,h2⟩ k=>⟨o,vs,h1,(bm2 true 9 ay0 vs m.rows).keep h2 k⟩,fun ⟨o,vs,h1,h2⟩ k=>⟨o,vs,h1,(bm2 true 9 ay0 vs m.rows).mono h2 k⟩⟩
theorem MapV.ok {S : Nat → Prop} {w : World} {v : Value} {m : M3} (h : MapV S w v m) : (SV.one (.ag 27 v)).Ok 0:=h.1
def MapP (S : Nat → Prop) (w : World) (u : Value) (m : M3) : Prop:=∃ vs,At S w u (A3 vs) ∧ ElsV true 9 ay0 S w vs m.rows
abbrev b93 (u : Value) (m : M3) : Gh:=⟨fun S w=>MapP S w u m,fun ⟨vs,h1,h2⟩ k=>⟨vs,h1.keep k,(bm2 true 9 ay0 vs m.rows).keep h2 k⟩,fun ⟨vs,h1,h2⟩ k=>⟨vs,h1.mono k,(bm2 true 9 ay0 vs m.rows).mono h2 k⟩⟩
section
variable {S : Nat → Prop} {w : World} {u : Value} {m : M3}
theorem MapP.ptr (h : MapP S w u m) : ∃ b k,u = .pointer (some ⟨b,k,none⟩):=by
 obtain ⟨vs,⟨b,o,_,_,_,h1,_⟩,_⟩:=h
 exact ⟨b,o,h1⟩
theorem MapP.el (h : MapP S w u m) {i : Nat} {t : T3} {p : Value} (hi : m.rows[i]? = some t) (hp : p = A5 u (i * 9)) : ∃ S' x,M2 true 9 x ∧ At S' w p x.cells.toList ∧ (o8 x t).p S w:=by
 subst hp
 obtain ⟨vs,h1,h2⟩:=h
 have hl : i < vs.length:=by rw [h2.len]; exact (List.getElem?_eq_some_iff.1 hi).1
 have hx : vs[i]? = some vs[i]:=List.getElem?_eq_getElem hl
 exact ⟨S,vs[i],h2.lies _ (List.getElem_mem _),h1.part h2.lies hx,h2.el i t _ hi hx⟩
theorem U3 {u : Value} {a b : Nat} (h : ∃ g k,u = .pointer (some ⟨g,k,none⟩)) : A5 (A5 u a) b = A5 u (a + b):=by
 obtain ⟨g,k,rfl⟩:=h
 simp [A5,Nat.add_assoc]
theorem MapP.num (h : MapP S w u m) {r j : Nat} {t : T3} {q : Rat} {p : Value} (hr : m.rows[r]? = some t) (hj : t.list[j]? = some q) (hp : p = A5 u (r * 9 + j * 3)) : ∃ S' x,M2 true 3 x ∧ At S' w p x.cells.toList ∧ (l6 x q).p S w:=by
 subst hp
 obtain ⟨S',y,_,h2,a,b,c,hy,ha,hb,hc⟩:=h.el hr rfl
 have hl : ∀ x ∈ [a,b,c],M2 true 3 x:=by
  intro x hx
  simp only [List.mem_cons,List.not_mem_nil,or_false] at hx
  rcases hx with rfl | rfl | rfl
  ·exact ha.lies
  ·exact hb.lies
  exact hc.lies
 rw [hy,aj4 ha.lies hb.lies hc.lies] at h2
 have key : ∀ {x : Value},[a,b,c][j]? = some x → RatV S w x q → ∃ S' x,M2 true 3 x ∧ At S' w (A5 u (r * 9 + j * 3)) x.cells.toList ∧ (l6 x q).p S w:=fun {x} hx hq=>by
  have h3:=h2.part hl hx
  rw [U3 h.ptr] at h3
  exact ⟨S',x,hq.lies,h3,hq⟩
 match j,hj with
 | 0,hj=>simp [T3.list] at hj; subst hj; exact key rfl ha
 | 1,hj=>simp [T3.list] at hj; subst hj; exact key rfl hb
 | 2,hj=>simp [T3.list] at hj; subst hj; exact key rfl hc
 | j + 3,hj=>simp [T3.list] at hj
theorem by9 {v : Value} {T : TypeId} (h : (cs9 u T (d6 (fun _=>0) [.ag 27 v])).p S w) (hv : MapV S w v m) : MapP S w u m:=by
 obtain ⟨b,rfl,hs,hB⟩:=h
 rw [ae1] at hB
 obtain ⟨_,vs,e1,e2⟩:=hv
 refine ⟨vs,?_,e2⟩
 rw [← e1]
 exact ⟨b,0,v.cells.toList.toArray,T,(0,0),rfl,hs,hB,by simp,by rw [List.drop_zero]; exact List.take_of_length_le (Nat.le_refl _)⟩
end
def M3.mnr (m : M3) (k : Nat) : Rat:=[(m.b.cross m.c).x,(m.b.cross m.c).y,(m.b.cross m.c).z,(m.c.cross m.a).x,(m.c.cross m.a).y,(m.c.cross m.a).z,(m.a.cross m.b).x,(m.a.cross m.b).y,(m.a.cross m.b).z].getD k 0
def az0 (m : M3) (k : Nat) (x : List Value) : Gh:=(Q5 (x = [.agg #[.int .i64 ((k / 3 : Nat) : Int),.int .i64 ((k % 3 : Nat) : Int)],x.getD 1 undef])).and (l6 (x.getD 1 undef) (m.mnr k))
theorem b87 {S : Nat → Prop} {w : World} {u : Value} {m : M3} {k n0 : Nat} (hn0 : n0 ≤ w.heap.size) (o : u.oneCell' = true) (h : MapP S w u m) (hk : ml m k) (hk2 : 2 * (2 * k + 1) + 1 ≤ 3344) : dt7 prog 161 [u] (az0 m) 9 n0 S w:=by
 refine dr9 (E:=env) (ls:=[.one (.val u)]) (G:=(b93 u m).and Gh.nil) hn0 func161 rfl rfl rfl ⟨o,trivial⟩ rfl ⟨h,trivial⟩ ?_
 intro l W T0 J S0 hS hl q hB
 refine bg0 ⟨b9,hS,hl⟩ (by kernel_rfl) ?_
 refine G7 13 ⟨b9,hS,hl⟩ ?_
 refine b7 3 ?_
 refine al8 u 3 1 9 ⟨b9,hS,hl⟩ (fun η=>(by kernel_rfl)) (fun η=>(by kernel_rfl)) (by decide) (by decide) (fun β η S w hM hw hG hd=>hG.1.ptr) ?_
 refine S8 (fun η=>η 3) 42 9 true (fun x0=>.one (.ag 9 x0)) (fun x0=>o8 x0 (m.b)) ⟨b9,hS,hl⟩ (fun β η S w hM hw hG hd=>hG.1.el (i:=1) rfl (p6 hd 3 : (Q5 ((η 3) = A5 u (Int.toNat 1 * 9))).p S w)) ?_
 refine b7 3 ?_
 refine al8 u 3 2 9 ⟨b9,hS,hl⟩ (fun η=>(by kernel_rfl)) (fun η=>(by kernel_rfl)) (by decide) (by decide) (fun β η S w hM hw hG hd=>hG.1.ptr) ?_
 refine S8 (fun η=>η 8) 42 9 true (fun x0=>.one (.ag 9 x0)) (fun x0=>o8 x0 (m.c)) ⟨b9,hS,hl⟩ (fun β η S w hM hw hG hd=>hG.1.el (i:=2) rfl (p6 hd 8 : (Q5 ((η 8) = A5 u (Int.toNat 2 * 9))).p S w)) ?_
 refine h_1 (fun x0=>.agg [.ag 3 (cel x0 0 3),.ag 3 (cel x0 3 3),.ag 3 (cel x0 6 3)]) (fun x0=>O5 x0 ((m.b.cross m.c))) (fun η=>(by kernel_rfl)) (fun _ _ _ h=>M0 h) (fun β η S w hS hs hw hG hd=>have h:=hG.1; (kx ((S2 hS (p6 hd 4 : (o8 (η 4) (m.b)).p S w) (p6 hd 9 : (o8 (η 9) (m.c)).p S w) hk.2.1 hk.2.2 (by omega)).mono fun v' w' h=>⟨h.1,a89 h.2⟩))) ?_
 refine b7 2 ?_
 refine j3 [true,false,false,false,false] ((b93 u m).and (Gh.nil)) (by exact fun _ _ h=>⟨h.1,trivial⟩) (fun g η=>(O5 (η 10) ((m.b.cross m.c))).and g) (fun g η=>(by kernel_rfl)) ?_
 intro η_1
 refine bg0 ⟨b9,hS,hl⟩ (by kernel_rfl) ?_
 refine I0 ⟨b9,hS,hl⟩ (ac4 q 0 T0 (fun _=>False) (fun _=>none) 0 [.agg #[.int .i64 0,.int .i64 0],cel (η_1 10) 0 3] ⟨b9,hS,hl⟩ rfl rfl hB (by decide) (by kernel_rfl) (by kernel_rfl) (fun β S w hw hG=>⟨(by kernel_rfl),⟨rfl,hG.1.2.1⟩,fun b hb=>hb.elim⟩) (fun T1 V1 C1=>?_) (fun T1 V1 C1=>?_))
 rotate_left
 ·exact ae8 (.tuple #[]) ⟨b9,hS,hl⟩ (by kernel_rfl) rfl (by kernel_rfl) (fun β=>rfl) (fun β S w hM hs hw hG=>Z3 (b:=0) (f:=false) (T:=T1) (k:=0 + 1) hM (by kernel_rfl) hG.1 hw (fun h=>by cases h))
 refine I0 ⟨b9,hS,hl⟩ (ac4 q 0 T1 V1 C1 1 [.agg #[.int .i64 0,.int .i64 1],cel (η_1 10) 3 3] ⟨b9,hS,hl⟩ rfl rfl hB (by decide) (by kernel_rfl) (by kernel_rfl) (fun β S w hw hG=>⟨(by kernel_rfl),⟨rfl,hG.2.1.2.2.1⟩,hG.1⟩) (fun T2 V2 C2=>?_) (fun T2 V2 C2=>?_))
 rotate_left
 ·exact ae8 (.tuple #[]) ⟨b9,hS,hl⟩ (by kernel_rfl) rfl (by kernel_rfl) (fun β=>rfl) (fun β S w hM hs hw hG=>Z3 (b:=0) (f:=false) (T:=T2) (k:=1 + 1) hM (by kernel_rfl) hG.1 hw (fun h=>by cases h))
 refine I0 ⟨b9,hS,hl⟩ (ac4 q 0 T2 V2 C2 2 [.agg #[.int .i64 0,.int .i64 2],cel (η_1 10) 6 3] ⟨b9,hS,hl⟩ rfl rfl hB (by decide) (by kernel_rfl) (by kernel_rfl) (fun β S w hw hG=>⟨(by kernel_rfl),⟨rfl,hG.2.2.1.2.2.2⟩,hG.1⟩) (fun T3 V3 C3=>?_) (fun T3 V3 C3=>?_))
 rotate_left
 ·exact ae8 (.tuple #[]) ⟨b9,hS,hl⟩ (by kernel_rfl) rfl (by kernel_rfl) (fun β=>rfl) (fun β S w hM hs hw hG=>Z3 (b:=0) (f:=false) (T:=T3) (k:=2 + 1) hM (by kernel_rfl) hG.1 hw (fun h=>by cases h))
 refine bg0 ⟨b9,hS,hl⟩ (by kernel_rfl) ?_
 refine G7 13 ⟨b9,hS,hl⟩ ?_
 refine b7 3 ?_
 refine al8 u 3 2 9 ⟨b9,hS,hl⟩ (fun η=>(by kernel_rfl)) (fun η=>(by kernel_rfl)) (by decide) (by decide) (fun β η S w hM hw hG hd=>hG.2.2.2.2.1.ptr) ?_
 refine S8 (fun η=>η 3) 42 9 true (fun x0=>.one (.ag 9 x0)) (fun x0=>o8 x0 (m.c)) ⟨b9,hS,hl⟩ (fun β η S w hM hw hG hd=>hG.2.2.2.2.1.el (i:=2) rfl (p6 hd 3 : (Q5 ((η 3) = A5 u (Int.toNat 2 * 9))).p S w)) ?_
 refine b7 3 ?_
 refine al8 u 3 0 9 ⟨b9,hS,hl⟩ (fun η=>(by kernel_rfl)) (fun η=>(by kernel_rfl)) (by decide) (by decide) (fun β η S w hM hw hG hd=>hG.2.2.2.2.1.ptr) ?_
 refine S8 (fun η=>η 8) 42 9 true (fun x0=>.one (.ag 9 x0)) (fun x0=>o8 x0 (m.a)) ⟨b9,hS,hl⟩ (fun β η S w hM hw hG hd=>hG.2.2.2.2.1.el (i:=0) rfl (p6 hd 8 : (Q5 ((η 8) = A5 u (Int.toNat 0 * 9))).p S w)) ?_
 refine h_1 (fun x0=>.agg [.ag 3 (cel x0 0 3),.ag 3 (cel x0 3 3),.ag 3 (cel x0 6 3)]) (fun x0=>O5 x0 ((m.c.cross m.a))) (fun η=>(by kernel_rfl)) (fun _ _ _ h=>M0 h) (fun β η S w hS hs hw hG hd=>have h:=hG.2.2.2.2.1; (kx ((S2 hS (p6 hd 4 : (o8 (η 4) (m.c)).p S w) (p6 hd 9 : (o8 (η 9) (m.a)).p S w) hk.2.2 hk.1 (by omega)).mono fun v' w' h=>⟨h.1,a89 h.2⟩))) ?_
 refine b7 2 ?_
 refine j3 [true,false,false,false,false] ((b88 V3 C3).and ((b93 u m).and (Gh.nil))) (by exact fun _ _ h=>⟨h.1,h.2.2.2.2.1,trivial⟩) (fun g η=>(O5 (η 10) ((m.c.cross m.a))).and g) (fun g η=>(by kernel_rfl)) ?_
 intro η_2
 refine bg0 ⟨b9,hS,hl⟩ (by kernel_rfl) ?_
 refine I0 ⟨b9,hS,hl⟩ (ac4 q 0 T3 V3 C3 3 [.agg #[.int .i64 1,.int .i64 0],cel (η_2 10) 0 3] ⟨b9,hS,hl⟩ rfl rfl hB (by decide) (by kernel_rfl) (by kernel_rfl) (fun β S w hw hG=>⟨(by kernel_rfl),⟨rfl,hG.1.2.1⟩,hG.2.1⟩) (fun T4 V4 C4=>?_) (fun T4 V4 C4=>?_))
 rotate_left
 ·exact ae8 (.tuple #[]) ⟨b9,hS,hl⟩ (by kernel_rfl) rfl (by kernel_rfl) (fun β=>rfl) (fun β S w hM hs hw hG=>Z3 (b:=0) (f:=false) (T:=T4) (k:=3 + 1) hM (by kernel_rfl) hG.1 hw (fun h=>by cases h))
 refine I0 ⟨b9,hS,hl⟩ (ac4 q 0 T4 V4 C4 4 [.agg #[.int .i64 1,.int .i64 1],cel (η_2 10) 3 3] ⟨b9,hS,hl⟩ rfl rfl hB (by decide) (by kernel_rfl) (by kernel_rfl) (fun β S w hw hG=>⟨(by kernel_rfl),⟨rfl,hG.2.1.2.2.1⟩,hG.1⟩) (fun T5 V5 C5=>?_) (fun T5 V5 C5=>?_))
 rotate_left
 ·exact ae8 (.tuple #[]) ⟨b9,hS,hl⟩ (by kernel_rfl) rfl (by kernel_rfl) (fun β=>rfl) (fun β S w hM hs hw hG=>Z3 (b:=0) (f:=false) (T:=T5) (k:=4 + 1) hM (by kernel_rfl) hG.1 hw (fun h=>by cases h))
 refine I0 ⟨b9,hS,hl⟩ (ac4 q 0 T5 V5 C5 5 [.agg #[.int .i64 1,.int .i64 2],cel (η_2 10) 6 3] ⟨b9,hS,hl⟩ rfl rfl hB (by decide) (by kernel_rfl) (by kernel_rfl) (fun β S w hw hG=>⟨(by kernel_rfl),⟨rfl,hG.2.2.1.2.2.2⟩,hG.1⟩) (fun T6 V6 C6=>?_) (fun T6 V6 C6=>?_))
 rotate_left
 ·exact ae8 (.tuple #[]) ⟨b9,hS,hl⟩ (by kernel_rfl) rfl (by kernel_rfl) (fun β=>rfl) (fun β S w hM hs hw hG=>Z3 (b:=0) (f:=false) (T:=T6) (k:=5 + 1) hM (by kernel_rfl) hG.1 hw (fun h=>by cases h))
 refine bg0 ⟨b9,hS,hl⟩ (by kernel_rfl) ?_
 refine G7 13 ⟨b9,hS,hl⟩ ?_
 refine b7 3 ?_
 refine al8 u 3 0 9 ⟨b9,hS,hl⟩ (fun η=>(by kernel_rfl)) (fun η=>(by kernel_rfl)) (by decide) (by decide) (fun β η S w hM hw hG hd=>hG.2.2.2.2.2.1.ptr) ?_
 refine S8 (fun η=>η 3) 42 9 true (fun x0=>.one (.ag 9 x0)) (fun x0=>o8 x0 (m.a)) ⟨b9,hS,hl⟩ (fun β η S w hM hw hG hd=>hG.2.2.2.2.2.1.el (i:=0) rfl (p6 hd 3 : (Q5 ((η 3) = A5 u (Int.toNat 0 * 9))).p S w)) ?_
 refine b7 3 ?_
 refine al8 u 3 1 9 ⟨b9,hS,hl⟩ (fun η=>(by kernel_rfl)) (fun η=>(by kernel_rfl)) (by decide) (by decide) (fun β η S w hM hw hG hd=>hG.2.2.2.2.2.1.ptr) ?_
 refine S8 (fun η=>η 8) 42 9 true (fun x0=>.one (.ag 9 x0)) (fun x0=>o8 x0 (m.b)) ⟨b9,hS,hl⟩ (fun β η S w hM hw hG hd=>hG.2.2.2.2.2.1.el (i:=1) rfl (p6 hd 8 : (Q5 ((η 8) = A5 u (Int.toNat 1 * 9))).p S w)) ?_
 refine h_1 (fun x0=>.agg [.ag 3 (cel x0 0 3),.ag 3 (cel x0 3 3),.ag 3 (cel x0 6 3)]) (fun x0=>O5 x0 ((m.a.cross m.b))) (fun η=>(by kernel_rfl)) (fun _ _ _ h=>M0 h) (fun β η S w hS hs hw hG hd=>have h:=hG.2.2.2.2.2.1; (kx ((S2 hS (p6 hd 4 : (o8 (η 4) (m.a)).p S w) (p6 hd 9 : (o8 (η 9) (m.b)).p S w) hk.1 hk.2.1 (by omega)).mono fun v' w' h=>⟨h.1,a89 h.2⟩))) ?_
 refine b7 2 ?_
 refine j3 [true,false,false,false,false] ((b88 V6 C6).and (Gh.nil)) (by exact fun _ _ h=>⟨h.1,trivial⟩) (fun g η=>(O5 (η 10) ((m.a.cross m.b))).and g) (fun g η=>(by kernel_rfl)) ?_
 intro η_3
 refine bg0 ⟨b9,hS,hl⟩ (by kernel_rfl) ?_
 refine I0 ⟨b9,hS,hl⟩ (ac4 q 0 T6 V6 C6 6 [.agg #[.int .i64 2,.int .i64 0],cel (η_3 10) 0 3] ⟨b9,hS,hl⟩ rfl rfl hB (by decide) (by kernel_rfl) (by kernel_rfl) (fun β S w hw hG=>⟨(by kernel_rfl),⟨rfl,hG.1.2.1⟩,hG.2.1⟩) (fun T7 V7 C7=>?_) (fun T7 V7 C7=>?_))
 rotate_left
 ·exact ae8 (.tuple #[]) ⟨b9,hS,hl⟩ (by kernel_rfl) rfl (by kernel_rfl) (fun β=>rfl) (fun β S w hM hs hw hG=>Z3 (b:=0) (f:=false) (T:=T7) (k:=6 + 1) hM (by kernel_rfl) hG.1 hw (fun h=>by cases h))
 refine I0 ⟨b9,hS,hl⟩ (ac4 q 0 T7 V7 C7 7 [.agg #[.int .i64 2,.int .i64 1],cel (η_3 10) 3 3] ⟨b9,hS,hl⟩ rfl rfl hB (by decide) (by kernel_rfl) (by kernel_rfl) (fun β S w hw hG=>⟨(by kernel_rfl),⟨rfl,hG.2.1.2.2.1⟩,hG.1⟩) (fun T8 V8 C8=>?_) (fun T8 V8 C8=>?_))
 rotate_left
 ·exact ae8 (.tuple #[]) ⟨b9,hS,hl⟩ (by kernel_rfl) rfl (by kernel_rfl) (fun β=>rfl) (fun β S w hM hs hw hG=>Z3 (b:=0) (f:=false) (T:=T8) (k:=7 + 1) hM (by kernel_rfl) hG.1 hw (fun h=>by cases h))
 refine I0 ⟨b9,hS,hl⟩ (ac4 q 0 T8 V8 C8 8 [.agg #[.int .i64 2,.int .i64 2],cel (η_3 10) 6 3] ⟨b9,hS,hl⟩ rfl rfl hB (by decide) (by kernel_rfl) (by kernel_rfl) (fun β S w hw hG=>⟨(by kernel_rfl),⟨rfl,hG.2.2.1.2.2.2⟩,hG.1⟩) (fun T9 V9 C9=>?_) (fun T9 V9 C9=>?_))
 rotate_left
 ·exact ae8 (.tuple #[]) ⟨b9,hS,hl⟩ (by kernel_rfl) rfl (by kernel_rfl) (fun β=>rfl) (fun β S w hM hs hw hG=>Z3 (b:=0) (f:=false) (T:=T9) (k:=8 + 1) hM (by kernel_rfl) hG.1 hw (fun h=>by cases h))
 exact ae8 (.tuple #[]) ⟨b9,hS,hl⟩ (by kernel_rfl) rfl (by kernel_rfl) (fun β=>rfl) (fun β S w hM hs hw hG=>Z3 (b:=0) (f:=true) (T:=T9) (k:=9) hM (by kernel_rfl) hG.1 hw (fun _=>rfl))
def itV (u : Value) : Value:=.func (.func 161) #[] #[u]
def dd6 (v : Value) : Value:=match v with | .func _ _ caps=>caps.getD 0 undef | _=>undef
def itS (v : Value) : SV:=.one (.val (itV (dd6 v)))
abbrev itG (v : Value) (m : M3) (n0 : Nat) : Gh:=(Q5 (v = itV (dd6 v))).and (dp3 prog 161 [dd6 v] (az0 m) 9 n0)
theorem c42 {S : Nat → Prop} {w : World} {v : Value} {m : M3} {n0 : Nat} (h : (itG v m n0).p S w) : (itS v).Ok 0 ∧ (itS v).den (fun _=>0) = v:=⟨rfl,h.1.symm⟩
theorem bo9 {S : Nat → Prop} {w : World} {v : Value} {m : M3} {k n0 : Nat} (hn0 : n0 ≤ w.heap.size) (hS : Up S w) (h : MapV S w v m) (hk : ml m k) (hk2 : 2 * (2 * k + 1) + 1 ≤ 3344) :
  Gives prog 129 [v] w fun v' w'=>Ext w w' ∧ (itG v' m n0).p S w':=by
 refine n8 (E:=env) (S0:=S) (G:=(A4 v m)) (l:=[.one (.ag 27 v)]) func129 rfl rfl rfl ⟨h.ok,trivial⟩ rfl h ?_
 refine o5 (K3 0 63 ([.ag 27 v]) (fun u1=>?_))
 exact o6 (itV u1) rfl (fun S w hs hw hG=>⟨hw,(itG (itV u1) m n0).mono ⟨rfl,Nat.le_trans hn0 hw.size,b87 (Nat.le_trans hn0 hw.size) (L6 hG.1) (by9 hG.1 hG.2) hk hk2⟩ fun k _ hk=>hs k hk⟩)
noncomputable def y5 (z : Int) : Int:=IntKind.u64.wrap z % 7 - 3
theorem W7 (z : Int) : -3 ≤ y5 z ∧ y5 z ≤ 3:=by unfold y5; omega
theorem K0 {S : Nat → Prop} {w : World} {z : Int} (hS : Up S w) :
  Gives prog 29 [.int .i64 z,.int .i64 3] w fun v' w'=>v' = .int .i64 (y5 z) ∧ Ext w w':=by
 have hz:=a98 z
 refine n8 (E:=env) (S0:=S) (G:=Gh.nil) (l:=[.one (.int .i64 z),.one (.lit .i64 3)]) func29 rfl rfl rfl ⟨trivial,trivial,trivial⟩ rfl trivial ?_
 refine am7 (ps:=[InR .i64 (IntKind.u64.wrap z % 7 - 3),InR .i64 (IntKind.u64.wrap z % 7),0 ≤ IntKind.u64.wrap z ∧ (0 : Int) < 7]) (by simp only [K7,InR,and_true]; omega) ?_
 exact o6 (.int .i64 (IntKind.u64.wrap z % 7 - 3)) rfl (fun S w hs hw hG=>⟨rfl,hw⟩)
theorem H2 {z : Int} (h : z.natAbs < 1000000000) : rl (z : Rat) 1:=⟨L5 (k:=1) (by show z.natAbs < _; omega),L5 (k:=1) (show 1 < 1000000000 ^ 1 by decide)⟩
theorem dm7 {z : Int} (h : z.natAbs < 1000000000) : I63 z:=by unfold I63; omega
theorem dw5 : rl (1 : Rat) 1:=N7 (by decide) (by decide)
theorem br9 : rl (0 : Rat) 1:=N7 (by decide) (by decide)
def d37 (a : Nat → Int) : Value:=.agg #[.int .i64 (a 0),.int .i64 (a 1),.int .i64 (a 2),.int .i64 (a 3),.int .i64 (a 4),.int .i64 (a 5),.int .i64 (a 6),.int .i64 (a 7),.int .i64 (a 8)]
theorem dk4 {a : Nat → Int} {m : Nat} : (SV.agg [.int .i64 (a 0),.int .i64 (a 1),.int .i64 (a 2),.int .i64 (a 3),.int .i64 (a 4),.int .i64 (a 5),.int .i64 (a 6),.int .i64 (a 7),.int .i64 (a 8)]).Ok m:=H0 ⟨trivial,trivial,trivial,trivial,trivial,trivial,trivial,trivial,trivial,trivial⟩
noncomputable def av8 (a : Nat → Int) : M3:=⟨⟨((y5 (a 0) : Int) : Rat),((y5 (a 1) : Int) : Rat),((y5 (a 2) : Int) : Rat)⟩,⟨((y5 (a 3) : Int) : Rat),((y5 (a 4) : Int) : Rat),((y5 (a 5) : Int) : Rat)⟩,⟨((y5 (a 6) : Int) : Rat),((y5 (a 7) : Int) : Rat),((y5 (a 8) : Int) : Rat)⟩⟩
def d17 : M3:=⟨⟨1,0,0⟩,⟨0,1,0⟩,⟨0,0,1⟩⟩
noncomputable def ai8 (a : Nat → Int) : M3:=if (av8 a).det = 0 then d17 else av8 a
theorem c01 (a : Nat → Int) : ml (av8 a) 1:=by
 have h : ∀ i,rl ((y5 (a i) : Int) : Rat) 1:=fun i=>H2 (by have:=W7 (a i); omega)
 exact ⟨⟨h 0,h 1,h 2⟩,⟨h 3,h 4,h 5⟩,⟨h 6,h 7,h 8⟩⟩
theorem b78 (a : Nat → Int) : (ai8 a).det ≠ 0:=by
 unfold ai8
 split
 ·decide +kernel
 assumption
noncomputable def sm3 (a : Nat → Int) (i : Nat) : Rat:=((y5 (a i) : Int) : Rat)
theorem co6 {S : Nat → Prop} {w : World} {a : Nat → Int} (hS : Up S w) :
  Gives prog 26 [d37 a] w fun v' w'=>Ext w w' ∧ QMapV S w' v' (ai8 a):=by
 have hi : ∀ i,I63 (y5 (a i)):=fun i=>dm7 (by have:=W7 (a i); omega)
 refine n8 (E:=env) (S0:=S) (G:=Gh.nil) (l:=[.agg [.int .i64 (a 0),.int .i64 (a 1),.int .i64 (a 2),.int .i64 (a 3),.int .i64 (a 4),.int .i64 (a 5),.int .i64 (a 6),.int .i64 (a 7),.int .i64 (a 8)]]) func26 rfl rfl rfl ⟨dk4,trivial⟩ rfl trivial ?_
 refine n9 ?_
 refine j7 12 ?_
 refine b7 8 ?_
 refine h_K (.one (.int .i64 (y5 (a 0)))) (fun η=>(by kernel_rfl)) (J2 rfl) rfl (fun β η S w hS hs hw hG hd=>(kx (K0 hS))) ?_
 refine o9 (fun x0=>.one (.ag 4 x0)) (fun x0=>qG x0 ((sm3 a 0))) (fun β η S w hS hs hw hG hd=>(kx (H6 hS (hi 0).1 (hi 0).2))) ?_
 refine b7 2 ?_
 refine j3 [true,true] (Gh.nil) (by exact fun _ _ h=>trivial) (fun g η=>(qG (η 9) ((sm3 a 0))).and ((Gh.nil).and g)) (fun g η=>(by kernel_rfl)) ?_
 intro η_1
 refine n9 ?_
 refine j7 12 ?_
 refine b7 8 ?_
 refine h_K (.one (.int .i64 (y5 (a 1)))) (fun η=>(by kernel_rfl)) (J2 rfl) rfl (fun β η S w hS hs hw hG hd=>(kx (K0 hS))) ?_
 refine o9 (fun x0=>.one (.ag 4 x0)) (fun x0=>qG x0 ((sm3 a 1))) (fun β η S w hS hs hw hG hd=>(kx (H6 hS (hi 1).1 (hi 1).2))) ?_
 refine b7 2 ?_
 refine j3 [true,true] ((qG (η_1 9) ((sm3 a 0))).and (Gh.nil)) (by exact fun _ _ h=>⟨h.1,trivial⟩) (fun g η=>(qG (η 9) ((sm3 a 1))).and ((Gh.nil).and g)) (fun g η=>(by kernel_rfl)) ?_
 intro η_2
 refine n9 ?_
 refine j7 12 ?_
 refine b7 8 ?_
 refine h_K (.one (.int .i64 (y5 (a 2)))) (fun η=>(by kernel_rfl)) (J2 rfl) rfl (fun β η S w hS hs hw hG hd=>(kx (K0 hS))) ?_
 refine o9 (fun x0=>.one (.ag 4 x0)) (fun x0=>qG x0 ((sm3 a 2))) (fun β η S w hS hs hw hG hd=>(kx (H6 hS (hi 2).1 (hi 2).2))) ?_
 refine b7 2 ?_
 refine j3 [true,true] ((qG (η_2 9) ((sm3 a 1))).and ((qG (η_1 9) ((sm3 a 0))).and (Gh.nil))) (by exact fun _ _ h=>⟨h.1,h.2.2.1,trivial⟩) (fun g η=>(qG (η 9) ((sm3 a 2))).and ((Gh.nil).and g)) (fun g η=>(by kernel_rfl)) ?_
 intro η_3
 refine n9 ?_
 refine j7 12 ?_
 refine b7 8 ?_
 refine h_K (.one (.int .i64 (y5 (a 3)))) (fun η=>(by kernel_rfl)) (J2 rfl) rfl (fun β η S w hS hs hw hG hd=>(kx (K0 hS))) ?_
 refine o9 (fun x0=>.one (.ag 4 x0)) (fun x0=>qG x0 ((sm3 a 3))) (fun β η S w hS hs hw hG hd=>(kx (H6 hS (hi 3).1 (hi 3).2))) ?_
 refine b7 2 ?_
 refine j3 [true,true] ((qG (η_3 9) ((sm3 a 2))).and ((qG (η_2 9) ((sm3 a 1))).and ((qG (η_1 9) ((sm3 a 0))).and (Gh.nil)))) (by exact fun _ _ h=>⟨h.1,h.2.2.1,h.2.2.2.1,trivial⟩) (fun g η=>(qG (η 9) ((sm3 a 3))).and ((Gh.nil).and g)) (fun g η=>(by kernel_rfl)) ?_
 intro η_4
 refine n9 ?_
 refine j7 12 ?_
 refine b7 8 ?_
 refine h_K (.one (.int .i64 (y5 (a 4)))) (fun η=>(by kernel_rfl)) (J2 rfl) rfl (fun β η S w hS hs hw hG hd=>(kx (K0 hS))) ?_
 refine o9 (fun x0=>.one (.ag 4 x0)) (fun x0=>qG x0 ((sm3 a 4))) (fun β η S w hS hs hw hG hd=>(kx (H6 hS (hi 4).1 (hi 4).2))) ?_
 refine b7 2 ?_
 refine j3 [true,true] ((qG (η_4 9) ((sm3 a 3))).and ((qG (η_3 9) ((sm3 a 2))).and ((qG (η_2 9) ((sm3 a 1))).and ((qG (η_1 9) ((sm3 a 0))).and (Gh.nil))))) (by exact fun _ _ h=>⟨h.1,h.2.2.1,h.2.2.2.1,h.2.2.2.2.1,trivial⟩) (fun g η=>(qG (η 9) ((sm3 a 4))).and ((Gh.nil).and g)) (fun g η=>(by kernel_rfl)) ?_
 intro η_5
 refine n9 ?_
 refine j7 12 ?_
 refine b7 8 ?_
 refine h_K (.one (.int .i64 (y5 (a 5)))) (fun η=>(by kernel_rfl)) (J2 rfl) rfl (fun β η S w hS hs hw hG hd=>(kx (K0 hS))) ?_
 refine o9 (fun x0=>.one (.ag 4 x0)) (fun x0=>qG x0 ((sm3 a 5))) (fun β η S w hS hs hw hG hd=>(kx (H6 hS (hi 5).1 (hi 5).2))) ?_
 refine b7 2 ?_
 refine j3 [true,true] ((qG (η_5 9) ((sm3 a 4))).and ((qG (η_4 9) ((sm3 a 3))).and ((qG (η_3 9) ((sm3 a 2))).and ((qG (η_2 9) ((sm3 a 1))).and ((qG (η_1 9) ((sm3 a 0))).and (Gh.nil)))))) (by exact fun _ _ h=>⟨h.1,h.2.2.1,h.2.2.2.1,h.2.2.2.2.1,h.2.2.2.2.2.1,trivial⟩) (fun g η=>(qG (η 9) ((sm3 a 5))).and ((Gh.nil).and g)) (fun g η=>(by kernel_rfl)) ?_
 intro η_6
 refine n9 ?_
 refine j7 12 ?_
 refine b7 8 ?_
 refine h_K (.one (.int .i64 (y5 (a 6)))) (fun η=>(by kernel_rfl)) (J2 rfl) rfl (fun β η S w hS hs hw hG hd=>(kx (K0 hS))) ?_
 refine o9 (fun x0=>.one (.ag 4 x0)) (fun x0=>qG x0 ((sm3 a 6))) (fun β η S w hS hs hw hG hd=>(kx (H6 hS (hi 6).1 (hi 6).2))) ?_
 refine b7 2 ?_
 refine j3 [true,true] ((qG (η_6 9) ((sm3 a 5))).and ((qG (η_5 9) ((sm3 a 4))).and ((qG (η_4 9) ((sm3 a 3))).and ((qG (η_3 9) ((sm3 a 2))).and ((qG (η_2 9) ((sm3 a 1))).and ((qG (η_1 9) ((sm3 a 0))).and (Gh.nil))))))) (by exact fun _ _ h=>⟨h.1,h.2.2.1,h.2.2.2.1,h.2.2.2.2.1,h.2.2.2.2.2.1,h.2.2.2.2.2.2.1,trivial⟩) (fun g η=>(qG (η 9) ((sm3 a 6))).and ((Gh.nil).and g)) (fun g η=>(by kernel_rfl)) ?_
 intro η_7
 refine n9 ?_
 refine j7 12 ?_
 refine b7 8 ?_
 refine h_K (.one (.int .i64 (y5 (a 7)))) (fun η=>(by kernel_rfl)) (J2 rfl) rfl (fun β η S w hS hs hw hG hd=>(kx (K0 hS))) ?_
 refine o9 (fun x0=>.one (.ag 4 x0)) (fun x0=>qG x0 ((sm3 a 7))) (fun β η S w hS hs hw hG hd=>(kx (H6 hS (hi 7).1 (hi 7).2))) ?_
 refine b7 2 ?_
 refine j3 [true,true] ((qG (η_7 9) ((sm3 a 6))).and ((qG (η_6 9) ((sm3 a 5))).and ((qG (η_5 9) ((sm3 a 4))).and ((qG (η_4 9) ((sm3 a 3))).and ((qG (η_3 9) ((sm3 a 2))).and ((qG (η_2 9) ((sm3 a 1))).and ((qG (η_1 9) ((sm3 a 0))).and (Gh.nil)))))))) (by exact fun _ _ h=>⟨h.1,h.2.2.1,h.2.2.2.1,h.2.2.2.2.1,h.2.2.2.2.2.1,h.2.2.2.2.2.2.1,h.2.2.2.2.2.2.2.1,trivial⟩) (fun g η=>(qG (η 9) ((sm3 a 7))).and ((Gh.nil).and g)) (fun g η=>(by kernel_rfl)) ?_
 intro η_8
 refine n9 ?_
 refine j7 12 ?_
 refine b7 8 ?_
 refine h_K (.one (.int .i64 (y5 (a 8)))) (fun η=>(by kernel_rfl)) (J2 rfl) rfl (fun β η S w hS hs hw hG hd=>(kx (K0 hS))) ?_
 refine o9 (fun x0=>.one (.ag 4 x0)) (fun x0=>qG x0 ((sm3 a 8))) (fun β η S w hS hs hw hG hd=>(kx (H6 hS (hi 8).1 (hi 8).2))) ?_
 refine b7 2 ?_
 refine j3 [true,true] ((qG (η_8 9) ((sm3 a 7))).and ((qG (η_7 9) ((sm3 a 6))).and ((qG (η_6 9) ((sm3 a 5))).and ((qG (η_5 9) ((sm3 a 4))).and ((qG (η_4 9) ((sm3 a 3))).and ((qG (η_3 9) ((sm3 a 2))).and ((qG (η_2 9) ((sm3 a 1))).and ((qG (η_1 9) ((sm3 a 0))).and (Gh.nil))))))))) (by exact fun _ _ h=>⟨h.1,h.2.2.1,h.2.2.2.1,h.2.2.2.2.1,h.2.2.2.2.2.1,h.2.2.2.2.2.2.1,h.2.2.2.2.2.2.2.1,h.2.2.2.2.2.2.2.2.1,trivial⟩) (fun g η=>(qG (η 9) ((sm3 a 8))).and ((Gh.nil).and g)) (fun g η=>(by kernel_rfl)) ?_
 intro η_9
 refine B6 (.one (.int .i64 (if (av8 a).det = 0 then 60 else 0))) rfl (fun β S w hS hs hw hG=>(kx (b79 hS ⟨_,_,_,_,_,_,_,_,_,rfl,⟨hG.2.2.2.2.2.2.2.2.2.1,hG.2.2.2.2.2.2.2.2.1,hG.2.2.2.2.2.2.2.1,hG.2.2.2.2.2.2.1,hG.2.2.2.2.2.1,hG.2.2.2.2.1,hG.2.2.2.1,hG.2.2.1,hG.1⟩⟩ (c01 a) (by decide)))) ?_
 by_cases hd : (av8 a).det = 0
 ·refine W0 (p:=¬ (if (av8 a).det = 0 then (60 : Int) else 0) = 0) (by rw [if_pos hd]; decide) ?_
  refine n9 ?_
  refine j7 5 ?_
  refine b7 2 ?_
  refine o9 (fun x0=>.one (.ag 4 x0)) (fun x0=>qG x0 ((0 : Rat))) (fun β η S w hS hs hw hG hd=>(kx (af1 hS))) ?_
  refine b7 2 ?_
  refine j3 [false] (Gh.nil) (by exact fun _ _ h=>trivial) (fun g η=>g) (fun g η=>(by kernel_rfl)) ?_
  intro η_10
  refine n9 ?_
  refine j7 5 ?_
  refine b7 2 ?_
  refine o9 (fun x0=>.one (.ag 4 x0)) (fun x0=>qG x0 ((0 : Rat))) (fun β η S w hS hs hw hG hd=>(kx (af1 hS))) ?_
  refine b7 2 ?_
  refine j3 [true] (Gh.nil) (by exact fun _ _ h=>trivial) (fun g η=>(qG (η 2) ((0 : Rat))).and g) (fun g η=>(by kernel_rfl)) ?_
  intro η_11
  refine n9 ?_
  refine j7 5 ?_
  refine b7 2 ?_
  refine o9 (fun x0=>.one (.ag 4 x0)) (fun x0=>qG x0 ((0 : Rat))) (fun β η S w hS hs hw hG hd=>(kx (af1 hS))) ?_
  refine b7 2 ?_
  refine j3 [true] ((qG (η_11 2) ((0 : Rat))).and (Gh.nil)) (by exact fun _ _ h=>⟨h.1,trivial⟩) (fun g η=>(qG (η 2) ((0 : Rat))).and g) (fun g η=>(by kernel_rfl)) ?_
  intro η_12
  refine n9 ?_
  refine j7 5 ?_
  refine b7 2 ?_
  refine o9 (fun x0=>.one (.ag 4 x0)) (fun x0=>qG x0 ((1 : Rat))) (fun β η S w hS hs hw hG hd=>(kx (au5 hS))) ?_
  refine b7 2 ?_
  refine j3 [true] ((qG (η_12 2) ((0 : Rat))).and ((qG (η_11 2) ((0 : Rat))).and (Gh.nil))) (by exact fun _ _ h=>⟨h.1,h.2.1,trivial⟩) (fun g η=>(qG (η 2) ((1 : Rat))).and g) (fun g η=>(by kernel_rfl)) ?_
  intro η_13
  refine n9 ?_
  refine j7 5 ?_
  refine b7 2 ?_
  refine o9 (fun x0=>.one (.ag 4 x0)) (fun x0=>qG x0 ((0 : Rat))) (fun β η S w hS hs hw hG hd=>(kx (af1 hS))) ?_
  refine b7 2 ?_
  refine j3 [true] ((qG (η_13 2) ((1 : Rat))).and ((qG (η_12 2) ((0 : Rat))).and ((qG (η_11 2) ((0 : Rat))).and (Gh.nil)))) (by exact fun _ _ h=>⟨h.1,h.2.1,h.2.2.1,trivial⟩) (fun g η=>(qG (η 2) ((0 : Rat))).and g) (fun g η=>(by kernel_rfl)) ?_
  intro η_14
  refine n9 ?_
  refine j7 5 ?_
  refine b7 2 ?_
  refine o9 (fun x0=>.one (.ag 4 x0)) (fun x0=>qG x0 ((0 : Rat))) (fun β η S w hS hs hw hG hd=>(kx (af1 hS))) ?_
  refine b7 2 ?_
  refine j3 [false] ((qG (η_14 2) ((0 : Rat))).and ((qG (η_13 2) ((1 : Rat))).and ((qG (η_12 2) ((0 : Rat))).and ((qG (η_11 2) ((0 : Rat))).and (Gh.nil))))) (by exact fun _ _ h=>⟨h.1,h.2.1,h.2.2.1,h.2.2.2.1,trivial⟩) (fun g η=>g) (fun g η=>(by kernel_rfl)) ?_
  intro η_15
  refine n9 ?_
  refine j7 5 ?_
  refine b7 2 ?_
  refine o9 (fun x0=>.one (.ag 4 x0)) (fun x0=>qG x0 ((0 : Rat))) (fun β η S w hS hs hw hG hd=>(kx (af1 hS))) ?_
  refine b7 2 ?_
  refine j3 [true] ((qG (η_14 2) ((0 : Rat))).and ((qG (η_13 2) ((1 : Rat))).and ((qG (η_12 2) ((0 : Rat))).and ((qG (η_11 2) ((0 : Rat))).and (Gh.nil))))) (by exact fun _ _ h=>⟨h.1,h.2.1,h.2.2.1,h.2.2.2.1,trivial⟩) (fun g η=>(qG (η 2) ((0 : Rat))).and g) (fun g η=>(by kernel_rfl)) ?_
  intro η_16
  refine n9 ?_
  refine j7 5 ?_
  refine b7 2 ?_
  refine o9 (fun x0=>.one (.ag 4 x0)) (fun x0=>qG x0 ((1 : Rat))) (fun β η S w hS hs hw hG hd=>(kx (au5 hS))) ?_
  refine b7 2 ?_
  refine j3 [true] ((qG (η_16 2) ((0 : Rat))).and ((qG (η_14 2) ((0 : Rat))).and ((qG (η_13 2) ((1 : Rat))).and ((qG (η_12 2) ((0 : Rat))).and ((qG (η_11 2) ((0 : Rat))).and (Gh.nil)))))) (by exact fun _ _ h=>⟨h.1,h.2.1,h.2.2.1,h.2.2.2.1,h.2.2.2.2.1,trivial⟩) (fun g η=>(qG (η 2) ((1 : Rat))).and g) (fun g η=>(by kernel_rfl)) ?_
  intro η_17
  refine n9 ?_
  refine j7 5 ?_
  refine b7 2 ?_
  refine o9 (fun x0=>.one (.ag 4 x0)) (fun x0=>qG x0 ((0 : Rat))) (fun β η S w hS hs hw hG hd=>(kx (af1 hS))) ?_
  refine b7 2 ?_
  refine j3 [true] ((qG (η_17 2) ((1 : Rat))).and ((qG (η_16 2) ((0 : Rat))).and ((qG (η_14 2) ((0 : Rat))).and ((qG (η_13 2) ((1 : Rat))).and ((qG (η_12 2) ((0 : Rat))).and ((qG (η_11 2) ((0 : Rat))).and (Gh.nil))))))) (by exact fun _ _ h=>⟨h.1,h.2.1,h.2.2.1,h.2.2.2.1,h.2.2.2.2.1,h.2.2.2.2.2.1,trivial⟩) (fun g η=>(qG (η 2) ((0 : Rat))).and g) (fun g η=>(by kernel_rfl)) ?_
  intro η_18
  refine n9 ?_
  refine j7 5 ?_
  refine b7 2 ?_
  refine o9 (fun x0=>.one (.ag 4 x0)) (fun x0=>qG x0 ((0 : Rat))) (fun β η S w hS hs hw hG hd=>(kx (af1 hS))) ?_
  refine b7 2 ?_
  refine j3 [true] ((qG (η_18 2) ((0 : Rat))).and ((qG (η_17 2) ((1 : Rat))).and ((qG (η_16 2) ((0 : Rat))).and ((qG (η_14 2) ((0 : Rat))).and ((qG (η_13 2) ((1 : Rat))).and ((qG (η_12 2) ((0 : Rat))).and ((qG (η_11 2) ((0 : Rat))).and (Gh.nil)))))))) (by exact fun _ _ h=>⟨h.1,h.2.1,h.2.2.1,h.2.2.2.1,h.2.2.2.2.1,h.2.2.2.2.2.1,h.2.2.2.2.2.2.1,trivial⟩) (fun g η=>(qG (η 2) ((0 : Rat))).and g) (fun g η=>(by kernel_rfl)) ?_
  intro η_19
  refine n9 ?_
  refine j7 5 ?_
  refine b7 2 ?_
  refine o9 (fun x0=>.one (.ag 4 x0)) (fun x0=>qG x0 ((0 : Rat))) (fun β η S w hS hs hw hG hd=>(kx (af1 hS))) ?_
  refine b7 2 ?_
  refine j3 [false] ((qG (η_19 2) ((0 : Rat))).and ((qG (η_18 2) ((0 : Rat))).and ((qG (η_17 2) ((1 : Rat))).and ((qG (η_16 2) ((0 : Rat))).and ((qG (η_14 2) ((0 : Rat))).and ((qG (η_13 2) ((1 : Rat))).and ((qG (η_12 2) ((0 : Rat))).and ((qG (η_11 2) ((0 : Rat))).and (Gh.nil))))))))) (by exact fun _ _ h=>⟨h.1,h.2.1,h.2.2.1,h.2.2.2.1,h.2.2.2.2.1,h.2.2.2.2.2.1,h.2.2.2.2.2.2.1,h.2.2.2.2.2.2.2.1,trivial⟩) (fun g η=>g) (fun g η=>(by kernel_rfl)) ?_
  intro η_20
  refine n9 ?_
  refine j7 5 ?_
  refine b7 2 ?_
  refine o9 (fun x0=>.one (.ag 4 x0)) (fun x0=>qG x0 ((1 : Rat))) (fun β η S w hS hs hw hG hd=>(kx (au5 hS))) ?_
  refine b7 2 ?_
  refine j3 [true] ((qG (η_19 2) ((0 : Rat))).and ((qG (η_18 2) ((0 : Rat))).and ((qG (η_17 2) ((1 : Rat))).and ((qG (η_16 2) ((0 : Rat))).and ((qG (η_14 2) ((0 : Rat))).and ((qG (η_13 2) ((1 : Rat))).and ((qG (η_12 2) ((0 : Rat))).and ((qG (η_11 2) ((0 : Rat))).and (Gh.nil))))))))) (by exact fun _ _ h=>⟨h.1,h.2.1,h.2.2.1,h.2.2.2.1,h.2.2.2.2.1,h.2.2.2.2.2.1,h.2.2.2.2.2.2.1,h.2.2.2.2.2.2.2.1,trivial⟩) (fun g η=>(qG (η 2) ((1 : Rat))).and g) (fun g η=>(by kernel_rfl)) ?_
  intro η_21
  exact o6 (do0 (η_13 2) (η_11 2) (η_12 2) (η_14 2) (η_17 2) (η_16 2) (η_18 2) (η_19 2) (η_21 2)) rfl (fun S w hs hw hG=>⟨hw,by unfold ai8; rw [if_pos hd]; exact ⟨_,_,_,_,_,_,_,_,_,rfl,⟨hG.2.2.2.2.2.2.1.mono fun k _ hk=>hs k hk,hG.2.2.2.2.2.2.2.2.1.mono fun k _ hk=>hs k hk,hG.2.2.2.2.2.2.2.1.mono fun k _ hk=>hs k hk,hG.2.2.2.2.2.1.mono fun k _ hk=>hs k hk,hG.2.2.2.1.mono fun k _ hk=>hs k hk,hG.2.2.2.2.1.mono fun k _ hk=>hs k hk,hG.2.2.1.mono fun k _ hk=>hs k hk,hG.2.1.mono fun k _ hk=>hs k hk,hG.1.mono fun k _ hk=>hs k hk⟩⟩⟩)
 refine ad2 (p:=¬ (if (av8 a).det = 0 then (60 : Int) else 0) = 0) (fun h=>h (by rw [if_neg hd])) ?_
 exact o6 (do0 (η_1 9) (η_2 9) (η_3 9) (η_4 9) (η_5 9) (η_6 9) (η_7 9) (η_8 9) (η_9 9)) rfl (fun S w hs hw hG=>⟨hw,by unfold ai8; rw [if_neg hd]; exact ⟨_,_,_,_,_,_,_,_,_,rfl,⟨hG.2.2.2.2.2.2.2.2.2.1.mono fun k _ hk=>hs k hk,hG.2.2.2.2.2.2.2.2.1.mono fun k _ hk=>hs k hk,hG.2.2.2.2.2.2.2.1.mono fun k _ hk=>hs k hk,hG.2.2.2.2.2.2.1.mono fun k _ hk=>hs k hk,hG.2.2.2.2.2.1.mono fun k _ hk=>hs k hk,hG.2.2.2.2.1.mono fun k _ hk=>hs k hk,hG.2.2.2.1.mono fun k _ hk=>hs k hk,hG.2.2.1.mono fun k _ hk=>hs k hk,hG.1.mono fun k _ hk=>hs k hk⟩⟩⟩)
def M3.part (m : M3) : Nat → Rat
 | 0=>0
 | 1=>m.a.x * (m.b.cross m.c).x
 | 2=>m.a.x * (m.b.cross m.c).x + m.a.y * (m.b.cross m.c).y
 | _=>m.det
def Q4 : Value:=.agg #[.bool false,.slice none 0 0,.slice none 0 0]
def c93 (k : Nat) (x : List Value) : List SV:=[.agg [.lit .i64 ((k / 3 : Nat) : Int),.lit .i64 ((k % 3 : Nat) : Int)],.one (.ag 3 (x.getD 1 undef))]
theorem cl7 {S : Nat → Prop} {w : World} {m : M3} {k : Nat} {x : List Value} (h : (az0 m k x).p S w) : (c93 k x).map (SV.den fun _=>0) = x ∧ SVsOk (c93 k x) ∧ (c93 k x).length = 2:=
 ⟨by rw [show x = _ from h.1]; rfl,⟨H0 ⟨trivial,trivial,trivial⟩,h.2.ok,trivial⟩,rfl⟩
theorem du7 {u : Value} (h : ∃ b k,u = .pointer (some ⟨b,k,none⟩)) : ∃ b k,A5 u 0 = .pointer (some ⟨b,k,none⟩):=by
 obtain ⟨b,k,rfl⟩:=h
 exact ⟨b,k,rfl⟩
def M3.term (m : M3) : Nat → Rat
 | 0=>m.a.x * (m.b.cross m.c).x
 | 1=>m.a.y * (m.b.cross m.c).y
 | _=>m.a.z * (m.b.cross m.c).z
theorem be7 (m : M3) : ∀ n,n < 3 → m.part n + m.term n = m.part (n + 1):=by
 intro n hn
 match n,hn with
 | 0,_=>exact Rat.zero_add _
 | 1,_=>rfl
 | 2,_=>rfl
theorem bt1 {m : M3} {k : Nat} (hk : ml m k) : ∀ n,n ≤ 3 → rl (m.part n) (16 * k + 8):=by
 have h1:=r5 hk.2.1 hk.2.2
 have e1:=q9 hk.1.1 h1.1
 have e2:=q9 hk.1.2.1 h1.2.1
 have e3:=q9 hk.1.2.2 h1.2.2
 intro n hn
 match n,hn with
 | 0,_=>exact j9 br9
 | 1,_=>exact j9 e1
 | 2,_=>exact j9 (ah1 e1 e2)
 | 3,_=>exact j9 (ah1 (ah1 e1 e2) e3)
theorem ch4 {S : Nat → Prop} {w : World} {v : Value} {m : M3} {k : Nat} (hS : Up S w) (h : MapV S w v m) (hk : ml m k) (hk2 : 40 * k + 40 ≤ 3344) :
  Gives prog 122 [v] w fun v' w'=>Ext w w' ∧ RatV S w' v' m.det:=by
 refine b82 (E:=env) (S0:=S) (G:=(A4 v m).and Gh.nil) (l:=[.one (.ag 27 v)]) func122 rfl rfl rfl ⟨h.ok,trivial⟩ rfl ⟨h,trivial⟩ fun i hr hdm=>?_
 refine o5 (K3 0 63 ([.ag 27 v]) (fun u1=>?_))
 refine B0 (fun x0=>itS x0) (fun x0=>itG x0 (m) ((w.heap.size))) (fun _ _ _ h=>c42 h) (fun β S w hS hs hw hG=>(kx (bo9 hw.size hS hG.2.1 hk (by omega)))) ?_
 intro f
 refine o5 (co5 (ι:=Nat × Value) 161 [dd6 f] (az0 m) 9 w.heap.size (fun j=>[.gone,.blk 41 [.ag 3 Q4],.blk 41 [.ag 3 j.2]]) (fun j=>(l6 j.2 (m.part j.1)).and ((b93 u1 m).and Gh.nil)) (fun j=>j.1 ≤ 3) (fun j=>j.1) (fun e j=>e = .exit 0 ∧ j.1 = 3) (fun j x=>c93 j.1 x) 100 [] (0,Q4) hr hdm ⟨b9,hS,j6⟩
  (by kernel_rfl) (by kernel_rfl) (by kernel_rfl) (Nat.le_refl _) (fun S w hw hG=>hG.1.2) (fun j=>Nat.le_of_ble_eq_true (by kernel_rfl)) (Nat.zero_le _) rfl (ct1 (fun β=>by kernel_rfl) (fun β=>by kernel_rfl) (by kernel_rfl))
  (fun S w hw hG=>ae9 (m:=3) rfl ⟨trivial,ad9 ⟨(y6 (S:=S) (w:=w)).okc,trivial⟩,ad9 ⟨(y6 (S:=S) (w:=w)).okc,trivial⟩,trivial⟩) (fun S w hw hG=>⟨y6,by9 hG.2.1 hG.2.2.1,trivial⟩)
  (fun j x S w hj hk3 hx=>cl7 hx) (fun j x hj hk3=>by kernel_rfl) ?_ ?_ ?_)
 ·intro j x i' w1 S1 K1 m1 b1 hj hk9 hc'
  have h4 : j.1 = 0 ∨ j.1 = 1 ∨ j.1 = 2 ∨ j.1 = 3:=by omega
  obtain ⟨k0,o⟩:=j
  simp only at h4
  rcases h4 with rfl | rfl | rfl | rfl
  ·have hX:=r5 hk.2.1 hk.2.2
   refine G7 10 hc' ?_
   refine b7 3 ?_
   refine al8 (A5 u1 0) 3 0 9 hc' (fun η=>(by kernel_rfl)) (fun η=>(by kernel_rfl)) (by decide) (by decide) (fun β η S w hM hw hG hd=>du7 hG.2.2.1.ptr) ?_
   refine b92 (fun η=>η 3) ((A5 u1 (0 * 9 + 0 * 3))) 3 0 3 hc' (fun η=>(by kernel_rfl)) (fun η=>(by kernel_rfl)) (by decide) (by decide) (fun β η S w hM hw hG hd=>by have e : η 3 = A5 u1 (0 * 9):=(p6 hd 3 : (Q5 ((η 3) = A5 (A5 u1 0) (Int.toNat 0 * 9))).p S w).trans (U3 hG.2.2.1.ptr); rw [e]; obtain ⟨g,q,hq⟩:=hG.2.2.1.ptr; exact ⟨g,q + 0 * 9,by rw [hq]; rfl,(U3 ⟨g,q,hq⟩).symm⟩) ?_
   refine S8 (fun η=>η 4) 41 3 true (fun x0=>.one (.ag 3 x0)) (fun x0=>l6 x0 (m.a.x)) hc' (fun β η S w hM hw hG hd=>hG.2.2.1.num (r:=0) (j:=0) rfl rfl (p6 hd 4 : (Q5 ((η 4) = (A5 u1 (0 * 9 + 0 * 3)))).p S w)) ?_
   refine b7 1 ?_
   refine o9 (fun x0=>.one (.ag 3 x0)) (fun x0=>l6 x0 ((m.a.x * (m.b.cross m.c).x))) (fun β η S w hS hs hw hG hd=>(kx (B3 hS (p6 hd 5 : (l6 (η 5) (m.a.x)).p S w) hG.1.2 hk.1.1 hX.1 (by omega)))) ?_
   refine Y9 41 3 2 (fun x0=>I1 x0 [m.part 0,m.a.x * (m.b.cross m.c).x]) hc' (fun η=>(by kernel_rfl)) (fun β η S w x0 w' hS hs hw hG hd hk hrow=>bb7 (hG.2.1.to hk) ((p6 hd 7 : (l6 (η 7) ((m.a.x * (m.b.cross m.c).x))).p S w).to hk) (kc hrow (by kernel_rfl))) ?_
   refine o9 (fun x0=>.one (.ag 3 x0)) (fun x0=>l6 x0 ((m.part 1))) (fun β η S w hS hs hw hG hd=>(kx (Z1 (m:=16 * k + 8) (by rw [de0]; exact be7 m 0 (by omega)) hS (p6 hd 8 : (I1 (η 8) [m.part 0,m.a.x * (m.b.cross m.c).x]).p S w) (a40 (bt1 hk _ (by omega)) (j9 (q9 hk.1.1 hX.1))) (by simp only [List.length]; omega)))) ?_
   refine j3 [true,false,false,false,false,false] ((b93 u1 m).and (Gh.nil)) (by exact fun _ _ h=>⟨h.2.2.1,trivial⟩) (fun g η=>(l6 (η 9) ((m.part 1))).and g) (fun g η=>(by kernel_rfl)) ?_
   intro η_1
   exact I0 hc' (ab4 ((1,η_1 9)) (by kernel_rfl) (⟨(show (1 : Nat) ≤ 3 by decide),rfl⟩) (ai5) (fun S w hw hG=>ae9 (m:=3) rfl ⟨trivial,ad9 ⟨(y6 (S:=S) (w:=w)).okc,trivial⟩,ad9 ⟨hG.1.okc,trivial⟩,trivial⟩) (fun S w hw hG=>⟨hG.1,hG.2.1,trivial⟩))
  ·have hX:=r5 hk.2.1 hk.2.2
   refine G7 10 hc' ?_
   refine b7 3 ?_
   refine al8 (A5 u1 0) 3 0 9 hc' (fun η=>(by kernel_rfl)) (fun η=>(by kernel_rfl)) (by decide) (by decide) (fun β η S w hM hw hG hd=>du7 hG.2.2.1.ptr) ?_
   refine b92 (fun η=>η 3) ((A5 u1 (0 * 9 + 1 * 3))) 3 1 3 hc' (fun η=>(by kernel_rfl)) (fun η=>(by kernel_rfl)) (by decide) (by decide) (fun β η S w hM hw hG hd=>by have e : η 3 = A5 u1 (0 * 9):=(p6 hd 3 : (Q5 ((η 3) = A5 (A5 u1 0) (Int.toNat 0 * 9))).p S w).trans (U3 hG.2.2.1.ptr); rw [e]; obtain ⟨g,q,hq⟩:=hG.2.2.1.ptr; exact ⟨g,q + 0 * 9,by rw [hq]; rfl,(U3 ⟨g,q,hq⟩).symm⟩) ?_
   refine S8 (fun η=>η 4) 41 3 true (fun x0=>.one (.ag 3 x0)) (fun x0=>l6 x0 (m.a.y)) hc' (fun β η S w hM hw hG hd=>hG.2.2.1.num (r:=0) (j:=1) rfl rfl (p6 hd 4 : (Q5 ((η 4) = (A5 u1 (0 * 9 + 1 * 3)))).p S w)) ?_
   refine b7 1 ?_
   refine o9 (fun x0=>.one (.ag 3 x0)) (fun x0=>l6 x0 ((m.a.y * (m.b.cross m.c).y))) (fun β η S w hS hs hw hG hd=>(kx (B3 hS (p6 hd 5 : (l6 (η 5) (m.a.y)).p S w) hG.1.2 hk.1.2.1 hX.2.1 (by omega)))) ?_
   refine Y9 41 3 2 (fun x0=>I1 x0 [m.part 1,m.a.y * (m.b.cross m.c).y]) hc' (fun η=>(by kernel_rfl)) (fun β η S w x0 w' hS hs hw hG hd hk hrow=>bb7 (hG.2.1.to hk) ((p6 hd 7 : (l6 (η 7) ((m.a.y * (m.b.cross m.c).y))).p S w).to hk) (kc hrow (by kernel_rfl))) ?_
   refine o9 (fun x0=>.one (.ag 3 x0)) (fun x0=>l6 x0 ((m.part 2))) (fun β η S w hS hs hw hG hd=>(kx (Z1 (m:=16 * k + 8) (by rw [de0]; exact be7 m 1 (by omega)) hS (p6 hd 8 : (I1 (η 8) [m.part 1,m.a.y * (m.b.cross m.c).y]).p S w) (a40 (bt1 hk _ (by omega)) (j9 (q9 hk.1.2.1 hX.2.1))) (by simp only [List.length]; omega)))) ?_
   refine j3 [true,false,false,false,false,false] ((b93 u1 m).and (Gh.nil)) (by exact fun _ _ h=>⟨h.2.2.1,trivial⟩) (fun g η=>(l6 (η 9) ((m.part 2))).and g) (fun g η=>(by kernel_rfl)) ?_
   intro η_1
   exact I0 hc' (ab4 ((2,η_1 9)) (by kernel_rfl) (⟨(show (2 : Nat) ≤ 3 by decide),rfl⟩) (ai5) (fun S w hw hG=>ae9 (m:=3) rfl ⟨trivial,ad9 ⟨(y6 (S:=S) (w:=w)).okc,trivial⟩,ad9 ⟨hG.1.okc,trivial⟩,trivial⟩) (fun S w hw hG=>⟨hG.1,hG.2.1,trivial⟩))
  ·have hX:=r5 hk.2.1 hk.2.2
   refine G7 10 hc' ?_
   refine b7 3 ?_
   refine al8 (A5 u1 0) 3 0 9 hc' (fun η=>(by kernel_rfl)) (fun η=>(by kernel_rfl)) (by decide) (by decide) (fun β η S w hM hw hG hd=>du7 hG.2.2.1.ptr) ?_
   refine b92 (fun η=>η 3) ((A5 u1 (0 * 9 + 2 * 3))) 3 2 3 hc' (fun η=>(by kernel_rfl)) (fun η=>(by kernel_rfl)) (by decide) (by decide) (fun β η S w hM hw hG hd=>by have e : η 3 = A5 u1 (0 * 9):=(p6 hd 3 : (Q5 ((η 3) = A5 (A5 u1 0) (Int.toNat 0 * 9))).p S w).trans (U3 hG.2.2.1.ptr); rw [e]; obtain ⟨g,q,hq⟩:=hG.2.2.1.ptr; exact ⟨g,q + 0 * 9,by rw [hq]; rfl,(U3 ⟨g,q,hq⟩).symm⟩) ?_
   refine S8 (fun η=>η 4) 41 3 true (fun x0=>.one (.ag 3 x0)) (fun x0=>l6 x0 (m.a.z)) hc' (fun β η S w hM hw hG hd=>hG.2.2.1.num (r:=0) (j:=2) rfl rfl (p6 hd 4 : (Q5 ((η 4) = (A5 u1 (0 * 9 + 2 * 3)))).p S w)) ?_
   refine b7 1 ?_
   refine o9 (fun x0=>.one (.ag 3 x0)) (fun x0=>l6 x0 ((m.a.z * (m.b.cross m.c).z))) (fun β η S w hS hs hw hG hd=>(kx (B3 hS (p6 hd 5 : (l6 (η 5) (m.a.z)).p S w) hG.1.2 hk.1.2.2 hX.2.2 (by omega)))) ?_
   refine Y9 41 3 2 (fun x0=>I1 x0 [m.part 2,m.a.z * (m.b.cross m.c).z]) hc' (fun η=>(by kernel_rfl)) (fun β η S w x0 w' hS hs hw hG hd hk hrow=>bb7 (hG.2.1.to hk) ((p6 hd 7 : (l6 (η 7) ((m.a.z * (m.b.cross m.c).z))).p S w).to hk) (kc hrow (by kernel_rfl))) ?_
   refine o9 (fun x0=>.one (.ag 3 x0)) (fun x0=>l6 x0 ((m.part 3))) (fun β η S w hS hs hw hG hd=>(kx (Z1 (m:=16 * k + 8) (by rw [de0]; exact be7 m 2 (by omega)) hS (p6 hd 8 : (I1 (η 8) [m.part 2,m.a.z * (m.b.cross m.c).z]).p S w) (a40 (bt1 hk _ (by omega)) (j9 (q9 hk.1.2.2 hX.2.2))) (by simp only [List.length]; omega)))) ?_
   refine j3 [true,false,false,false,false,false] ((b93 u1 m).and (Gh.nil)) (by exact fun _ _ h=>⟨h.2.2.1,trivial⟩) (fun g η=>(l6 (η 9) ((m.part 3))).and g) (fun g η=>(by kernel_rfl)) ?_
   intro η_1
   exact I0 hc' (ab4 ((3,η_1 9)) (by kernel_rfl) (⟨(show (3 : Nat) ≤ 3 by decide),rfl⟩) (ai5) (fun S w hw hG=>ae9 (m:=3) rfl ⟨trivial,ad9 ⟨(y6 (S:=S) (w:=w)).okc,trivial⟩,ad9 ⟨hG.1.okc,trivial⟩,trivial⟩) (fun S w hw hG=>⟨hG.1,hG.2.1,trivial⟩))
  have e3 : (3 : Nat) ≤ 3:=Nat.le_refl _
  exact I0 hc' (ds3 ((3,o)) (by kernel_rfl) (⟨(by kernel_rfl),rfl⟩) (ai5) (fun S w hw hG=>ae9 (m:=3) rfl ⟨trivial,ad9 ⟨(y6 (S:=S) (w:=w)).okc,trivial⟩,ad9 ⟨hG.2.1.okc,trivial⟩,trivial⟩) (fun S w hw hG=>⟨hG.2.1,hG.2.2.1,trivial⟩))
 ·intro D j hj hk3
  exact absurd hk3 (by omega)
 rintro D j e ⟨rfl,hj⟩ _
 have e0 : m.part j.1 = m.det:=by rw [hj]; rfl
 exact db7 j.2 [D] [3] ⟨b9,hS,j6⟩ (by kernel_rfl) rfl (by kernel_rfl) (by kernel_rfl) ⟨by kernel_rfl,trivial⟩ (fun β=>by kernel_rfl) (fun β S w hM hs hw hG=>⟨hw,e0 ▸ (RatV.mono hG.1 fun k _ hk=>(hs k hk).1)⟩)
noncomputable def ad0 (a1 a2 a3 b1 b2 b3 c1 c2 c3 : Value) : Value:=(SV.agg [.ag 3 a1,.ag 3 a2,.ag 3 a3,.ag 3 b1,.ag 3 b2,.ag 3 b3,.ag 3 c1,.ag 3 c2,.ag 3 c3]).den fun _=>0
structure MapC (S : Nat → Prop) (w : World) (m : M3) (a1 a2 a3 b1 b2 b3 c1 c2 c3 : Value) : Prop where
 a1 : RatV S w a1 m.a.x
 a2 : RatV S w a2 m.a.y
 a3 : RatV S w a3 m.a.z
 b1 : RatV S w b1 m.b.x
 b2 : RatV S w b2 m.b.y
 b3 : RatV S w b3 m.b.z
 c1 : RatV S w c1 m.c.x
 c2 : RatV S w c2 m.c.y
 c3 : RatV S w c3 m.c.z
theorem MapV.keep {S : Nat → Prop} {w w' : World} {v : Value} {m : M3} (h : MapV S w v m) (k : Keeps S w w') : MapV S w' v m:=(A4 v m).keep h k
theorem MapV.mono {S S' : Nat → Prop} {w : World} {v : Value} {m : M3} (h : MapV S w v m) (hs : ∀ k,k < w.heap.size → S k → S' k) : MapV S' w v m:=(A4 v m).mono h hs
section
variable {S S' : Nat → Prop} {w w' : World} {v : Value} {m : M3} {a1 a2 a3 b1 b2 b3 c1 c2 c3 : Value}
theorem MapC.keep (h : MapC S w m a1 a2 a3 b1 b2 b3 c1 c2 c3) (k : Keeps S w w') : MapC S w' m a1 a2 a3 b1 b2 b3 c1 c2 c3:=⟨h.a1.keep k,h.a2.keep k,h.a3.keep k,h.b1.keep k,h.b2.keep k,h.b3.keep k,h.c1.keep k,h.c2.keep k,h.c3.keep k⟩
theorem MapC.mono (h : MapC S w m a1 a2 a3 b1 b2 b3 c1 c2 c3) (hs : ∀ k,k < w.heap.size → S k → S' k) : MapC S' w m a1 a2 a3 b1 b2 b3 c1 c2 c3:=⟨h.a1.mono hs,h.a2.mono hs,h.a3.mono hs,h.b1.mono hs,h.b2.mono hs,h.b3.mono hs,h.c1.mono hs,h.c2.mono hs,h.c3.mono hs⟩
theorem MapC.ok (n : Nat) (h : MapC S w m a1 a2 a3 b1 b2 b3 c1 c2 c3) : (SV.agg [.ag 3 a1,.ag 3 a2,.ag 3 a3,.ag 3 b1,.ag 3 b2,.ag 3 b3,.ag 3 c1,.ag 3 c2,.ag 3 c3]).Ok n:=H0 ⟨h.a1.okc,h.a2.okc,h.a3.okc,h.b1.okc,h.b2.okc,h.b3.okc,h.c1.okc,h.c2.okc,h.c3.okc,trivial⟩
theorem bk5 : (ad0 a1 a2 a3 b1 b2 b3 c1 c2 c3).cells.toList = A3 [aw8 a1 a2 a3,aw8 b1 b2 b3,aw8 c1 c2 c3]:=by
 simp [ad0,aw8,A3,SV.den,d6,Ch.cells,Value.cells]
theorem MapC.map (h : MapC S w m a1 a2 a3 b1 b2 b3 c1 c2 c3) : MapV S w (ad0 a1 a2 a3 b1 b2 b3 c1 c2 c3) m:=by
 refine ⟨bh3 (l:=[.ag 3 a1,.ag 3 a2,.ag 3 a3,.ag 3 b1,.ag 3 b2,.ag 3 b3,.ag 3 c1,.ag 3 c2,.ag 3 c3]) (h.ok 0) rfl,[aw8 a1 a2 a3,aw8 b1 b2 b3,aw8 c1 c2 c3],bk5,rfl,fun x hx=>?_,fun i t x ht hx=>?_⟩
 ·simp only [List.mem_cons,List.not_mem_nil,or_false] at hx
  rcases hx with rfl | rfl | rfl
  ·exact TripV.lies (t:=m.a) ⟨_,_,_,rfl,h.a1,h.a2,h.a3⟩
  ·exact TripV.lies (t:=m.b) ⟨_,_,_,rfl,h.b1,h.b2,h.b3⟩
  exact TripV.lies (t:=m.c) ⟨_,_,_,rfl,h.c1,h.c2,h.c3⟩
 match i with
 | 0=>simp [M3.rows] at ht hx; subst ht hx; exact ⟨_,_,_,rfl,h.a1,h.a2,h.a3⟩
 | 1=>simp [M3.rows] at ht hx; subst ht hx; exact ⟨_,_,_,rfl,h.b1,h.b2,h.b3⟩
 | 2=>simp [M3.rows] at ht hx; subst ht hx; exact ⟨_,_,_,rfl,h.c1,h.c2,h.c3⟩
 | i + 3=>simp [M3.rows] at ht
theorem MapV.ex (h : MapV S w v m) : ∃ a1 a2 a3 b1 b2 b3 c1 c2 c3,v = ad0 a1 a2 a3 b1 b2 b3 c1 c2 c3 ∧ MapC S w m a1 a2 a3 b1 b2 b3 c1 c2 c3:=by
 obtain ⟨ho,vs,hc,he⟩:=h
 have hl : vs.length = 3:=he.len
 match vs,hl with
 | [y1,y2,y3],_=>
  obtain ⟨a1,a2,a3,rfl,p1,p2,p3⟩:=he.el 0 m.a y1 rfl rfl
  obtain ⟨b1,b2,b3,rfl,q1,q2,q3⟩:=he.el 1 m.b y2 rfl rfl
  obtain ⟨c1,c2,c3,rfl,r1,r2,r3⟩:=he.el 2 m.c y3 rfl rfl
  refine ⟨a1,a2,a3,b1,b2,b3,c1,c2,c3,?_,⟨p1,p2,p3,q1,q2,q3,r1,r2,r3⟩⟩
  obtain ⟨us,rfl,_,_⟩:=ho
  have e : us = (ad0 a1 a2 a3 b1 b2 b3 c1 c2 c3).cells.toList:=by rw [bk5,← hc]; simp [Value.cells]
  rw [e]
  simp [ad0,SV.den,Value.cells]
end
abbrev ai1 (v : Value) (m : M3) : Gh:=⟨fun S w=>v = (SV.agg [.ag 3 (cel v 0 3),.ag 3 (cel v 3 3),.ag 3 (cel v 6 3),.ag 3 (cel v 9 3),.ag 3 (cel v 12 3),.ag 3 (cel v 15 3),.ag 3 (cel v 18 3),.ag 3 (cel v 21 3),.ag 3 (cel v 24 3)]).den (fun _=>0) ∧ MapC S w m (cel v 0 3) (cel v 3 3) (cel v 6 3) (cel v 9 3) (cel v 12 3) (cel v 15 3) (cel v 18 3) (cel v 21 3) (cel v 24 3),fun h k=>⟨h.1,h.2.keep k⟩,fun h k=>⟨h.1,h.2.mono k⟩⟩
section
variable {S S' : Nat → Prop} {w w' : World} {v : Value} {m : M3}
theorem bl4 (h : (ai1 v m).p S w) : (SV.agg [.ag 3 (cel v 0 3),.ag 3 (cel v 3 3),.ag 3 (cel v 6 3),.ag 3 (cel v 9 3),.ag 3 (cel v 12 3),.ag 3 (cel v 15 3),.ag 3 (cel v 18 3),.ag 3 (cel v 21 3),.ag 3 (cel v 24 3)]).Ok 0 ∧ (SV.agg [.ag 3 (cel v 0 3),.ag 3 (cel v 3 3),.ag 3 (cel v 6 3),.ag 3 (cel v 9 3),.ag 3 (cel v 12 3),.ag 3 (cel v 15 3),.ag 3 (cel v 18 3),.ag 3 (cel v 21 3),.ag 3 (cel v 24 3)]).den (fun _=>0) = v:=⟨h.2.ok 0,h.1.symm⟩
theorem c74 (h : MapV S w v m) : (ai1 v m).p S w:=by
 obtain ⟨a1,a2,a3,b1,b2,b3,c1,c2,c3,hv,hm⟩:=h.ex
 have hl : ∀ x ∈ [a1,a2,a3,b1,b2,b3,c1,c2,c3],M2 true 3 x:=by
  intro x hx
  simp only [List.mem_cons,List.not_mem_nil,or_false] at hx
  rcases hx with rfl | rfl | rfl | rfl | rfl | rfl | rfl | rfl | rfl
  ·exact hm.a1.lies
  ·exact hm.a2.lies
  ·exact hm.a3.lies
  ·exact hm.b1.lies
  ·exact hm.b2.lies
  ·exact hm.b3.lies
  ·exact hm.c1.lies
  ·exact hm.c2.lies
  exact hm.c3.lies
 have hc : v.cells.toList = A3 [a1,a2,a3,b1,b2,b3,c1,c2,c3]:=by rw [hv]; simp [ad0,A3,SV.den,d6,Ch.cells,Value.cells]
 have e0 : cel v 0 3 = a1:=I9 (g:=true) (i:=0) hc hl rfl
 have e1 : cel v 3 3 = a2:=I9 (g:=true) (i:=1) hc hl rfl
 have e2 : cel v 6 3 = a3:=I9 (g:=true) (i:=2) hc hl rfl
 have e3 : cel v 9 3 = b1:=I9 (g:=true) (i:=3) hc hl rfl
 have e4 : cel v 12 3 = b2:=I9 (g:=true) (i:=4) hc hl rfl
 have e5 : cel v 15 3 = b3:=I9 (g:=true) (i:=5) hc hl rfl
 have e6 : cel v 18 3 = c1:=I9 (g:=true) (i:=6) hc hl rfl
 have e7 : cel v 21 3 = c2:=I9 (g:=true) (i:=7) hc hl rfl
 have e8 : cel v 24 3 = c3:=I9 (g:=true) (i:=8) hc hl rfl
 show v = _ ∧ _
 rw [e0,e1,e2,e3,e4,e5,e6,e7,e8]
 exact ⟨hv,hm⟩
theorem MapV.lies (h : MapV S w v m) : M2 true 27 v:=by
 obtain ⟨us,rfl,h2,_⟩:=h.ok
 have:=bi5 us
 rwa [h2] at this
end
namespace M3
def turned (m : M3) : M3:=⟨⟨m.a.x,m.b.x,m.c.x⟩,⟨m.a.y,m.b.y,m.c.y⟩,⟨m.a.z,m.b.z,m.c.z⟩⟩
def adj (m : M3) : M3:=m.cof.turned
def after (m n : M3) : M3:=turned ⟨m.apply n.turned.a,m.apply n.turned.b,m.apply n.turned.c⟩
theorem apply_after (m n : M3) (v : T3) : (m.after n).apply v = m.apply (n.apply v):=by
 simp only [after,turned,apply,T3.dot,T3.mk.injEq]
 refine ⟨?_,?_,?_⟩ <;> grind
theorem adj_apply (m : M3) (v : T3) : m.adj.apply (m.apply v) = v.smul m.det:=by
 simp only [adj,cof,turned,apply,T3.dot,T3.cross,T3.smul,det,T3.mk.injEq]
 refine ⟨?_,?_,?_⟩ <;> grind
theorem cd4 (m : M3) : m.turned.det = m.det:=by
 simp only [turned,det,T3.dot,T3.cross]
 grind
theorem det_adj (m : M3) : m.adj.det = m.det * m.det:=by
 rw [adj,cd4,cn6]
theorem apply_smul (m : M3) (k : Rat) (v : T3) : m.apply (v.smul k) = (m.apply v).smul k:=by
 simp only [apply,T3.dot,T3.smul,T3.mk.injEq]
 refine ⟨?_,?_,?_⟩ <;> grind
theorem cof_dot (m : M3) (u v : T3) : (m.apply u).dot (m.cof.apply v) = m.det * u.dot v:=by
 simp only [cof,apply,det,T3.dot,T3.cross]
 grind
end M3
def bv6 (m : M3) (k i : Nat) : Rat:=bif Nat.ble (3 * (i % 3) + i / 3 + 1) k then m.mnr (3 * (i % 3) + i / 3) else 0
def an1 (o : Nat → Value) (p : Nat) (x : Value) : Nat → Value:=fun i=>bif Nat.beq i p then x else o i
structure OutC (S : Nat → Prop) (w : World) (m : M3) (k : Nat) (o : Nat → Value) : Prop where
 c0 : RatV S w (o 0) (bv6 m k 0)
 c1 : RatV S w (o 1) (bv6 m k 1)
 c2 : RatV S w (o 2) (bv6 m k 2)
 c3 : RatV S w (o 3) (bv6 m k 3)
 c4 : RatV S w (o 4) (bv6 m k 4)
 c5 : RatV S w (o 5) (bv6 m k 5)
 c6 : RatV S w (o 6) (bv6 m k 6)
 c7 : RatV S w (o 7) (bv6 m k 7)
 c8 : RatV S w (o 8) (bv6 m k 8)
abbrev bm3 (m : M3) (k : Nat) (o : Nat → Value) : Gh:=⟨fun S w=>OutC S w m k o,fun h k=>⟨h.c0.keep k,h.c1.keep k,h.c2.keep k,h.c3.keep k,h.c4.keep k,h.c5.keep k,h.c6.keep k,h.c7.keep k,h.c8.keep k⟩,fun h k=>⟨h.c0.mono k,h.c1.mono k,h.c2.mono k,h.c3.mono k,h.c4.mono k,h.c5.mono k,h.c6.mono k,h.c7.mono k,h.c8.mono k⟩⟩
theorem OutC.blk {S : Nat → Prop} {w : World} {m : M3} {k n : Nat} {o : Nat → Value} {T : TypeId} (h : OutC S w m k o) : (HE.blk T [.ag 3 (o 0),.ag 3 (o 1),.ag 3 (o 2),.ag 3 (o 3),.ag 3 (o 4),.ag 3 (o 5),.ag 3 (o 6),.ag 3 (o 7),.ag 3 (o 8)]).Ok n:=ad9 ⟨h.c0.okc,h.c1.okc,h.c2.okc,h.c3.okc,h.c4.okc,h.c5.okc,h.c6.okc,h.c7.okc,h.c8.okc,trivial⟩
theorem M9 {S : Nat → Prop} {w : World} {m : M3} : OutC S w m 0 (fun _=>Q4):=⟨y6,y6,y6,y6,y6,y6,y6,y6,y6⟩
theorem OutC.all {S : Nat → Prop} {w : World} {m : M3} {o : Nat → Value} (h : OutC S w m 9 o) : MapC S w m.adj (o 0) (o 1) (o 2) (o 3) (o 4) (o 5) (o 6) (o 7) (o 8):=⟨h.c0,h.c1,h.c2,h.c3,h.c4,h.c5,h.c6,h.c7,h.c8⟩
theorem cm2 {S : Nat → Prop} {w : World} {v : Value} {m : M3} {k : Nat} (hS : Up S w) (h : MapV S w v m) (hk : ml m k) (hk2 : 40 * k + 40 ≤ 3344) :
  Gives prog 84 [v] w fun v' w'=>Ext w w' ∧ MapV S w' v' m.adj:=by
 refine b82 (E:=env) (S0:=S) (G:=(A4 v m).and Gh.nil) (l:=[.one (.ag 27 v)]) func84 rfl rfl rfl ⟨h.ok,trivial⟩ rfl ⟨h,trivial⟩ fun i hr hdm=>?_
 refine o5 (K3 0 63 ([.ag 27 v]) (fun u1=>?_))
 refine B0 (fun x0=>itS x0) (fun x0=>itG x0 (m) ((w.heap.size))) (fun _ _ _ h=>c42 h) (fun β S w hS hs hw hG=>(kx (bo9 hw.size hS hG.2.1 hk (by omega)))) ?_
 intro f
 refine o5 (co5 (ι:=Nat × (Nat → Value)) 161 [dd6 f] (az0 m) 9 w.heap.size (fun j=>[.gone,.blk 63 [.ag 3 Q4,.ag 3 Q4,.ag 3 Q4,.ag 3 Q4,.ag 3 Q4,.ag 3 Q4,.ag 3 Q4,.ag 3 Q4,.ag 3 Q4],.blk 63 [.ag 3 (j.2 0),.ag 3 (j.2 1),.ag 3 (j.2 2),.ag 3 (j.2 3),.ag 3 (j.2 4),.ag 3 (j.2 5),.ag 3 (j.2 6),.ag 3 (j.2 7),.ag 3 (j.2 8)]]) (fun j=>(bm3 m j.1 j.2).and Gh.nil) (fun j=>j.1 ≤ 9) (fun j=>j.1) (fun e j=>False) (fun j x=>c93 j.1 x) 100 [] (0,fun _=>Q4) hr hdm ⟨b9,hS,j6⟩
  (by kernel_rfl) (by kernel_rfl) (by kernel_rfl) (Nat.le_refl _) (fun S w hw hG=>hG.1.2) (fun j=>Nat.le_of_ble_eq_true (by kernel_rfl)) (Nat.zero_le _) rfl (ct1 (fun β=>by kernel_rfl) (fun β=>by kernel_rfl) (by kernel_rfl))
  (fun S w hw hG=>ae9 (m:=3) rfl ⟨trivial,(M9 (S:=S) (w:=w) (m:=m)).blk,(M9 (S:=S) (w:=w) (m:=m)).blk,trivial⟩) (fun S w hw hG=>⟨M9,trivial⟩)
  (fun j x S w hj hk3 hx=>cl7 hx) (fun j x hj hk3=>by kernel_rfl) ?_ ?_ ?_)
 ·intro j x i' w1 S1 K1 m1 b1 hj hk9 hc'
  have h4 : j.1 = 0 ∨ j.1 = 1 ∨ j.1 = 2 ∨ j.1 = 3 ∨ j.1 = 4 ∨ j.1 = 5 ∨ j.1 = 6 ∨ j.1 = 7 ∨ j.1 = 8:=by omega
  obtain ⟨k0,o⟩:=j
  simp only at h4
  rcases h4 with rfl | rfl | rfl | rfl | rfl | rfl | rfl | rfl | rfl
  ·have hX:=hk
   refine G7 7 hc' ?_
   refine b7 7 ?_
   refine j3 [] ((az0 m 0 x).and ((bm3 m 0 o).and (Gh.nil))) (by exact fun _ _ h=>⟨h.1,h.2.1,trivial⟩) (fun g η=>g) (fun g η=>(by kernel_rfl)) ?_
   intro η_1
   exact I0 hc' (ab4 ((1,an1 o 0 (x.getD 1 undef))) (by kernel_rfl) (⟨(show (1 : Nat) ≤ 9 by decide),rfl⟩) (ai5) (fun S w hw hG=>have ho:=hG.2.1; ae9 (m:=3) rfl ⟨trivial,(M9 (S:=S) (w:=w) (m:=m)).blk,(OutC.blk (S:=S) (w:=w) (m:=m) (k:=1) (o:=an1 o 0 (x.getD 1 undef)) ⟨hG.1.2,ho.c1,ho.c2,ho.c3,ho.c4,ho.c5,ho.c6,ho.c7,ho.c8⟩),trivial⟩) (fun S w hw hG=>have ho:=hG.2.1; ⟨⟨hG.1.2,ho.c1,ho.c2,ho.c3,ho.c4,ho.c5,ho.c6,ho.c7,ho.c8⟩,trivial⟩))
  ·have hX:=hk
   refine G7 7 hc' ?_
   refine b7 7 ?_
   refine j3 [] ((az0 m 1 x).and ((bm3 m 1 o).and (Gh.nil))) (by exact fun _ _ h=>⟨h.1,h.2.1,trivial⟩) (fun g η=>g) (fun g η=>(by kernel_rfl)) ?_
   intro η_1
   exact I0 hc' (ab4 ((2,an1 o 3 (x.getD 1 undef))) (by kernel_rfl) (⟨(show (2 : Nat) ≤ 9 by decide),rfl⟩) (ai5) (fun S w hw hG=>have ho:=hG.2.1; ae9 (m:=3) rfl ⟨trivial,(M9 (S:=S) (w:=w) (m:=m)).blk,(OutC.blk (S:=S) (w:=w) (m:=m) (k:=2) (o:=an1 o 3 (x.getD 1 undef)) ⟨ho.c0,ho.c1,ho.c2,hG.1.2,ho.c4,ho.c5,ho.c6,ho.c7,ho.c8⟩),trivial⟩) (fun S w hw hG=>have ho:=hG.2.1; ⟨⟨ho.c0,ho.c1,ho.c2,hG.1.2,ho.c4,ho.c5,ho.c6,ho.c7,ho.c8⟩,trivial⟩))
  ·have hX:=hk
   refine G7 7 hc' ?_
   refine b7 7 ?_
   refine j3 [] ((az0 m 2 x).and ((bm3 m 2 o).and (Gh.nil))) (by exact fun _ _ h=>⟨h.1,h.2.1,trivial⟩) (fun g η=>g) (fun g η=>(by kernel_rfl)) ?_
   intro η_1
   exact I0 hc' (ab4 ((3,an1 o 6 (x.getD 1 undef))) (by kernel_rfl) (⟨(show (3 : Nat) ≤ 9 by decide),rfl⟩) (ai5) (fun S w hw hG=>have ho:=hG.2.1; ae9 (m:=3) rfl ⟨trivial,(M9 (S:=S) (w:=w) (m:=m)).blk,(OutC.blk (S:=S) (w:=w) (m:=m) (k:=3) (o:=an1 o 6 (x.getD 1 undef)) ⟨ho.c0,ho.c1,ho.c2,ho.c3,ho.c4,ho.c5,hG.1.2,ho.c7,ho.c8⟩),trivial⟩) (fun S w hw hG=>have ho:=hG.2.1; ⟨⟨ho.c0,ho.c1,ho.c2,ho.c3,ho.c4,ho.c5,hG.1.2,ho.c7,ho.c8⟩,trivial⟩))
  ·have hX:=hk
   refine G7 7 hc' ?_
   refine b7 7 ?_
   refine j3 [] ((az0 m 3 x).and ((bm3 m 3 o).and (Gh.nil))) (by exact fun _ _ h=>⟨h.1,h.2.1,trivial⟩) (fun g η=>g) (fun g η=>(by kernel_rfl)) ?_
   intro η_1
   exact I0 hc' (ab4 ((4,an1 o 1 (x.getD 1 undef))) (by kernel_rfl) (⟨(show (4 : Nat) ≤ 9 by decide),rfl⟩) (ai5) (fun S w hw hG=>have ho:=hG.2.1; ae9 (m:=3) rfl ⟨trivial,(M9 (S:=S) (w:=w) (m:=m)).blk,(OutC.blk (S:=S) (w:=w) (m:=m) (k:=4) (o:=an1 o 1 (x.getD 1 undef)) ⟨ho.c0,hG.1.2,ho.c2,ho.c3,ho.c4,ho.c5,ho.c6,ho.c7,ho.c8⟩),trivial⟩) (fun S w hw hG=>have ho:=hG.2.1; ⟨⟨ho.c0,hG.1.2,ho.c2,ho.c3,ho.c4,ho.c5,ho.c6,ho.c7,ho.c8⟩,trivial⟩))
  ·have hX:=hk
   refine G7 7 hc' ?_
   refine b7 7 ?_
   refine j3 [] ((az0 m 4 x).and ((bm3 m 4 o).and (Gh.nil))) (by exact fun _ _ h=>⟨h.1,h.2.1,trivial⟩) (fun g η=>g) (fun g η=>(by kernel_rfl)) ?_
   intro η_1
   exact I0 hc' (ab4 ((5,an1 o 4 (x.getD 1 undef))) (by kernel_rfl) (⟨(show (5 : Nat) ≤ 9 by decide),rfl⟩) (ai5) (fun S w hw hG=>have ho:=hG.2.1; ae9 (m:=3) rfl ⟨trivial,(M9 (S:=S) (w:=w) (m:=m)).blk,(OutC.blk (S:=S) (w:=w) (m:=m) (k:=5) (o:=an1 o 4 (x.getD 1 undef)) ⟨ho.c0,ho.c1,ho.c2,ho.c3,hG.1.2,ho.c5,ho.c6,ho.c7,ho.c8⟩),trivial⟩) (fun S w hw hG=>have ho:=hG.2.1; ⟨⟨ho.c0,ho.c1,ho.c2,ho.c3,hG.1.2,ho.c5,ho.c6,ho.c7,ho.c8⟩,trivial⟩))
  ·have hX:=hk
   refine G7 7 hc' ?_
   refine b7 7 ?_
   refine j3 [] ((az0 m 5 x).and ((bm3 m 5 o).and (Gh.nil))) (by exact fun _ _ h=>⟨h.1,h.2.1,trivial⟩) (fun g η=>g) (fun g η=>(by kernel_rfl)) ?_
   intro η_1
   exact I0 hc' (ab4 ((6,an1 o 7 (x.getD 1 undef))) (by kernel_rfl) (⟨(show (6 : Nat) ≤ 9 by decide),rfl⟩) (ai5) (fun S w hw hG=>have ho:=hG.2.1; ae9 (m:=3) rfl ⟨trivial,(M9 (S:=S) (w:=w) (m:=m)).blk,(OutC.blk (S:=S) (w:=w) (m:=m) (k:=6) (o:=an1 o 7 (x.getD 1 undef)) ⟨ho.c0,ho.c1,ho.c2,ho.c3,ho.c4,ho.c5,ho.c6,hG.1.2,ho.c8⟩),trivial⟩) (fun S w hw hG=>have ho:=hG.2.1; ⟨⟨ho.c0,ho.c1,ho.c2,ho.c3,ho.c4,ho.c5,ho.c6,hG.1.2,ho.c8⟩,trivial⟩))
  ·have hX:=hk
   refine G7 7 hc' ?_
   refine b7 7 ?_
   refine j3 [] ((az0 m 6 x).and ((bm3 m 6 o).and (Gh.nil))) (by exact fun _ _ h=>⟨h.1,h.2.1,trivial⟩) (fun g η=>g) (fun g η=>(by kernel_rfl)) ?_
   intro η_1
   exact I0 hc' (ab4 ((7,an1 o 2 (x.getD 1 undef))) (by kernel_rfl) (⟨(show (7 : Nat) ≤ 9 by decide),rfl⟩) (ai5) (fun S w hw hG=>have ho:=hG.2.1; ae9 (m:=3) rfl ⟨trivial,(M9 (S:=S) (w:=w) (m:=m)).blk,(OutC.blk (S:=S) (w:=w) (m:=m) (k:=7) (o:=an1 o 2 (x.getD 1 undef)) ⟨ho.c0,ho.c1,hG.1.2,ho.c3,ho.c4,ho.c5,ho.c6,ho.c7,ho.c8⟩),trivial⟩) (fun S w hw hG=>have ho:=hG.2.1; ⟨⟨ho.c0,ho.c1,hG.1.2,ho.c3,ho.c4,ho.c5,ho.c6,ho.c7,ho.c8⟩,trivial⟩))
  ·have hX:=hk
   refine G7 7 hc' ?_
   refine b7 7 ?_
   refine j3 [] ((az0 m 7 x).and ((bm3 m 7 o).and (Gh.nil))) (by exact fun _ _ h=>⟨h.1,h.2.1,trivial⟩) (fun g η=>g) (fun g η=>(by kernel_rfl)) ?_
   intro η_1
   exact I0 hc' (ab4 ((8,an1 o 5 (x.getD 1 undef))) (by kernel_rfl) (⟨(show (8 : Nat) ≤ 9 by decide),rfl⟩) (ai5) (fun S w hw hG=>have ho:=hG.2.1; ae9 (m:=3) rfl ⟨trivial,(M9 (S:=S) (w:=w) (m:=m)).blk,(OutC.blk (S:=S) (w:=w) (m:=m) (k:=8) (o:=an1 o 5 (x.getD 1 undef)) ⟨ho.c0,ho.c1,ho.c2,ho.c3,ho.c4,hG.1.2,ho.c6,ho.c7,ho.c8⟩),trivial⟩) (fun S w hw hG=>have ho:=hG.2.1; ⟨⟨ho.c0,ho.c1,ho.c2,ho.c3,ho.c4,hG.1.2,ho.c6,ho.c7,ho.c8⟩,trivial⟩))
  have hX:=hk
  refine G7 7 hc' ?_
  refine b7 7 ?_
  refine j3 [] ((az0 m 8 x).and ((bm3 m 8 o).and (Gh.nil))) (by exact fun _ _ h=>⟨h.1,h.2.1,trivial⟩) (fun g η=>g) (fun g η=>(by kernel_rfl)) ?_
  intro η_1
  exact I0 hc' (ab4 ((9,an1 o 8 (x.getD 1 undef))) (by kernel_rfl) (⟨(show (9 : Nat) ≤ 9 by decide),rfl⟩) (ai5) (fun S w hw hG=>have ho:=hG.2.1; ae9 (m:=3) rfl ⟨trivial,(M9 (S:=S) (w:=w) (m:=m)).blk,(OutC.blk (S:=S) (w:=w) (m:=m) (k:=9) (o:=an1 o 8 (x.getD 1 undef)) ⟨ho.c0,ho.c1,ho.c2,ho.c3,ho.c4,ho.c5,ho.c6,ho.c7,hG.1.2⟩),trivial⟩) (fun S w hw hG=>have ho:=hG.2.1; ⟨⟨ho.c0,ho.c1,ho.c2,ho.c3,ho.c4,ho.c5,ho.c6,ho.c7,hG.1.2⟩,trivial⟩))
 ·intro D j hj hk3
  obtain ⟨k0,o⟩:=j
  simp only at hk3
  subst hk3
  exact db7 (ad0 (o 0) (o 1) (o 2) (o 3) (o 4) (o 5) (o 6) (o 7) (o 8)) [D] [3] ⟨b9,hS,j6⟩ (by kernel_rfl) rfl (by kernel_rfl) (by kernel_rfl) ⟨by kernel_rfl,trivial⟩ (fun β=>by kernel_rfl) (fun β S w hM hs hw hG=>⟨hw,(A4 _ m.adj).mono hG.1.all.map fun k _ hk=>(hs k hk).1⟩)
 rintro D j e he _
 exact he.elim
theorem bx2 {P : Program} (w : World) (dT sT ty elem : TypeId) (g o dLen dCap : Nat) (a : Addr) (sLen sCap sz : Nat) (cur : Array Value) (t : TypeId) (cs : List Value)
  (hu : P.underlying dT = some (.slice elem)) (hs : (P.info? elem).map (·.size) = some sz)
  (hg : w.heap[g]? = some (.cells cur t (0,0))) (hn : cs.length = Nat.min sLen dLen * sz)
  (hsrc : ∀ j v,cs[j]? = some v → w.cell? (a.add j) = some v) (hfit : o + cs.length ≤ cur.size) (h1 : ∀ v ∈ cs,v.oneCell' = true) :
  (Builtin.copy_ #[dT,sT] ty #[.slice (some ⟨g,o,none⟩) dLen dCap,.slice (some a) sLen sCap]).run P w =
   .ok (goInt (Nat.min sLen dLen)) (w.setRow g (cur.toList.take o ++ cs ++ cur.toList.drop (o + cs.length)).toArray):=by
 have hl:=run_loadCells_list (P:=P) w a cs hsrc
 have hst:=run_storeCells_at P g o t cs 0 cur w hg (by simpa using hfit) h1
 cases hq : P.info? elem with
 | none=>simp [hq] at hs
 | some i=>
  have hi : i.size = sz:=by simpa [hq] using hs
  simp [Builtin.copy_,run_underlying hu,Builtin.lenOf,Builtin.firstCells,sizeOf,typeInfo,hq,hi,← hn,hl,hst]
section
variable {c : Cx} {o : Out} {G : Gh}
def cpQ (E : Env) (o : Out) : Option ((Nat × Nat × Nat) × (Nat × Nat × Nat) × Nat):=match bb5 o with
 | some (_,.call ⟨.builtin .copy,args,ts⟩)=>match args.toList,ts.toList with
  | [x,y],[t,t']=>match opd o.st.fr x,opd o.st.fr y,D1 E t with
   | some (.one (.win b k n _)),some (.one (.win b' k' n' _)),.slice e=>(E.get e).map fun te=>((b,k,n),(b',k',n'),te.size)
   | _,_,_=>none
  | _,_=>none
 | _=>none
theorem do1 [Rd] (b k n b' k' n' m sz : Nat) (T T' : TypeId) (l l' src new : List Ch) (hq : cpQ c.E o = some ((b,k,n),(b',k',n'),sz)) (hb : nth o.st.hp b = some (.blk T l)) (hb' : nth o.st.hp b' = some (.blk T' l')) (hc : c.Ok) (hm : Nat.min n' n = m)
  (hl : ldL l' k' (m * sz) = some src) (hst : stL l k (m * sz) src = some new) (hn : Run c (W4 o (.one (.lit .i64 m)) (Y1 o.st.hp b (.blk T new))) G) : Run c o G:=by
 refine ⟨fun β ρ w hS hw hG=>?_⟩
 unfold cpQ at hq
 split at hq <;> first | (cases hq; done) | skip
 rename_i d args ts hop
 split at hq <;> first | (cases hq; done) | skip
 rename_i x yo t t' hargs hts
 obtain rfl : args = #[x,yo]:=by rw [← Array.toArray_toList (xs:=args),hargs]
 obtain rfl : ts = #[t,t']:=by rw [← Array.toArray_toList (xs:=ts),hts]
 split at hq <;> first | (cases hq; done) | skip
 rename_i b1 k1 n1 c1 b2 k2 n2 c2 e hx hy hk
 cases hte : c.E.get e with
 | none=>rw [hte] at hq; cases hq
 | some te=>
  rw [hte] at hq
  simp only [Option.map_some,Option.some.injEq,Prod.mk.injEq] at hq
  obtain ⟨⟨rfl,rfl,rfl⟩,⟨rfl,rfl,rfl⟩,rfl⟩:=hq
  unfold bb5 at hop
  cases hcur : o.cur with
  | code x=>rw [hcur] at hop; cases hop
  | ex e=>rw [hcur] at hop; cases hop
  | ops all ll=>
   cases ll with
   | nil=>rw [hcur] at hop; cases hop
   | cons o1 r=>
    rw [hcur] at hop
    obtain ⟨dst,op',ty,pos,aft,g⟩:=o1
    simp only at hop
    cases g with
    | some x=>cases hop
    | none=>
     cases dst with
     | none=>cases hop
     | some d'=>
      simp only [Option.some.injEq,Prod.mk.injEq] at hop
      obtain ⟨rfl,rfl⟩:=hop
      have hkn:=hS.ops (.call ⟨.builtin .copy,#[x,yo],#[t,t']⟩)
      have g1 : ev ρ x = .slice (some ⟨β b1,k1,none⟩) n1 c1:=((hkn x (by simp [Op.operands,Call.operands])) _ hx).1
      have g2 : ev ρ yo = .slice (some ⟨β b2,k2,none⟩) n2 c2:=((hkn yo (by simp [Op.operands,Call.operands])) _ hy).1
      have hkd:=D8 (t:=t) hc.env
      rw [hk] at hkd
      have hkd' : c.P.underlying t = some (.slice e):=hkd
      obtain ⟨z,hty,_⟩:=(hc.env.get hte).ty
      obtain ⟨ti,hi,e1,e2,e3⟩:=hty.ex
      have hb2:=hb
      have hb3:=hb'
      rw [M5] at hb2 hb3
      obtain ⟨hB,hok⟩:=hS.mem.blk b1 T l hb2
      obtain ⟨hB',hok'⟩:=hS.mem.blk b2 T' l' hb3
      obtain ⟨s1,s2,s3⟩:=b86 (β:=β) hl hok'
      obtain ⟨r1,r2,r3⟩:=bg4 (β:=β) hst hok s3
      have hr:=bx2 (P:=c.P) w t t' ty e (β b1) k1 n1 c1 ⟨β b2,k2,none⟩ n2 c2 te.size (d6 β l).toArray T (d6 β src) hkd' (by rw [hi]; simp [e1]) hB (by rw [s2,← hm]) (fun j u hu=>?_) (by simp; omega) (S9 s3)
      ·have e11 : ((d6 β l).toArray.toList.take k1 ++ d6 β src ++ (d6 β l).toArray.toList.drop (k1 + (d6 β src).length)).toArray = (d6 β new).toArray:=by
        rw [← r1,s2]
       rw [e11,hm] at hr
       have k1' : Wrt (β b1) w (w.setRow (β b1) (d6 β new).toArray):=⟨rfl,rfl,rfl,by simp [World.setRow],fun i _ hi=>setRow_other w _ i _ hi⟩
       have hB2 : Blk (w.setRow (β b1) (d6 β new).toArray) (β b1) T (d6 β new):=setRow_heap w _ _ _ T (0,0) hB
       have hS2:=hS.wr hb2 r3 k1' hB2
       have hmb : m9 β o.st.hp b1 (β b1):=⟨_,hb2,rfl⟩
       have hrun : (execOp (ev ρ) ⟨some d',.call ⟨.builtin .copy,#[x,yo],#[t,t']⟩,ty,pos,aft,none⟩).run c.P w = .ok (.value (.int .i64 (m : Int))) (w.setRow (β b1) (d6 β new).toArray):=by
        simp [execOp,resolve,invoke,builtin,g1,g2,hr,goInt]
       refine am2 rfl ?_
       unfold Stp
       rw [hrun]
       have h1:=hn.run
       unfold W4 at h1
       rw [hcur,M4] at h1
       refine h1 β _ _ (hS2.put (d:=d') (s:=.one (.lit .i64 m)) rfl trivial) ?_ ?_
       ·exact Keeps.behind hw k1' fun i hi hk e=>by
         subst e
         rcases (hS.mem.low b1 _ hmb).1 with h6 | h6
         ·have h7 : c.w0.heap.size ≤ β b1:=h6
          omega
         exact h6 hk
       refine G.mono (G.keep hG (k1'.mono fun k hk e=>hk.2 b1 (e ▸ hmb))) fun k _ hk=>⟨hk.1,fun i hi=>?_⟩
       rw [ae0 hb2] at hi
       exact hk.2 i hi
      have hj : j < (d6 β src).length:=by
       have:=(List.getElem?_eq_some_iff.1 hu).1
       exact this
      rw [R4,← hu]
      have h3 : (d6 β src)[j]? = (d6 β l')[k2 + j]?:=by
       rw [← s1,List.getElem?_take,if_pos (by omega),List.getElem?_drop]
      have h4 : k2 + j < (d6 β l').length:=by
       have : (d6 β src)[j]? ≠ none:=by simp; omega
       rw [h3] at this
       simpa using this
      rw [h3,List.getElem?_eq_getElem h4]
      exact hB'.cell (List.getElem?_eq_getElem h4)
noncomputable def cpN (E : Env) (o : Out) : Option Out:=match cpQ E o with
 | some ((b,k,n),(b',k',n'),sz)=>match nth o.st.hp b,nth o.st.hp b' with
  | some (.blk T l),some (.blk _ l')=>(ldL l' k' (Nat.min n' n * sz)).bind fun src=>(stL l k (Nat.min n' n * sz) src).map fun new=>W4 o (.one (.lit .i64 (Nat.min n' n : Nat))) (Y1 o.st.hp b (.blk T new))
  | _,_=>none
 | none=>none
theorem a61 [Rd] (hq : (cpN c.E o).isSome = true) (hc : c.Ok) (hn : Run c ((cpN c.E o).getD o) G) : Run c o G:=by
 cases h : cpN c.E o with
 | none=>rw [h] at hq; cases hq
 | some o'=>
  rw [h] at hn
  simp only [Option.getD_some] at hn
  unfold cpN at h
  split at h <;> first | (cases h; done) | skip
  rename_i b k n b' k' n' sz h1
  split at h <;> first | (cases h; done) | skip
  rename_i T l T' l' h2 h3
  cases h4 : ldL l' k' (Nat.min n' n * sz) with
  | none=>rw [h4] at h; cases h
  | some src=>
   rw [h4] at h
   simp only [Option.bind_some] at h
   cases h5 : stL l k (Nat.min n' n * sz) src with
   | none=>rw [h5] at h; cases h
   | some new=>
    rw [h5] at h
    simp only [Option.map_some,Option.some.injEq] at h
    subst h
    exact do1 b k n b' k' n' (Nat.min n' n) sz T T' l l' src new h1 h2 h3 hc rfl h4 h5 hn
end
end Go.Proofs.YtmjbiocildkhnaaGreatDoor
end

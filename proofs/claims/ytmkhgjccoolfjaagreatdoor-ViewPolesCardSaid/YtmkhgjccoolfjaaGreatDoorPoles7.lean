/- The statement ViewPoles, proved: for every two points, six numbers and five points the law returns true; the listed tables of the library hold what the program's text lays (the given tie). -/
import Derived.Test.YtmkhgjccoolfjaaGreatDoorPoles6
import Derived.Test.YtmkhgjccoolfjaaGreatDoorPoles5
import Derived.Carry
import Derived.Test.YtmkhgjccoolfjaaGreatDoorPoles2
import Derived.Test.YtmkhgjccoolfjaaGreatDoorCards
import Derived.Test.YtmkhgjccoolfjaaGreatDoorTie
import Derived.ProofKit
import Derived.LaidMore
import Derived.OpenShut
import Derived.Stop.Joined
import Derived.SevenTiedAt
import Derived.Lay
set_option linter.unusedSimpArgs false
set_option linter.unusedVariables false
set_option maxRecDepth 100000
set_option maxHeartbeats 8000000
section
namespace Go.Proofs.YtmkhgjccoolfjaaGreatDoor
open Go Go.RowKit Go.Proofs.Tryz
theorem bo6 {c1 c2 c3 c4 c5 c6 : Value} : (ci6 c1 c2 c3 c4 c5 c6).cells.toList = H7 [c1,c2,c3,c4,c5,c6]:=by simp [ci6,H7,SV.den,d8,Ch.cells,Value.cells]
theorem ConV.of_els {S : Nat → Prop} {w : World} {vs : List Value} {k : C6} (h : ElsV true 3 Y5 S w vs k.list) : ∃ v,ConV S w v k ∧ v.cells.toList = H7 vs:=by
 have hl : vs.length = 6:=h.len
 match vs,hl with
 | [c1,c2,c3,c4,c5,c6],_=>exact ⟨_,⟨_,_,_,_,_,_,rfl,⟨h.el 0 _ _ rfl rfl,h.el 1 _ _ rfl rfl,h.el 2 _ _ rfl rfl,h.el 3 _ _ rfl rfl,h.el 4 _ _ rfl rfl,h.el 5 _ _ rfl rfl⟩⟩,bo6⟩
theorem dl4 {S : Nat → Prop} {w : World} {b : Nat} (hS : Up S w) : Gives prog 149 [.pointer (some ⟨b,0,none⟩)] w fun v w'=>v = .slice (some ⟨b,0,none⟩) 6 6 ∧ Ext w w':=by
 refine p7 (E:=env) (S0:=S) (G:=Gh.nil) (l:=[.one (.val (.pointer (some ⟨b,0,none⟩)))]) func149 rfl rfl rfl ⟨rfl,trivial⟩ rfl trivial ?_
 refine n7 (c66 ⟨b,0,none⟩ (by kernel_rfl) ⟨b9,hS,j5⟩  ?_)
 refine n7 (dg4 b 6 (by kernel_rfl) ⟨b9,hS,j5⟩  ?_)
 exact p9 (.slice (some ⟨b,0,none⟩) 6 6) rfl (fun S w hs hw hG=>⟨rfl,hw⟩)
theorem cd3 {S : Nat → Prop} {w : World} {v : Value} {k : C6} {β : Nat → Nat} {m q : Nat} (hS : Up S w) (h : ConV S w v k) (hB : Blk w (β 0) 60 (d8 β [.ag 18 v])) (hb : ¬ S (β 0)) (hn : ¬ M9 k.list) (hl : cl k 400000000000) (hf : cl k.normal q) (hq : q ≤ 3344) :
  Gives prog 162 [.slice (some ⟨β 0,0,none⟩) 6 6] w fun r w'=>Wrt (β 0) w w' ∧ ∃ x,r = SV.und.den β ∧ SV.und.Ok m ∧ True ∧ Blk w' (β 0) 60 (d8 β [.ag 18 x]) ∧ (∀ ch ∈ [Ch.ag 18 x],ch.Ok m) ∧ (H0 x k.normal).p S w':=by
 obtain ⟨c1,c2,c3,c4,c5,c6,rfl,hk⟩:=h
 rw [U6,bo6] at hB
 refine (cc4 (T:=60) (n:=6) hS hB hk.els rfl hb (by decide) (C6.fpos_c hn) (av0 hl) (fun x hx=>Q9 (av0 hf x hx) hq)).mono ?_
 rintro r w' ⟨k',rfl,vs',h1,h2⟩
 obtain ⟨x,h3,h4⟩:=ConV.of_els (k:=k.normal) h2
 exact ⟨k',x,rfl,trivial,trivial,by rw [U6,h4]; exact h1,fun c hc=>by rw [List.mem_singleton.1 hc]; exact Ch.Ok.up (c:=.ag 18 x) h3.ok,h3⟩
theorem cu5 {S : Nat → Prop} {w : World} {v : Value} {k : C6} {q : Nat} (hS : Up S w) (h : ConV S w v k) (hnl : ¬ M9 k.list) (hl : cl k 400000000000) (hf : cl k.normal q) (hq : q ≤ 3344) :
  Gives prog 148 [v,.func (.func 149) #[] #[]] w fun v' w'=>Ext w w' ∧ ConV S w' v' k.normal:=by
 refine p7 (E:=env) (S0:=S) (G:=(H0 v (k))) (l:=[.one (.ag 18 v),.one (.fn 149 [])]) func148 rfl rfl rfl ⟨h.ok,(fun _ h=>by cases h),trivial⟩ rfl h ?_
 refine d79 (.one (.win 0 0 6 6)) ⟨b9,hS,j5⟩ (by kernel_rfl) (by kernel_rfl) (Nat.le_of_ble_eq_true (by kernel_rfl)) (fun β S w hS hM hs hw hG=>(kx (dl4 hS))) ?_
 refine n7 (cn6 162 0 60 ([.ag 18 v]) ⟨b9,hS,j5⟩ (by kernel_rfl) (fun _=>.und) (fun x0=>[.ag 18 x0]) (fun _=>True) (fun x0=>H0 x0 (k.normal)) (by kernel_rfl) (fun β S w hS hs hw hG hB hn=>(kx (cd3 hS hG hB hn hnl hl hf hq))) ?_)
 intro x _
 exact p9 (x) rfl (fun S w hs hw hG=>⟨hw,hG.1.mono fun k _ hk=>hs k hk⟩)
theorem cj4 {S : Nat → Prop} {w : World} {v : Value} {k : C6} {q : Nat} (hS : Up S w) (h : ConV S w v k) (hn : ¬ M9 k.list) (hl : cl k 400000000000) (hf : cl k.normal q) (hq : q ≤ 3344) :
  Gives prog 102 [v] w fun v' w'=>Ext w w' ∧ ConV S w' v' k.normal:=by
 refine p7 (E:=env) (S0:=S) (G:=(H0 v (k))) (l:=[.one (.ag 18 v)]) func102 rfl rfl rfl ⟨h.ok,trivial⟩ rfl h ?_
 refine E9 (fun x0=>.one (.ag 18 x0)) (fun x0=>H0 x0 (k.normal)) (fun β S w hS hs hw hG=>(kx (cu5 hS hG hn hl hf hq))) ?_
 intro x
 exact p9 (x) rfl (fun S w hs hw hG=>⟨hw,hG.1.mono fun k _ hk=>hs k hk⟩)
theorem bi0 {S : Nat → Prop} {w : World} {vp vq : Value} {p q : T3} {m n : Nat} (hS : Up S w) (hp : TripV S w vp p) (hq : TripV S w vq q) (hm : tl p m) (hn : tl q n) (hmn : 2 * (m + n + 1) + 1 ≤ 3344) :
  Gives prog 101 [vp,vq] w fun v' w'=>Ext w w' ∧ ConV S w' v' (C6.prod p q):=by
 obtain ⟨a1,b1,c1,rfl,ha1,hb1,hc1⟩:=hp
 obtain ⟨a2,b2,c2,rfl,ha2,hb2,hc2⟩:=hq
 refine p7 (E:=env) (S0:=S) (G:=((b8 a1 p.x).and ((b8 b1 p.y).and ((b8 c1 p.z).and ((b8 a2 q.x).and ((b8 b2 q.y).and (b8 c2 q.z))))))) (l:=[.agg [.ag 3 a1,.ag 3 b1,.ag 3 c1],.agg [.ag 3 a2,.ag 3 b2,.ag 3 c2]]) func101 rfl rfl rfl ⟨K0 ⟨ha1.okc,hb1.okc,hc1.okc,trivial⟩,K0 ⟨ha2.okc,hb2.okc,hc2.okc,trivial⟩,trivial⟩ rfl ⟨ha1,hb1,hc1,ha2,hb2,hc2⟩ ?_
 refine s7 ?_
 refine q6 8 ?_
 refine d9 7 ?_
 refine q9 (fun x0=>.one (.ag 3 x0)) (fun x0=>b8 x0 ((p.x * q.x))) (fun β η S w hS hs hw hG hd=>(kx (n8 hS hG.1 hG.2.2.2.1 hm.1 hn.1))) ?_
 refine o6 [true] ((b8 a1 p.x).and ((b8 b1 p.y).and ((b8 c1 p.z).and ((b8 a2 q.x).and ((b8 b2 q.y).and ((b8 c2 q.z).and (Gh.nil))))))) (by exact fun _ _ h=>⟨h.1,h.2.1,h.2.2.1,h.2.2.2.1,h.2.2.2.2.1,h.2.2.2.2.2,trivial⟩) (fun g η=>(b8 (η 7) ((p.x * q.x))).and g) (fun g η=>(by kernel_rfl)) ?_
 intro η_1
 refine q6 18 ?_
 refine d9 8 ?_
 refine q9 (fun x0=>.one (.ag 3 x0)) (fun x0=>b8 x0 ((p.y * q.z))) (fun β η S w hS hs hw hG hd=>(kx (n8 hS hG.2.2.1 hG.2.2.2.2.2.2.1 hm.2.1 hn.2.2))) ?_
 refine d9 6 ?_
 refine q9 (fun x0=>.one (.ag 3 x0)) (fun x0=>b8 x0 ((p.z * q.y))) (fun β η S w hS hs hw hG hd=>(kx (n8 hS hG.2.2.2.1 hG.2.2.2.2.2.1 hm.2.2 hn.2.1))) ?_
 refine I6 53 3 2 (fun x0=>B6 x0 [p.y * q.z,p.z * q.y]) (fun β η S w x0 w' hS hs hw hG hd hk hrow=>ae7 ((n9 hd 8 : (b8 (η 8) ((p.y * q.z))).p S w).to hk) ((n9 hd 15 : (b8 (η 15) ((p.z * q.y))).p S w).to hk) (kcQ hrow)) ?_
 refine q9 (fun x0=>.one (.ag 3 x0)) (fun x0=>b8 x0 ((p.y * q.z + p.z * q.y))) (fun β η S w hS hs hw hG hd=>(kx (K4 (m:=m + n) (al9 _ _) hS (n9 hd 16 : (B6 (η 16) [p.y * q.z,p.z * q.y]).p S w) (ad4 (q7 hm.2.1 hn.2.2) (q7 hm.2.2 hn.2.1)) (by simp only [List.length]; omega)))) ?_
 refine o6 [true,false,false,false] ((b8 (η_1 7) ((p.x * q.x))).and ((b8 a1 p.x).and ((b8 b1 p.y).and ((b8 c1 p.z).and ((b8 a2 q.x).and ((b8 b2 q.y).and ((b8 c2 q.z).and (Gh.nil)))))))) (by exact fun _ _ h=>⟨h.1,h.2.1,h.2.2.1,h.2.2.2.1,h.2.2.2.2.1,h.2.2.2.2.2.1,h.2.2.2.2.2.2.1,trivial⟩) (fun g η=>(b8 (η 17) ((p.y * q.z + p.z * q.y))).and g) (fun g η=>(by kernel_rfl)) ?_
 intro η_2
 refine s7 ?_
 refine q6 8 ?_
 refine d9 7 ?_
 refine q9 (fun x0=>.one (.ag 3 x0)) (fun x0=>b8 x0 ((p.y * q.y))) (fun β η S w hS hs hw hG hd=>(kx (n8 hS hG.2.2.2.1 hG.2.2.2.2.2.2.1 hm.2.1 hn.2.1))) ?_
 refine o6 [true] ((b8 (η_2 17) ((p.y * q.z + p.z * q.y))).and ((b8 (η_1 7) ((p.x * q.x))).and ((b8 a1 p.x).and ((b8 b1 p.y).and ((b8 c1 p.z).and ((b8 a2 q.x).and ((b8 b2 q.y).and ((b8 c2 q.z).and (Gh.nil))))))))) (by exact fun _ _ h=>⟨h.1,h.2.1,h.2.2.1,h.2.2.2.1,h.2.2.2.2.1,h.2.2.2.2.2.1,h.2.2.2.2.2.2.1,h.2.2.2.2.2.2.2.1,trivial⟩) (fun g η=>(b8 (η 7) ((p.y * q.y))).and g) (fun g η=>(by kernel_rfl)) ?_
 intro η_3
 refine q6 18 ?_
 refine d9 8 ?_
 refine q9 (fun x0=>.one (.ag 3 x0)) (fun x0=>b8 x0 ((p.z * q.x))) (fun β η S w hS hs hw hG hd=>(kx (n8 hS hG.2.2.2.2.2.1 hG.2.2.2.2.2.2.1 hm.2.2 hn.1))) ?_
 refine d9 6 ?_
 refine q9 (fun x0=>.one (.ag 3 x0)) (fun x0=>b8 x0 ((p.x * q.z))) (fun β η S w hS hs hw hG hd=>(kx (n8 hS hG.2.2.2.1 hG.2.2.2.2.2.2.2.2.1 hm.1 hn.2.2))) ?_
 refine I6 53 3 2 (fun x0=>B6 x0 [p.z * q.x,p.x * q.z]) (fun β η S w x0 w' hS hs hw hG hd hk hrow=>ae7 ((n9 hd 8 : (b8 (η 8) ((p.z * q.x))).p S w).to hk) ((n9 hd 15 : (b8 (η 15) ((p.x * q.z))).p S w).to hk) (kcQ hrow)) ?_
 refine q9 (fun x0=>.one (.ag 3 x0)) (fun x0=>b8 x0 ((p.z * q.x + p.x * q.z))) (fun β η S w hS hs hw hG hd=>(kx (K4 (m:=m + n) (al9 _ _) hS (n9 hd 16 : (B6 (η 16) [p.z * q.x,p.x * q.z]).p S w) (ad4 (q7 hm.2.2 hn.1) (q7 hm.1 hn.2.2)) (by simp only [List.length]; omega)))) ?_
 refine o6 [true,false,false,false] ((b8 (η_3 7) ((p.y * q.y))).and ((b8 (η_2 17) ((p.y * q.z + p.z * q.y))).and ((b8 (η_1 7) ((p.x * q.x))).and ((b8 a1 p.x).and ((b8 b1 p.y).and ((b8 c1 p.z).and ((b8 a2 q.x).and ((b8 b2 q.y).and ((b8 c2 q.z).and (Gh.nil)))))))))) (by exact fun _ _ h=>⟨h.1,h.2.1,h.2.2.1,h.2.2.2.1,h.2.2.2.2.1,h.2.2.2.2.2.1,h.2.2.2.2.2.2.1,h.2.2.2.2.2.2.2.1,h.2.2.2.2.2.2.2.2.1,trivial⟩) (fun g η=>(b8 (η 17) ((p.z * q.x + p.x * q.z))).and g) (fun g η=>(by kernel_rfl)) ?_
 intro η_4
 refine s7 ?_
 refine q6 8 ?_
 refine d9 7 ?_
 refine q9 (fun x0=>.one (.ag 3 x0)) (fun x0=>b8 x0 ((p.z * q.z))) (fun β η S w hS hs hw hG hd=>(kx (n8 hS hG.2.2.2.2.2.2.1 hG.2.2.2.2.2.2.2.2.2.1 hm.2.2 hn.2.2))) ?_
 refine o6 [true] ((b8 (η_4 17) ((p.z * q.x + p.x * q.z))).and ((b8 (η_3 7) ((p.y * q.y))).and ((b8 (η_2 17) ((p.y * q.z + p.z * q.y))).and ((b8 (η_1 7) ((p.x * q.x))).and ((b8 a1 p.x).and ((b8 b1 p.y).and ((b8 a2 q.x).and ((b8 b2 q.y).and (Gh.nil))))))))) (by exact fun _ _ h=>⟨h.1,h.2.1,h.2.2.1,h.2.2.2.1,h.2.2.2.2.1,h.2.2.2.2.2.1,h.2.2.2.2.2.2.2.1,h.2.2.2.2.2.2.2.2.1,trivial⟩) (fun g η=>(b8 (η 7) ((p.z * q.z))).and g) (fun g η=>(by kernel_rfl)) ?_
 intro η_5
 refine q6 18 ?_
 refine d9 8 ?_
 refine q9 (fun x0=>.one (.ag 3 x0)) (fun x0=>b8 x0 ((p.x * q.y))) (fun β η S w hS hs hw hG hd=>(kx (n8 hS hG.2.2.2.2.2.1 hG.2.2.2.2.2.2.2.2.1 hm.1 hn.2.1))) ?_
 refine d9 6 ?_
 refine q9 (fun x0=>.one (.ag 3 x0)) (fun x0=>b8 x0 ((p.y * q.x))) (fun β η S w hS hs hw hG hd=>(kx (n8 hS hG.2.2.2.2.2.2.1 hG.2.2.2.2.2.2.2.1 hm.2.1 hn.1))) ?_
 refine I6 53 3 2 (fun x0=>B6 x0 [p.x * q.y,p.y * q.x]) (fun β η S w x0 w' hS hs hw hG hd hk hrow=>ae7 ((n9 hd 8 : (b8 (η 8) ((p.x * q.y))).p S w).to hk) ((n9 hd 15 : (b8 (η 15) ((p.y * q.x))).p S w).to hk) (kcQ hrow)) ?_
 refine q9 (fun x0=>.one (.ag 3 x0)) (fun x0=>b8 x0 ((p.x * q.y + p.y * q.x))) (fun β η S w hS hs hw hG hd=>(kx (K4 (m:=m + n) (al9 _ _) hS (n9 hd 16 : (B6 (η 16) [p.x * q.y,p.y * q.x]).p S w) (ad4 (q7 hm.1 hn.2.1) (q7 hm.2.1 hn.1)) (by simp only [List.length]; omega)))) ?_
 refine o6 [true,false,false,false] ((b8 (η_5 7) ((p.z * q.z))).and ((b8 (η_4 17) ((p.z * q.x + p.x * q.z))).and ((b8 (η_3 7) ((p.y * q.y))).and ((b8 (η_2 17) ((p.y * q.z + p.z * q.y))).and ((b8 (η_1 7) ((p.x * q.x))).and (Gh.nil)))))) (by exact fun _ _ h=>⟨h.1,h.2.1,h.2.2.1,h.2.2.2.1,h.2.2.2.2.1,trivial⟩) (fun g η=>(b8 (η 17) ((p.x * q.y + p.y * q.x))).and g) (fun g η=>(by kernel_rfl)) ?_
 intro η_6
 refine s7 ?_
 exact p9 (ci6 (η_1 7) (η_3 7) (η_5 7) (η_2 17) (η_4 17) (η_6 17)) rfl (fun S w hs hw hG=>⟨hw,(ConC.mono (k:=C6.prod p q) ⟨hG.2.2.2.2.2.1,hG.2.2.2.1,hG.2.1,hG.2.2.2.2.1,hG.2.2.1,hG.1⟩ fun k _ hk=>hs k hk).con⟩)
theorem cq0 {p q : T3} {m n : Nat} (hm : tl p m) (hn : tl q n) : cl (C6.prod p q) (2 * (m + n) + 1):=
 ⟨m6 (q7 hm.1 hn.1),m6 (q7 hm.2.1 hn.2.1),m6 (q7 hm.2.2 hn.2.2),m6 (ae0 (q7 hm.2.1 hn.2.2) (q7 hm.2.2 hn.2.1)),m6 (ae0 (q7 hm.2.2 hn.1) (q7 hm.1 hn.2.2)),m6 (ae0 (q7 hm.1 hn.2.1) (q7 hm.2.1 hn.1))⟩
theorem d88 {k : C6} {m n : Nat} (h : cl k m) (hmn : m ≤ n) : cl k n:=⟨O1 h.1 hmn,O1 h.2.1 hmn,O1 h.2.2.1 hmn,O1 h.2.2.2.1 hmn,O1 h.2.2.2.2.1 hmn,O1 h.2.2.2.2.2 hmn⟩
theorem dn0 {a b : C6} {x y : Rat} {m n : Nat} (ha : cl a m) (hb : cl b m) (hy : rl y n) (hx : rl x n) : cl (C6.comb y a x b) (2 * (m + n) + 1):=by
 have h : ∀ {u v : Rat},rl u m → rl v m → rl (y * u + -(x * v)) (2 * (m + n) + 1):=fun h1 h2=>m6 (ae0 (q7 hy h1) (L4 (q7 hx h2)))
 exact ⟨h ha.1 hb.1,h ha.2.1 hb.2.1,h ha.2.2.1 hb.2.2.1,h ha.2.2.2.1 hb.2.2.2.1,h ha.2.2.2.2.1 hb.2.2.2.2.1,h ha.2.2.2.2.2 hb.2.2.2.2.2⟩
namespace P5
theorem at_get {s : P5} {i : Nat} (h : i < 5) : s.list[i]? = some (s.at' i):=by
 match i,h with
 | 0,_=>rfl
 | 1,_=>rfl
 | 2,_=>rfl
 | 3,_=>rfl
 | 4,_=>rfl
theorem at_mem {s : P5} {i : Nat} (h : i < 5) : s.at' i ∈ s.list:=List.mem_of_getElem? (at_get h)
open Classical in
theorem on_step {s : P5} {u v : T3} {k : Nat} (h : k < 5) : cnt u v (s.list.take (k + 1)) = cnt u v (s.list.take k) + if T3.Flat u v (s.at' k) then 1 else 0:=by
 have e : s.list.take (k + 1) = s.list.take k ++ [s.at' k]:=by
  match k,h with
  | 0,_=>rfl
  | 1,_=>rfl
  | 2,_=>rfl
  | 3,_=>rfl
  | 4,_=>rfl
 rw [e,c47]
theorem cnt_5 {s : P5} {u v : T3} (k : Nat) : cnt u v (s.list.take k) ≤ 5:=Nat.le_trans (d09 _ _ _) (by rw [List.length_take]; exact Nat.min_le_right _ _)
end P5
theorem b62 {S : Nat → Prop} {w : World} {u : Value} {s : P5} {q : Nat} (ht : Tab w) (hS : Up S w) (o : u.oneCell' = true) (h : TrAP S w u s.list) (hT : ∀ t ∈ s.list,tl t 1) (hb : ∀ t ∈ s.list,D5 t = 0) (hN : s.Fine → ¬ M9 s.con.list ∧ cl s.con.normal q) (hq : q ≤ 3344) :
  GivesE prog 100 [u] w (fun v' w'=>Ext w w' ∧ ConV S w' v' s.con.normal ∧ s.Fine) fun ch w'=>ch = J2 61 ∧ Ext w w' ∧ ¬ s.Fine:=by
 have T0:=hT _ (P5.at_mem (s:=s) (i:=0) (by decide))
 have T1:=hT _ (P5.at_mem (s:=s) (i:=1) (by decide))
 have T2:=hT _ (P5.at_mem (s:=s) (i:=2) (by decide))
 have T3':=hT _ (P5.at_mem (s:=s) (i:=3) (by decide))
 have T4:=hT _ (P5.at_mem (s:=s) (i:=4) (by decide))
 have A1:=cq0 (r9 T0 T1) (r9 T2 T3')
 have B1:=cq0 (r9 T0 T2) (r9 T1 T3')
 have A2 : rl (s.ca.val s.p4) 284:=ds7 A1 T4
 have B2 : rl (s.cb.val s.p4) 284:=ds7 B1 T4
 refine J8 (E:=env) (S0:=S) (G:=(ap9 u s.list)) (l:=[.one (.val u)]) func100 rfl rfl rfl ⟨o,trivial⟩ rfl h ?_
 refine n7 (dx7 u 5 (fun x0=>ap3 x0 s.list) (by kernel_rfl) ⟨b9,hS,j5⟩ (fun β S w hM hw hG=>hG.seq rfl (by decide)) ?_)
 intro v0
 refine z7 (.und) rfl (fun β S w hS hs hw hG=>(kx (M2 (ht.to hw) hS hG.1 (fun t ht=>cp1 (hT t ht) (by decide)) hb))) ?_
 refine ah2 (ι:=Nat) [(2,4),(6,6),(15,49)] (fun i=>[(15,.one (.int .i64 (i : Int)))]) (fun _=>[]) (fun i=>((ap3 v0 s.list).and (ap9 u s.list))) (fun i=>i ≤ 5 ∧ ∀ a b,b < a → a < i → ¬ s.BadP a b) (fun i=>5 - i) (0) ⟨b9,hS,j5⟩ (by kernel_rfl) (by kernel_rfl) (fun β=>(by kernel_rfl)) (fun β=>(by kernel_rfl)) (by kernel_rfl) (⟨by decide,fun a b _ h=>absurd h (Nat.not_lt_zero _)⟩) (fun S w hw hG=>⟨B9 rfl,fun p hp=>by cases hp⟩) (fun S w hw hG=>hG) (fun hso i hi=>?_)
 have hso1:=hso
 have hi1:=hi.1
 refine R8 (p:=(i : Int) < 5) (fun hi5=>?_) (fun hi5=>?_)
 ·have hi6 : i < 5:=by omega
  refine ah2 (ι:=Nat) [(3,4),(6,6),(19,48)] (fun j=>[(19,.one (.int .i64 (j : Int)))]) (fun _=>[]) (fun j=>((ap3 v0 s.list).and (ap9 u s.list))) (fun j=>j ≤ i ∧ ∀ b,b < j → ¬ s.BadP i b) (fun j=>i - j) (0) ⟨b9,hS,j5⟩ (by kernel_rfl) (by kernel_rfl) (fun β=>(by kernel_rfl)) (fun β=>(by kernel_rfl)) (by kernel_rfl) (⟨Nat.zero_le _,fun b h=>absurd h (Nat.not_lt_zero _)⟩) (fun S w hw hG=>⟨B9 rfl,fun p hp=>by cases hp⟩) (fun S w hw hG=>hG) (fun hso j hj=>?_)
  have hso2:=hso
  have hj1:=hj.1
  refine R8 (p:=(j : Int) < (i : Int)) (fun hji=>?_) (fun hji=>?_)
  ·have hj6 : j < i:=by omega
   have hj5 : j < 5:=by omega
   have Ti:=hT _ (P5.at_mem (s:=s) hi6)
   have Tj:=hT _ (P5.at_mem (s:=s) hj5)
   refine q6 6 ?_
   refine d9 1 ?_
   refine bv8 u 5 (i : Int) 9 ⟨b9,hS,j5⟩ (fun η=>(by kernel_rfl)) (fun η=>(by kernel_rfl)) (by omega) (by omega) (fun β η S w hM hw hG hd=>hG.2.ptr) ?_
   refine B8 (fun η=>η 1) 55 9 true (fun x0=>.one (.ag 9 x0)) (fun x0=>j6 x0 ((s.at' i))) ⟨b9,hS,j5⟩ (fun β η S w hM hw hG hd=>hG.2.el (P5.at_get hi6) (n9 hd 1 : (A7 ((η 1) = o8 u (Int.toNat (i : Int) * 9))).p S w)) ?_
   refine d9 1 ?_
   refine bv8 u 5 (j : Int) 9 ⟨b9,hS,j5⟩ (fun η=>(by kernel_rfl)) (fun η=>(by kernel_rfl)) (by omega) (by omega) (fun β η S w hM hw hG hd=>hG.2.ptr) ?_
   refine B8 (fun η=>η 4) 55 9 true (fun x0=>.one (.ag 9 x0)) (fun x0=>j6 x0 ((s.at' j))) ⟨b9,hS,j5⟩ (fun β η S w hM hw hG hd=>hG.2.el (P5.at_get hj5) (n9 hd 4 : (A7 ((η 4) = o8 u (Int.toNat (j : Int) * 9))).p S w)) ?_
   refine ab5 (fun η=>((j6 (η 5) ((s.at' j))).and ((A7 ((η 4) = o8 u (Int.toNat (j : Int) * 9))).and ((j6 (η 2) ((s.at' i))).and ((A7 ((η 1) = o8 u (Int.toNat (i : Int) * 9))).and ((ap3 v0 s.list).and (ap9 u s.list))))))) (by kernel_rfl) (fun η=>(by kernel_rfl)) ?_
   intro η_1
   refine z7 (.one (.tp (T3.Same (s.at' i) (s.at' j)))) rfl (fun β S w hS hs hw hG=>(kx (W9 hS hG.2.2.1 hG.1 Ti Tj (by omega)))) ?_
   refine R8 (p:=T3.Same (s.at' i) (s.at' j)) (fun e1=>?_) (fun e1=>?_)
   ·have hbad : ¬ s.Fine:=fun g=>g i j hj6 hi6 (.inl e1)
    exact bk3 ⟨b9,hS,j5⟩ (by kernel_rfl) (by kernel_rfl) (fun β S w hS hM hs hw hG=>(kx (bx6 (X4 (e:=61)) (fun w' hk' ρ=>ak6 ⟨rfl,hw.trans hk',hbad⟩))))
   refine n7 (p8 u 87 45 true (fun x0=>.one (.ag 45 x0)) (fun x0=>cu0 45 x0 (s.list)) (fun β S w hM hw hG=>hG.2.2.2.2.2.whole rfl) ?_)
   intro v5
   refine ah2 (ι:=Nat × Int) [(4,4),(6,6),(31,44)] (fun k=>[(31,.one (.int .i64 (k.1 : Int))),(4,.one (.int .i64 k.2))]) (fun _=>[]) (fun k=>((cu0 45 v5 (s.list)).and ((j6 (η_1 5) ((s.at' j))).and ((A7 ((η_1 4) = o8 u (Int.toNat (j : Int) * 9))).and ((j6 (η_1 2) ((s.at' i))).and ((A7 ((η_1 1) = o8 u (Int.toNat (i : Int) * 9))).and ((ap3 v0 s.list).and (ap9 u s.list)))))))) (fun k=>k.1 ≤ 5 ∧ k.2 = (P5.cnt (s.at' i) (s.at' j) (s.list.take k.1) : Nat)) (fun k=>5 - k.1) ((0,0)) ⟨b9,hS,j5⟩ (by kernel_rfl) (by kernel_rfl) (fun β=>(by kernel_rfl)) (fun β=>(by kernel_rfl)) (by kernel_rfl) (⟨by decide,rfl⟩) (fun S w hw hG=>⟨B9 rfl,fun p hp=>by cases hp⟩) (fun S w hw hG=>hG) (fun hso k hk=>?_)
   have hso3:=hso
   have hk1:=hk.1
   have hk2:=hk.2
   have hk3:=P5.cnt_5 (s:=s) (u:=s.at' i) (v:=s.at' j) k.1
   refine R8 (p:=(k.1 : Int) < 5) (fun hk5=>?_) (fun hk5=>?_)
   ·have hk6 : k.1 < 5:=by omega
    have Tk:=hT _ (P5.at_mem (s:=s) hk6)
    refine n7 (d68 v5 5 (k.1 : Int) 9 (fun x0=>j6 x0 (s.at' k.1)) (by kernel_rfl) ⟨b9,hS,j5⟩ (by omega) (by omega) (fun _ _ _ h=>TripV.ok h) (fun S w hw hG=>⟨hG.1.agg,hG.1.at_ (P5.at_get hk6)⟩) ?_)
    intro z3
    refine q6 7 ?_
    refine d9 1 ?_
    refine bv8 u 5 (i : Int) 9 ⟨b9,hS,j5⟩ (fun η=>(by kernel_rfl)) (fun η=>(by kernel_rfl)) (by omega) (by omega) (fun β η S w hM hw hG hd=>hG.2.2.2.2.2.2.2.ptr) ?_
    refine B8 (fun η=>η 1) 55 9 true (fun x0=>.one (.ag 9 x0)) (fun x0=>j6 x0 ((s.at' i))) ⟨b9,hS,j5⟩ (fun β η S w hM hw hG hd=>hG.2.2.2.2.2.2.2.el (P5.at_get hi6) (n9 hd 1 : (A7 ((η 1) = o8 u (Int.toNat (i : Int) * 9))).p S w)) ?_
    refine d9 1 ?_
    refine bv8 u 5 (j : Int) 9 ⟨b9,hS,j5⟩ (fun η=>(by kernel_rfl)) (fun η=>(by kernel_rfl)) (by omega) (by omega) (fun β η S w hM hw hG hd=>hG.2.2.2.2.2.2.2.ptr) ?_
    refine B8 (fun η=>η 4) 55 9 true (fun x0=>.one (.ag 9 x0)) (fun x0=>j6 x0 ((s.at' j))) ⟨b9,hS,j5⟩ (fun β η S w hM hw hG hd=>hG.2.2.2.2.2.2.2.el (P5.at_get hj5) (n9 hd 4 : (A7 ((η 4) = o8 u (Int.toNat (j : Int) * 9))).p S w)) ?_
    refine d9 1 ?_
    refine ab5 (fun η=>((j6 (η 5) ((s.at' j))).and ((A7 ((η 4) = o8 u (Int.toNat (j : Int) * 9))).and ((j6 (η 2) ((s.at' i))).and ((A7 ((η 1) = o8 u (Int.toNat (i : Int) * 9))).and ((j6 z3 (s.at' k.1)).and ((cu0 45 v5 (s.list)).and ((j6 (η_1 5) ((s.at' j))).and ((A7 ((η_1 4) = o8 u (Int.toNat (j : Int) * 9))).and ((j6 (η_1 2) ((s.at' i))).and ((A7 ((η_1 1) = o8 u (Int.toNat (i : Int) * 9))).and ((ap3 v0 s.list).and (ap9 u s.list))))))))))))) (by kernel_rfl) (fun η=>(by kernel_rfl)) ?_
    intro η_2
    refine z7 (.one (.tp (T3.Flat (s.at' i) (s.at' j) (s.at' k.1)))) rfl (fun β S w hS hs hw hG=>(kx (a56 hS hG.2.2.1 hG.1 hG.2.2.2.2.1 Ti Tj Tk (by omega)))) ?_
    refine ck7 (ι:=Int) [(4,4),(42,43)] (fun n=>[(4,.one (.int .i64 n))]) (fun _=>[]) (fun n=>((j6 (η_2 5) ((s.at' j))).and ((A7 ((η_2 4) = o8 u (Int.toNat (j : Int) * 9))).and ((j6 (η_2 2) ((s.at' i))).and ((A7 ((η_2 1) = o8 u (Int.toNat (i : Int) * 9))).and ((j6 z3 (s.at' k.1)).and ((cu0 45 v5 (s.list)).and ((j6 (η_1 5) ((s.at' j))).and ((A7 ((η_1 4) = o8 u (Int.toNat (j : Int) * 9))).and ((j6 (η_1 2) ((s.at' i))).and ((A7 ((η_1 1) = o8 u (Int.toNat (i : Int) * 9))).and ((ap3 v0 s.list).and (ap9 u s.list))))))))))))) (fun n=>n = (P5.cnt (s.at' i) (s.at' j) (s.list.take (k.1 + 1)) : Nat)) ⟨b9,hS,j5⟩ (by kernel_rfl) (fun hso=>?_) (fun n hn=>?_)
    ·refine R8 (p:=T3.Flat (s.at' i) (s.at' j) (s.at' k.1)) (fun e3=>?_) (fun e3=>?_)
     ·refine am2 (ps:=[InR .i64 (k.2 + 1)]) (by simp only [O0,InR,and_true]; omega) ?_
      exact L2 ((k.2 + 1)) hso (by rw [P5.on_step hk6,if_pos e3,hk2]; rfl) (fun S w hw hG=>⟨B9 rfl,fun p hp=>by cases hp⟩) (fun S w hw hG=>hG)
     exact L2 (k.2) hso (by rw [P5.on_step hk6,if_neg e3,hk2]; rfl) (fun S w hw hG=>⟨B9 rfl,fun p hp=>by cases hp⟩) (fun S w hw hG=>hG)
    refine am2 (ps:=[InR .i64 ((k.1 : Int) + 1)]) (by simp only [O0,InR,and_true]; omega) ?_
    exact Z1 ((k.1 + 1,n)) ⟨b9,hS,j5⟩ hso (by kernel_rfl) (by kernel_rfl) (fun β=>(by kernel_rfl)) (fun β=>(by kernel_rfl)) (by kernel_rfl) (⟨by simp only; omega,hn⟩) (by simp only; omega) (fun S w hw hG=>⟨B9 rfl,fun p hp=>by cases hp⟩) (fun S w hw hG=>hG.2.2.2.2.2)
   refine ag4 ?_
   have hk4 : k.1 = 5:=by omega
   rw [hk4] at hk2
   have hon : s.on (s.at' i) (s.at' j) = P5.cnt (s.at' i) (s.at' j) (s.list.take 5):=rfl
   have hso:=hso2
   refine R8 (p:=3 < k.2) (fun e2=>?_) (fun e2=>?_)
   ·have hbad : ¬ s.Fine:=fun g=>g i j hj6 hi6 (.inr (by rw [hon]; omega))
    exact bk3 ⟨b9,hS,j5⟩ (by kernel_rfl) (by kernel_rfl) (fun β S w hS hM hs hw hG=>(kx (bx6 (X4 (e:=61)) (fun w' hk' ρ=>ak6 ⟨rfl,hw.trans hk',hbad⟩))))
   have hnb : ¬ s.BadP i j:=fun hb'=>hb'.elim e1 fun g=>e2 (by rw [hon] at g; omega)
   refine am2 (ps:=[InR .i64 ((j : Int) + 1)]) (by simp only [O0,InR,and_true]; omega) ?_
   exact Z1 (j + 1) ⟨b9,hS,j5⟩ hso (by kernel_rfl) (by kernel_rfl) (fun β=>(by kernel_rfl)) (fun β=>(by kernel_rfl)) (by kernel_rfl) (⟨by omega,fun b hb'=>(Nat.lt_succ_iff_lt_or_eq.1 hb').elim (fun g=>hj.2 b g) (fun g=>g ▸ hnb)⟩) (by omega) (fun S w hw hG=>⟨B9 rfl,fun p hp=>by cases hp⟩) (fun S w hw hG=>hG.2.2.2.2.2)
  refine ag4 ?_
  have hso:=hso1
  have hij : j = i:=by omega
  have hj2 : ∀ b,b < i → ¬ s.BadP i b:=hij ▸ hj.2
  refine am2 (ps:=[InR .i64 ((i : Int) + 1)]) (by simp only [O0,InR,and_true]; omega) ?_
  exact Z1 (i + 1) ⟨b9,hS,j5⟩ hso (by kernel_rfl) (by kernel_rfl) (fun β=>(by kernel_rfl)) (fun β=>(by kernel_rfl)) (by kernel_rfl) (⟨by omega,fun a b hba ha=>(Nat.lt_succ_iff_lt_or_eq.1 ha).elim (fun g=>hi.2 a b hba g) (fun g=>by subst g; exact hj2 b hba)⟩) (by omega) (fun S w hw hG=>⟨B9 rfl,fun p hp=>by cases hp⟩) (fun S w hw hG=>hG)
 have F : s.Fine:=fun a b hba ha=>hi.2 a b hba (by omega)
 refine ag4 ?_
 refine q6 12 ?_
 refine I5 u 5 0 9 ⟨b9,hS,j5⟩ (by decide) (by decide) (fun β η S w hM hw hG hd=>hG.2.ptr) ?_
 refine B8 (fun η=>η 0) 55 9 true (fun x0=>.one (.ag 9 x0)) (fun x0=>j6 x0 (s.p0)) ⟨b9,hS,j5⟩ (fun β η S w hM hw hG hd=>hG.2.el (i:=0) rfl (n9 hd 0 : (A7 ((η 0) = o8 u (Int.toNat 0 * 9))).p S w)) ?_
 refine I5 u 5 1 9 ⟨b9,hS,j5⟩ (by decide) (by decide) (fun β η S w hM hw hG hd=>hG.2.ptr) ?_
 refine B8 (fun η=>η 2) 55 9 true (fun x0=>.one (.ag 9 x0)) (fun x0=>j6 x0 (s.p1)) ⟨b9,hS,j5⟩ (fun β η S w hM hw hG hd=>hG.2.el (i:=1) rfl (n9 hd 2 : (A7 ((η 2) = o8 u (Int.toNat 1 * 9))).p S w)) ?_
 refine q9 (fun x0=>.one (.ag 9 x0)) (fun x0=>j6 x0 ((s.p0.cross s.p1))) (fun β η S w hS hs hw hG hd=>(kx (J7 hS (n9 hd 1 : (j6 (η 1) (s.p0)).p S w) (n9 hd 3 : (j6 (η 3) (s.p1)).p S w) T0 T1 (by omega)))) ?_
 refine I5 u 5 2 9 ⟨b9,hS,j5⟩ (by decide) (by decide) (fun β η S w hM hw hG hd=>hG.2.ptr) ?_
 refine B8 (fun η=>η 5) 55 9 true (fun x0=>.one (.ag 9 x0)) (fun x0=>j6 x0 (s.p2)) ⟨b9,hS,j5⟩ (fun β η S w hM hw hG hd=>hG.2.el (i:=2) rfl (n9 hd 5 : (A7 ((η 5) = o8 u (Int.toNat 2 * 9))).p S w)) ?_
 refine I5 u 5 3 9 ⟨b9,hS,j5⟩ (by decide) (by decide) (fun β η S w hM hw hG hd=>hG.2.ptr) ?_
 refine B8 (fun η=>η 7) 55 9 true (fun x0=>.one (.ag 9 x0)) (fun x0=>j6 x0 (s.p3)) ⟨b9,hS,j5⟩ (fun β η S w hM hw hG hd=>hG.2.el (i:=3) rfl (n9 hd 7 : (A7 ((η 7) = o8 u (Int.toNat 3 * 9))).p S w)) ?_
 refine q9 (fun x0=>.one (.ag 9 x0)) (fun x0=>j6 x0 ((s.p2.cross s.p3))) (fun β η S w hS hs hw hG hd=>(kx (J7 hS (n9 hd 6 : (j6 (η 6) (s.p2)).p S w) (n9 hd 8 : (j6 (η 8) (s.p3)).p S w) T2 T3' (by omega)))) ?_
 refine h_1 (fun x0=>.agg [.ag 3 (cel x0 0 3),.ag 3 (cel x0 3 3),.ag 3 (cel x0 6 3),.ag 3 (cel x0 9 3),.ag 3 (cel x0 12 3),.ag 3 (cel x0 15 3)]) (fun x0=>Y8 x0 (s.ca)) (fun η=>(by kernel_rfl)) (fun _ _ _ h=>b20 h) (fun β η S w hS hs hw hG hd=>have h:=hG.2; (kx ((bi0 hS (n9 hd 4 : (j6 (η 4) ((s.p0.cross s.p1))).p S w) (n9 hd 9 : (j6 (η 9) ((s.p2.cross s.p3))).p S w) (r9 T0 T1) (r9 T2 T3') (by omega)).mono fun v' w' h=>⟨h.1,d52 h.2⟩))) ?_
 refine d9 1 ?_
 refine o6 [true,false,false,false,false,false,false,false,false,false,false] ((ap9 u s.list).and (Gh.nil)) (by exact fun _ _ h=>⟨h.2,trivial⟩) (fun g η=>(Y8 (η 10) (s.ca)).and g) (fun g η=>(by kernel_rfl)) ?_
 intro η_1
 refine q6 12 ?_
 refine I5 u 5 0 9 ⟨b9,hS,j5⟩ (by decide) (by decide) (fun β η S w hM hw hG hd=>hG.2.1.ptr) ?_
 refine B8 (fun η=>η 0) 55 9 true (fun x0=>.one (.ag 9 x0)) (fun x0=>j6 x0 (s.p0)) ⟨b9,hS,j5⟩ (fun β η S w hM hw hG hd=>hG.2.1.el (i:=0) rfl (n9 hd 0 : (A7 ((η 0) = o8 u (Int.toNat 0 * 9))).p S w)) ?_
 refine I5 u 5 2 9 ⟨b9,hS,j5⟩ (by decide) (by decide) (fun β η S w hM hw hG hd=>hG.2.1.ptr) ?_
 refine B8 (fun η=>η 2) 55 9 true (fun x0=>.one (.ag 9 x0)) (fun x0=>j6 x0 (s.p2)) ⟨b9,hS,j5⟩ (fun β η S w hM hw hG hd=>hG.2.1.el (i:=2) rfl (n9 hd 2 : (A7 ((η 2) = o8 u (Int.toNat 2 * 9))).p S w)) ?_
 refine q9 (fun x0=>.one (.ag 9 x0)) (fun x0=>j6 x0 ((s.p0.cross s.p2))) (fun β η S w hS hs hw hG hd=>(kx (J7 hS (n9 hd 1 : (j6 (η 1) (s.p0)).p S w) (n9 hd 3 : (j6 (η 3) (s.p2)).p S w) T0 T2 (by omega)))) ?_
 refine I5 u 5 1 9 ⟨b9,hS,j5⟩ (by decide) (by decide) (fun β η S w hM hw hG hd=>hG.2.1.ptr) ?_
 refine B8 (fun η=>η 5) 55 9 true (fun x0=>.one (.ag 9 x0)) (fun x0=>j6 x0 (s.p1)) ⟨b9,hS,j5⟩ (fun β η S w hM hw hG hd=>hG.2.1.el (i:=1) rfl (n9 hd 5 : (A7 ((η 5) = o8 u (Int.toNat 1 * 9))).p S w)) ?_
 refine I5 u 5 3 9 ⟨b9,hS,j5⟩ (by decide) (by decide) (fun β η S w hM hw hG hd=>hG.2.1.ptr) ?_
 refine B8 (fun η=>η 7) 55 9 true (fun x0=>.one (.ag 9 x0)) (fun x0=>j6 x0 (s.p3)) ⟨b9,hS,j5⟩ (fun β η S w hM hw hG hd=>hG.2.1.el (i:=3) rfl (n9 hd 7 : (A7 ((η 7) = o8 u (Int.toNat 3 * 9))).p S w)) ?_
 refine q9 (fun x0=>.one (.ag 9 x0)) (fun x0=>j6 x0 ((s.p1.cross s.p3))) (fun β η S w hS hs hw hG hd=>(kx (J7 hS (n9 hd 6 : (j6 (η 6) (s.p1)).p S w) (n9 hd 8 : (j6 (η 8) (s.p3)).p S w) T1 T3' (by omega)))) ?_
 refine h_1 (fun x0=>.agg [.ag 3 (cel x0 0 3),.ag 3 (cel x0 3 3),.ag 3 (cel x0 6 3),.ag 3 (cel x0 9 3),.ag 3 (cel x0 12 3),.ag 3 (cel x0 15 3)]) (fun x0=>Y8 x0 (s.cb)) (fun η=>(by kernel_rfl)) (fun _ _ _ h=>b20 h) (fun β η S w hS hs hw hG hd=>have h:=hG.2.1; (kx ((bi0 hS (n9 hd 4 : (j6 (η 4) ((s.p0.cross s.p2))).p S w) (n9 hd 9 : (j6 (η 9) ((s.p1.cross s.p3))).p S w) (r9 T0 T2) (r9 T1 T3') (by omega)).mono fun v' w' h=>⟨h.1,d52 h.2⟩))) ?_
 refine d9 1 ?_
 refine o6 [true,false,false,false,false,false,false,false,false,false,false] ((Y8 (η_1 10) (s.ca)).and ((ap9 u s.list).and (Gh.nil))) (by exact fun _ _ h=>⟨h.1,h.2.1,trivial⟩) (fun g η=>(Y8 (η 10) (s.cb)).and g) (fun g η=>(by kernel_rfl)) ?_
 intro η_2
 refine q6 10 ?_
 refine d9 1 ?_
 refine I5 u 5 4 9 ⟨b9,hS,j5⟩ (by decide) (by decide) (fun β η S w hM hw hG hd=>hG.2.2.1.ptr) ?_
 refine B8 (fun η=>η 1) 55 9 true (fun x0=>.one (.ag 9 x0)) (fun x0=>j6 x0 (s.p4)) ⟨b9,hS,j5⟩ (fun β η S w hM hw hG hd=>hG.2.2.1.el (i:=4) rfl (n9 hd 1 : (A7 ((η 1) = o8 u (Int.toNat 4 * 9))).p S w)) ?_
 refine q9 (fun x0=>.one (.ag 3 x0)) (fun x0=>b8 x0 ((s.ca.val s.p4))) (fun β η S w hS hs hw hG hd=>(kx (cl0 hS hG.2.1.2.con (n9 hd 2 : (j6 (η 2) (s.p4)).p S w) A1 T4 (by omega)))) ?_
 refine d9 1 ?_
 refine I5 u 5 4 9 ⟨b9,hS,j5⟩ (by decide) (by decide) (fun β η S w hM hw hG hd=>hG.2.2.1.ptr) ?_
 refine B8 (fun η=>η 5) 55 9 true (fun x0=>.one (.ag 9 x0)) (fun x0=>j6 x0 (s.p4)) ⟨b9,hS,j5⟩ (fun β η S w hM hw hG hd=>hG.2.2.1.el (i:=4) rfl (n9 hd 5 : (A7 ((η 5) = o8 u (Int.toNat 4 * 9))).p S w)) ?_
 refine q9 (fun x0=>.one (.ag 3 x0)) (fun x0=>b8 x0 ((s.cb.val s.p4))) (fun β η S w hS hs hw hG hd=>(kx (cl0 hS hG.1.2.con (n9 hd 6 : (j6 (η 6) (s.p4)).p S w) B1 T4 (by omega)))) ?_
 refine d9 2 ?_
 refine o6 [true,false,true,true,false,true] ((Y8 (η_2 10) (s.cb)).and ((Y8 (η_1 10) (s.ca)).and ((ap9 u s.list).and (Gh.nil)))) (by exact fun _ _ h=>⟨h.1,h.2.1,h.2.2.1,trivial⟩) (fun g η=>(b8 (η 7) ((s.cb.val s.p4))).and ((A7 ((η 5) = o8 u (Int.toNat 4 * 9))).and ((b8 (η 3) ((s.ca.val s.p4))).and ((A7 ((η 1) = o8 u (Int.toNat 4 * 9))).and g)))) (fun g η=>(by kernel_rfl)) ?_
 intro η_3
 refine s7 ?_
 refine q6 14 ?_
 refine d9 5 ?_
 refine q9 (fun x0=>.one (.ag 3 x0)) (fun x0=>b8 x0 ((s.cb.val s.p4 * s.ca.a))) (fun β η S w hS hs hw hG hd=>(kx (n8 hS hG.1 hG.2.2.2.2.2.1.2.c1 B2 A1.1))) ?_
 refine d9 4 ?_
 refine q9 (fun x0=>.one (.ag 3 x0)) (fun x0=>b8 x0 ((s.ca.val s.p4 * s.cb.a))) (fun β η S w hS hs hw hG hd=>(kx (n8 hS hG.2.2.1 hG.2.2.2.2.1.2.c1 A2 B1.1))) ?_
 refine q9 (fun x0=>.one (.ag 3 x0)) (fun x0=>b8 x0 ((-(s.ca.val s.p4 * s.cb.a)))) (fun β η S w hS hs hw hG hd=>(kx (U0 (n9 hd 10 : (b8 (η 10) ((s.ca.val s.p4 * s.cb.a))).p S w)))) ?_
 refine I6 53 3 2 (fun x0=>B6 x0 [s.cb.val s.p4 * s.ca.a,-(s.ca.val s.p4 * s.cb.a)]) (fun β η S w x0 w' hS hs hw hG hd hk hrow=>ae7 ((n9 hd 5 : (b8 (η 5) ((s.cb.val s.p4 * s.ca.a))).p S w).to hk) ((n9 hd 11 : (b8 (η 11) ((-(s.ca.val s.p4 * s.cb.a)))).p S w).to hk) (kcQ hrow)) ?_
 refine q9 (fun x0=>.one (.ag 3 x0)) (fun x0=>b8 x0 ((s.cb.val s.p4 * s.ca.a + -(s.ca.val s.p4 * s.cb.a)))) (fun β η S w hS hs hw hG hd=>(kx (K4 (m:=305) (al9 _ _) hS (n9 hd 12 : (B6 (η 12) [s.cb.val s.p4 * s.ca.a,-(s.ca.val s.p4 * s.cb.a)]).p S w) (ad4 (q7 B2 A1.1) (L4 (q7 A2 B1.1))) (by simp only [List.length]; omega)))) ?_
 refine o6 [true,false,false,false,false] ((b8 (η_3 7) ((s.cb.val s.p4))).and ((A7 ((η_3 5) = o8 u (Int.toNat 4 * 9))).and ((b8 (η_3 3) ((s.ca.val s.p4))).and ((A7 ((η_3 1) = o8 u (Int.toNat 4 * 9))).and ((Y8 (η_2 10) (s.cb)).and ((Y8 (η_1 10) (s.ca)).and ((ap9 u s.list).and (Gh.nil)))))))) (by exact fun _ _ h=>⟨h.1,h.2.1,h.2.2.1,h.2.2.2.1,h.2.2.2.2.1,h.2.2.2.2.2.1,h.2.2.2.2.2.2.1,trivial⟩) (fun g η=>(b8 (η 13) ((s.cb.val s.p4 * s.ca.a + -(s.ca.val s.p4 * s.cb.a)))).and g) (fun g η=>(by kernel_rfl)) ?_
 intro η_4
 refine s7 ?_
 refine q6 14 ?_
 refine d9 5 ?_
 refine q9 (fun x0=>.one (.ag 3 x0)) (fun x0=>b8 x0 ((s.cb.val s.p4 * s.ca.b))) (fun β η S w hS hs hw hG hd=>(kx (n8 hS hG.2.1 hG.2.2.2.2.2.2.1.2.c2 B2 A1.2.1))) ?_
 refine d9 4 ?_
 refine q9 (fun x0=>.one (.ag 3 x0)) (fun x0=>b8 x0 ((s.ca.val s.p4 * s.cb.b))) (fun β η S w hS hs hw hG hd=>(kx (n8 hS hG.2.2.2.1 hG.2.2.2.2.2.1.2.c2 A2 B1.2.1))) ?_
 refine q9 (fun x0=>.one (.ag 3 x0)) (fun x0=>b8 x0 ((-(s.ca.val s.p4 * s.cb.b)))) (fun β η S w hS hs hw hG hd=>(kx (U0 (n9 hd 10 : (b8 (η 10) ((s.ca.val s.p4 * s.cb.b))).p S w)))) ?_
 refine I6 53 3 2 (fun x0=>B6 x0 [s.cb.val s.p4 * s.ca.b,-(s.ca.val s.p4 * s.cb.b)]) (fun β η S w x0 w' hS hs hw hG hd hk hrow=>ae7 ((n9 hd 5 : (b8 (η 5) ((s.cb.val s.p4 * s.ca.b))).p S w).to hk) ((n9 hd 11 : (b8 (η 11) ((-(s.ca.val s.p4 * s.cb.b)))).p S w).to hk) (kcQ hrow)) ?_
 refine q9 (fun x0=>.one (.ag 3 x0)) (fun x0=>b8 x0 ((s.cb.val s.p4 * s.ca.b + -(s.ca.val s.p4 * s.cb.b)))) (fun β η S w hS hs hw hG hd=>(kx (K4 (m:=305) (al9 _ _) hS (n9 hd 12 : (B6 (η 12) [s.cb.val s.p4 * s.ca.b,-(s.ca.val s.p4 * s.cb.b)]).p S w) (ad4 (q7 B2 A1.2.1) (L4 (q7 A2 B1.2.1))) (by simp only [List.length]; omega)))) ?_
 refine o6 [true,false,false,false,false] ((b8 (η_4 13) ((s.cb.val s.p4 * s.ca.a + -(s.ca.val s.p4 * s.cb.a)))).and ((b8 (η_3 7) ((s.cb.val s.p4))).and ((A7 ((η_3 5) = o8 u (Int.toNat 4 * 9))).and ((b8 (η_3 3) ((s.ca.val s.p4))).and ((A7 ((η_3 1) = o8 u (Int.toNat 4 * 9))).and ((Y8 (η_2 10) (s.cb)).and ((Y8 (η_1 10) (s.ca)).and ((ap9 u s.list).and (Gh.nil))))))))) (by exact fun _ _ h=>⟨h.1,h.2.1,h.2.2.1,h.2.2.2.1,h.2.2.2.2.1,h.2.2.2.2.2.1,h.2.2.2.2.2.2.1,h.2.2.2.2.2.2.2.1,trivial⟩) (fun g η=>(b8 (η 13) ((s.cb.val s.p4 * s.ca.b + -(s.ca.val s.p4 * s.cb.b)))).and g) (fun g η=>(by kernel_rfl)) ?_
 intro η_5
 refine s7 ?_
 refine q6 14 ?_
 refine d9 5 ?_
 refine q9 (fun x0=>.one (.ag 3 x0)) (fun x0=>b8 x0 ((s.cb.val s.p4 * s.ca.c))) (fun β η S w hS hs hw hG hd=>(kx (n8 hS hG.2.2.1 hG.2.2.2.2.2.2.2.1.2.c3 B2 A1.2.2.1))) ?_
 refine d9 4 ?_
 refine q9 (fun x0=>.one (.ag 3 x0)) (fun x0=>b8 x0 ((s.ca.val s.p4 * s.cb.c))) (fun β η S w hS hs hw hG hd=>(kx (n8 hS hG.2.2.2.2.1 hG.2.2.2.2.2.2.1.2.c3 A2 B1.2.2.1))) ?_
 refine q9 (fun x0=>.one (.ag 3 x0)) (fun x0=>b8 x0 ((-(s.ca.val s.p4 * s.cb.c)))) (fun β η S w hS hs hw hG hd=>(kx (U0 (n9 hd 10 : (b8 (η 10) ((s.ca.val s.p4 * s.cb.c))).p S w)))) ?_
 refine I6 53 3 2 (fun x0=>B6 x0 [s.cb.val s.p4 * s.ca.c,-(s.ca.val s.p4 * s.cb.c)]) (fun β η S w x0 w' hS hs hw hG hd hk hrow=>ae7 ((n9 hd 5 : (b8 (η 5) ((s.cb.val s.p4 * s.ca.c))).p S w).to hk) ((n9 hd 11 : (b8 (η 11) ((-(s.ca.val s.p4 * s.cb.c)))).p S w).to hk) (kcQ hrow)) ?_
 refine q9 (fun x0=>.one (.ag 3 x0)) (fun x0=>b8 x0 ((s.cb.val s.p4 * s.ca.c + -(s.ca.val s.p4 * s.cb.c)))) (fun β η S w hS hs hw hG hd=>(kx (K4 (m:=305) (al9 _ _) hS (n9 hd 12 : (B6 (η 12) [s.cb.val s.p4 * s.ca.c,-(s.ca.val s.p4 * s.cb.c)]).p S w) (ad4 (q7 B2 A1.2.2.1) (L4 (q7 A2 B1.2.2.1))) (by simp only [List.length]; omega)))) ?_
 refine o6 [true,false,false,false,false] ((b8 (η_5 13) ((s.cb.val s.p4 * s.ca.b + -(s.ca.val s.p4 * s.cb.b)))).and ((b8 (η_4 13) ((s.cb.val s.p4 * s.ca.a + -(s.ca.val s.p4 * s.cb.a)))).and ((b8 (η_3 7) ((s.cb.val s.p4))).and ((A7 ((η_3 5) = o8 u (Int.toNat 4 * 9))).and ((b8 (η_3 3) ((s.ca.val s.p4))).and ((A7 ((η_3 1) = o8 u (Int.toNat 4 * 9))).and ((Y8 (η_2 10) (s.cb)).and ((Y8 (η_1 10) (s.ca)).and ((ap9 u s.list).and (Gh.nil)))))))))) (by exact fun _ _ h=>⟨h.1,h.2.1,h.2.2.1,h.2.2.2.1,h.2.2.2.2.1,h.2.2.2.2.2.1,h.2.2.2.2.2.2.1,h.2.2.2.2.2.2.2.1,h.2.2.2.2.2.2.2.2.1,trivial⟩) (fun g η=>(b8 (η 13) ((s.cb.val s.p4 * s.ca.c + -(s.ca.val s.p4 * s.cb.c)))).and g) (fun g η=>(by kernel_rfl)) ?_
 intro η_6
 refine s7 ?_
 refine q6 14 ?_
 refine d9 5 ?_
 refine q9 (fun x0=>.one (.ag 3 x0)) (fun x0=>b8 x0 ((s.cb.val s.p4 * s.ca.f))) (fun β η S w hS hs hw hG hd=>(kx (n8 hS hG.2.2.2.1 hG.2.2.2.2.2.2.2.2.1.2.c4 B2 A1.2.2.2.1))) ?_
 refine d9 4 ?_
 refine q9 (fun x0=>.one (.ag 3 x0)) (fun x0=>b8 x0 ((s.ca.val s.p4 * s.cb.f))) (fun β η S w hS hs hw hG hd=>(kx (n8 hS hG.2.2.2.2.2.1 hG.2.2.2.2.2.2.2.1.2.c4 A2 B1.2.2.2.1))) ?_
 refine q9 (fun x0=>.one (.ag 3 x0)) (fun x0=>b8 x0 ((-(s.ca.val s.p4 * s.cb.f)))) (fun β η S w hS hs hw hG hd=>(kx (U0 (n9 hd 10 : (b8 (η 10) ((s.ca.val s.p4 * s.cb.f))).p S w)))) ?_
 refine I6 53 3 2 (fun x0=>B6 x0 [s.cb.val s.p4 * s.ca.f,-(s.ca.val s.p4 * s.cb.f)]) (fun β η S w x0 w' hS hs hw hG hd hk hrow=>ae7 ((n9 hd 5 : (b8 (η 5) ((s.cb.val s.p4 * s.ca.f))).p S w).to hk) ((n9 hd 11 : (b8 (η 11) ((-(s.ca.val s.p4 * s.cb.f)))).p S w).to hk) (kcQ hrow)) ?_
 refine q9 (fun x0=>.one (.ag 3 x0)) (fun x0=>b8 x0 ((s.cb.val s.p4 * s.ca.f + -(s.ca.val s.p4 * s.cb.f)))) (fun β η S w hS hs hw hG hd=>(kx (K4 (m:=305) (al9 _ _) hS (n9 hd 12 : (B6 (η 12) [s.cb.val s.p4 * s.ca.f,-(s.ca.val s.p4 * s.cb.f)]).p S w) (ad4 (q7 B2 A1.2.2.2.1) (L4 (q7 A2 B1.2.2.2.1))) (by simp only [List.length]; omega)))) ?_
 refine o6 [true,false,false,false,false] ((b8 (η_6 13) ((s.cb.val s.p4 * s.ca.c + -(s.ca.val s.p4 * s.cb.c)))).and ((b8 (η_5 13) ((s.cb.val s.p4 * s.ca.b + -(s.ca.val s.p4 * s.cb.b)))).and ((b8 (η_4 13) ((s.cb.val s.p4 * s.ca.a + -(s.ca.val s.p4 * s.cb.a)))).and ((b8 (η_3 7) ((s.cb.val s.p4))).and ((A7 ((η_3 5) = o8 u (Int.toNat 4 * 9))).and ((b8 (η_3 3) ((s.ca.val s.p4))).and ((Y8 (η_2 10) (s.cb)).and ((Y8 (η_1 10) (s.ca)).and ((ap9 u s.list).and (Gh.nil)))))))))) (by exact fun _ _ h=>⟨h.1,h.2.1,h.2.2.1,h.2.2.2.1,h.2.2.2.2.1,h.2.2.2.2.2.1,h.2.2.2.2.2.2.2.1,h.2.2.2.2.2.2.2.2.1,h.2.2.2.2.2.2.2.2.2.1,trivial⟩) (fun g η=>(b8 (η 13) ((s.cb.val s.p4 * s.ca.f + -(s.ca.val s.p4 * s.cb.f)))).and g) (fun g η=>(by kernel_rfl)) ?_
 intro η_7
 refine s7 ?_
 refine q6 14 ?_
 refine d9 5 ?_
 refine q9 (fun x0=>.one (.ag 3 x0)) (fun x0=>b8 x0 ((s.cb.val s.p4 * s.ca.g))) (fun β η S w hS hs hw hG hd=>(kx (n8 hS hG.2.2.2.2.1 hG.2.2.2.2.2.2.2.2.1.2.c5 B2 A1.2.2.2.2.1))) ?_
 refine d9 4 ?_
 refine q9 (fun x0=>.one (.ag 3 x0)) (fun x0=>b8 x0 ((s.ca.val s.p4 * s.cb.g))) (fun β η S w hS hs hw hG hd=>(kx (n8 hS hG.2.2.2.2.2.2.1 hG.2.2.2.2.2.2.2.1.2.c5 A2 B1.2.2.2.2.1))) ?_
 refine q9 (fun x0=>.one (.ag 3 x0)) (fun x0=>b8 x0 ((-(s.ca.val s.p4 * s.cb.g)))) (fun β η S w hS hs hw hG hd=>(kx (U0 (n9 hd 10 : (b8 (η 10) ((s.ca.val s.p4 * s.cb.g))).p S w)))) ?_
 refine I6 53 3 2 (fun x0=>B6 x0 [s.cb.val s.p4 * s.ca.g,-(s.ca.val s.p4 * s.cb.g)]) (fun β η S w x0 w' hS hs hw hG hd hk hrow=>ae7 ((n9 hd 5 : (b8 (η 5) ((s.cb.val s.p4 * s.ca.g))).p S w).to hk) ((n9 hd 11 : (b8 (η 11) ((-(s.ca.val s.p4 * s.cb.g)))).p S w).to hk) (kcQ hrow)) ?_
 refine q9 (fun x0=>.one (.ag 3 x0)) (fun x0=>b8 x0 ((s.cb.val s.p4 * s.ca.g + -(s.ca.val s.p4 * s.cb.g)))) (fun β η S w hS hs hw hG hd=>(kx (K4 (m:=305) (al9 _ _) hS (n9 hd 12 : (B6 (η 12) [s.cb.val s.p4 * s.ca.g,-(s.ca.val s.p4 * s.cb.g)]).p S w) (ad4 (q7 B2 A1.2.2.2.2.1) (L4 (q7 A2 B1.2.2.2.2.1))) (by simp only [List.length]; omega)))) ?_
 refine o6 [true,false,false,false,false] ((b8 (η_7 13) ((s.cb.val s.p4 * s.ca.f + -(s.ca.val s.p4 * s.cb.f)))).and ((b8 (η_6 13) ((s.cb.val s.p4 * s.ca.c + -(s.ca.val s.p4 * s.cb.c)))).and ((b8 (η_5 13) ((s.cb.val s.p4 * s.ca.b + -(s.ca.val s.p4 * s.cb.b)))).and ((b8 (η_4 13) ((s.cb.val s.p4 * s.ca.a + -(s.ca.val s.p4 * s.cb.a)))).and ((b8 (η_3 7) ((s.cb.val s.p4))).and ((b8 (η_3 3) ((s.ca.val s.p4))).and ((Y8 (η_2 10) (s.cb)).and ((Y8 (η_1 10) (s.ca)).and ((ap9 u s.list).and (Gh.nil)))))))))) (by exact fun _ _ h=>⟨h.1,h.2.1,h.2.2.1,h.2.2.2.1,h.2.2.2.2.1,h.2.2.2.2.2.2.1,h.2.2.2.2.2.2.2.1,h.2.2.2.2.2.2.2.2.1,h.2.2.2.2.2.2.2.2.2.1,trivial⟩) (fun g η=>(b8 (η 13) ((s.cb.val s.p4 * s.ca.g + -(s.ca.val s.p4 * s.cb.g)))).and g) (fun g η=>(by kernel_rfl)) ?_
 intro η_8
 refine s7 ?_
 refine q6 14 ?_
 refine d9 5 ?_
 refine q9 (fun x0=>.one (.ag 3 x0)) (fun x0=>b8 x0 ((s.cb.val s.p4 * s.ca.h))) (fun β η S w hS hs hw hG hd=>(kx (n8 hS hG.2.2.2.2.2.1 hG.2.2.2.2.2.2.2.2.1.2.c6 B2 A1.2.2.2.2.2))) ?_
 refine d9 4 ?_
 refine q9 (fun x0=>.one (.ag 3 x0)) (fun x0=>b8 x0 ((s.ca.val s.p4 * s.cb.h))) (fun β η S w hS hs hw hG hd=>(kx (n8 hS hG.2.2.2.2.2.2.1 hG.2.2.2.2.2.2.2.1.2.c6 A2 B1.2.2.2.2.2))) ?_
 refine q9 (fun x0=>.one (.ag 3 x0)) (fun x0=>b8 x0 ((-(s.ca.val s.p4 * s.cb.h)))) (fun β η S w hS hs hw hG hd=>(kx (U0 (n9 hd 10 : (b8 (η 10) ((s.ca.val s.p4 * s.cb.h))).p S w)))) ?_
 refine I6 53 3 2 (fun x0=>B6 x0 [s.cb.val s.p4 * s.ca.h,-(s.ca.val s.p4 * s.cb.h)]) (fun β η S w x0 w' hS hs hw hG hd hk hrow=>ae7 ((n9 hd 5 : (b8 (η 5) ((s.cb.val s.p4 * s.ca.h))).p S w).to hk) ((n9 hd 11 : (b8 (η 11) ((-(s.ca.val s.p4 * s.cb.h)))).p S w).to hk) (kcQ hrow)) ?_
 refine q9 (fun x0=>.one (.ag 3 x0)) (fun x0=>b8 x0 ((s.cb.val s.p4 * s.ca.h + -(s.ca.val s.p4 * s.cb.h)))) (fun β η S w hS hs hw hG hd=>(kx (K4 (m:=305) (al9 _ _) hS (n9 hd 12 : (B6 (η 12) [s.cb.val s.p4 * s.ca.h,-(s.ca.val s.p4 * s.cb.h)]).p S w) (ad4 (q7 B2 A1.2.2.2.2.2) (L4 (q7 A2 B1.2.2.2.2.2))) (by simp only [List.length]; omega)))) ?_
 refine o6 [true,false,false,false,false] ((b8 (η_8 13) ((s.cb.val s.p4 * s.ca.g + -(s.ca.val s.p4 * s.cb.g)))).and ((b8 (η_7 13) ((s.cb.val s.p4 * s.ca.f + -(s.ca.val s.p4 * s.cb.f)))).and ((b8 (η_6 13) ((s.cb.val s.p4 * s.ca.c + -(s.ca.val s.p4 * s.cb.c)))).and ((b8 (η_5 13) ((s.cb.val s.p4 * s.ca.b + -(s.ca.val s.p4 * s.cb.b)))).and ((b8 (η_4 13) ((s.cb.val s.p4 * s.ca.a + -(s.ca.val s.p4 * s.cb.a)))).and (Gh.nil)))))) (by exact fun _ _ h=>⟨h.1,h.2.1,h.2.2.1,h.2.2.2.1,h.2.2.2.2.1,trivial⟩) (fun g η=>(b8 (η 13) ((s.cb.val s.p4 * s.ca.h + -(s.ca.val s.p4 * s.cb.h)))).and g) (fun g η=>(by kernel_rfl)) ?_
 intro η_9
 refine s7 ?_
 refine E9 (fun x0=>.one (.ag 18 x0)) (fun x0=>H0 x0 (s.con.normal)) (fun β S w hS hs hw hG=>(kx (cj4 hS (ConC.con (k:=s.con) ⟨hG.2.2.2.2.2.1,hG.2.2.2.2.1,hG.2.2.2.1,hG.2.2.1,hG.2.1,hG.1⟩) (hN F).1 (d88 (dn0 A1 B1 B2 A2) (by omega)) (hN F).2 hq))) ?_
 intro r
 exact d30 (r) ⟨b9,hS,j5⟩ (by kernel_rfl) rfl (by kernel_rfl) (fun β=>(by kernel_rfl)) (fun S w hs hw hG=>⟨hw,hG.1.mono fun k _ hk=>hs k hk,F⟩)
open Classical in
noncomputable def P5.thr (s : P5) : C6:=if s.Fine then s.con.normal else C6.zero
open Classical in
noncomputable def P5.thrE (s : P5) : Int:=if s.Fine then 0 else 61
theorem by8 {S : Nat → Prop} {w : World} {u : Value} {s : P5} {q : Nat} (ht : Tab w) (hS : Up S w) (o : u.oneCell' = true) (h : TrAP S w u s.list) (hT : ∀ t ∈ s.list,tl t 1) (hb : ∀ t ∈ s.list,D5 t = 0) (hN : s.Fine → ¬ M9 s.con.list ∧ cl s.con.normal q) (hq : q ≤ 3344) :
  Gives prog 99 [.func (.func 100) #[] #[u]] w fun v' w'=>Ext w w' ∧ (aw0 v' s.thr s.thrE).p S w':=by
 refine (ce6 (F:=100) (cap:=[u]) (t:=s.con.normal) (E:=61) (Y:=s.Fine) (Z:=¬ s.Fine) hS fun S' w' hS' k' _ hs'=>b62 (ht.to k') hS' o ((ap9 u s.list).keep ((ap9 u s.list).mono h hs') (.of k')) hT hb hN hq).mono ?_
 rintro v' w' ⟨k',⟨x,rfl,hx,hf⟩ | ⟨rfl,hf⟩⟩
 ·exact ⟨k',by unfold P5.thrE; rw [if_pos hf]; rfl,by unfold P5.thr; rw [if_pos hf]; exact hx⟩
 exact ⟨k',by unfold P5.thrE; rw [if_neg hf]; rfl,by unfold P5.thr; rw [if_neg hf]; exact c46⟩
theorem ck1 {S : Nat → Prop} {w : World} {v : Value} {s : P5} {q : Nat} (ht : Tab w) (hS : Up S w) (h : TrAV 45 S w v s.list) (hT : ∀ t ∈ s.list,tl t 1) (hb : ∀ t ∈ s.list,D5 t = 0) (hN : s.Fine → ¬ M9 s.con.list ∧ cl s.con.normal q) (hq : q ≤ 3344) :
  Gives prog 37 [v] w fun v' w'=>Ext w w' ∧ (aw0 v' s.thr s.thrE).p S w':=by
 refine p7 (E:=env) (S0:=S) (G:=(cu0 45 v s.list)) (l:=[.one (.ag 45 v)]) func37 rfl rfl rfl ⟨h.ok,trivial⟩ rfl h ?_
 refine n7 (I0 0 87 ([.ag 45 v]) (fun u1=>?_))
 refine O3 (fun x0=>pr (.ag 18 (F4 x0)) (.int .i64 (s.thrE))) (fun x0=>aw0 x0 (s.thr) (s.thrE)) (fun _ _ _ h=>b21 h) (fun β S w hS hs hw hG=>(kx (by8 (ht.to hw) hS (G7 hG.1) (c76 hG.1 hG.2) hT hb hN hq))) ?_
 intro r
 exact p9 (.tuple #[F4 r,.int .i64 s.thrE]) rfl (fun S w hs hw hG=>⟨hw,rfl,hG.1.2.mono fun k _ hk=>hs k hk⟩)
theorem bg5 {S : Nat → Prop} {w : World} {u p : Value} {t : T3} {i : Nat} {x : Rat} (h : (A4 u t).p S w) (hx : t.list[i]? = some x) (hp : p = o8 u (i * 3)) : ∃ S' y,U2 true 3 y ∧ At S' w p y.cells.toList ∧ (b8 y x).p S w:=by
 subst hp
 obtain ⟨v,h1,h2,h3⟩:=h
 obtain ⟨vs,e1,e2⟩:=TripV.els h3
 have hl : i < vs.length:=by rw [e2.len]; exact (List.getElem?_eq_some_iff.1 hx).1
 have hy : vs[i]? = some vs[i]:=List.getElem?_eq_getElem hl
 rw [e1] at h2
 exact ⟨S,vs[i],e2.lies _ (List.getElem_mem _),h2.part e2.lies hy,e2.el i x _ hx hy⟩
theorem bh4 {S : Nat → Prop} {w : World} {u : Value} {t : T3} (h : (A4 u t).p S w) : ∃ b k,u = .pointer (some ⟨b,k,none⟩):=by
 obtain ⟨v,_,⟨b,o,_,_,_,h1,_⟩,_⟩:=h
 exact ⟨b,o,h1⟩
theorem b77 {l p : T3} {i : Nat} (h : ¬ bj3 l p i) : T3.Same ((aa2 i).cross l) p:=by
 refine Classical.byContradiction fun e=>h ⟨fun g=>e ?_,e⟩
 obtain ⟨a,b,c⟩:=g
 simp only [T3.Same,T3.None,T3.cross] at a b c ⊢
 refine ⟨?_,?_,?_⟩ <;> grind
theorem cf8 {S : Nat → Prop} {w : World} {u0 u1 u2 : Value} {k : C6} {p l : T3} {n m r : Nat} (ht : Tab w) (hS : Up S w) (o0 : u0.oneCell' = true) (o1 : u1.oneCell' = true) (o2 : u2.oneCell' = true) (h0 : (Y4 u0 k).p S w) (h1 : (A4 u1 p).p S w) (h2 : (A4 u2 l).p S w) (hl : cl k n) (hm : tl p m) (hm2 : tl l m) (hn : n ≤ 20) (hmm : m ≤ 20) (hR : tl (a50 k p (l8 l p)) r) (hr2 : r ≤ 3344)
  (e1 : N2 k = 0) (e2 : D5 p = 0) (e3 : D5 l = 0) (e4 : ¬ k.mat.det = 0) (e5 : k.val p = 0) (e6 : p.dot l = 0) :
  Gives prog 54 [u0,u1,u2] w fun v' w'=>Ext w w' ∧ TripV S w' v' (a50 k p (l8 l p)):=by
 have P0:=bh8 e2
 have L0:=bh8 e3
 have AX : ∀ i,tl (aa2 i) 1:=fun i=>by unfold aa2; split <;> exact ⟨N3 (by decide) (by decide),N3 (by decide) (by decide),N3 (by decide) (by decide)⟩
 have QX : ∀ i,tl ((aa2 i).cross l) (2 * (1 + m) + 1):=fun i=>r9 (AX i) hm2
 have Q0 : tl (l8 l p) (2 * (1 + m) + 1):=QX _
 have PG:=ct7 L0 P0
 have B1 : rl (k.bl p (l8 l p)) (3 * ((3 * ((n + 1) + m) + 2) + (2 * (1 + m) + 1)) + 2):=bb1 (ad0 (U4 hl) hm) Q0
 have B2 : rl (2 * k.bl p (l8 l p)) (1 + (3 * ((3 * ((n + 1) + m) + 2) + (2 * (1 + m) + 1)) + 2)):=q7 b69 B1
 have B3 : rl (k.bl (l8 l p) (l8 l p)) (3 * ((3 * ((n + 1) + (2 * (1 + m) + 1)) + 2) + (2 * (1 + m) + 1)) + 2):=bb1 (ad0 (U4 hl) Q0) Q0
 refine p7 (E:=env) (S0:=S) (G:=((Y4 u0 k).and ((A4 u1 p).and (A4 u2 l)))) (l:=[.one (.val u0),.one (.val u1),.one (.val u2)]) func54 rfl rfl rfl ⟨o0,o1,o2,trivial⟩ rfl ⟨h0,h1,h2⟩ ?_
 refine n7 (p8 u0 60 18 true (fun x0=>.one (.ag 18 x0)) (fun x0=>H0 x0 (k)) (fun β S w hM hw hG=>let ⟨y,e1,e2,e3⟩:=hG.1; ⟨S,y,e1,e2,e3⟩) ?_)
 intro x0
 refine z7 (.und) rfl (fun β S w hS hs hw hG=>(kx (P9 (ht.to hw) hS hG.1 hl (by omega) e1))) ?_
 refine n7 (p8 u1 55 9 true (fun x0=>.one (.ag 9 x0)) (fun x0=>j6 x0 (p)) (fun β S w hM hw hG=>let ⟨y,e1,e2,e3⟩:=hG.2.2.1; ⟨S,y,e1,e2,e3⟩) ?_)
 intro x1
 refine n7 (p8 u2 55 9 true (fun x0=>.one (.ag 9 x0)) (fun x0=>j6 x0 (l)) (fun β S w hM hw hG=>let ⟨y,e1,e2,e3⟩:=hG.2.2.2.2; ⟨S,y,e1,e2,e3⟩) ?_)
 intro x2
 refine ac5 (.und) rfl (fun β S w hS hM hs hw hG=>(kx (M2 (ht.to hw) (A8 hS) (H2 1 55 [x1,x2] hM (by kernel_rfl) (cu8 hG.2.1 hG.1) (show 2 ≤ maxLen by decide)) (bn0 (D4 hm) (D4 hm2)) (bn0 e2 e3)))) ?_
 refine n7 (p8 u0 60 18 true (fun x0=>.one (.ag 18 x0)) (fun x0=>H0 x0 (k)) (fun β S w hM hw hG=>let ⟨y,e1,e2,e3⟩:=hG.2.2.2.1; ⟨S,y,e1,e2,e3⟩) ?_)
 intro y0
 refine z7 (.one (.bb true)) rfl (fun β S w hS hs hw hG=>(kx (gK (at6 hS hG.1 hl (by omega)) (by rw [l9 e4]; rfl)))) ?_
 refine n7 (p8 u0 60 18 true (fun x0=>.one (.ag 18 x0)) (fun x0=>H0 x0 (k)) (fun β S w hM hw hG=>let ⟨y,e1,e2,e3⟩:=hG.2.2.2.2.1; ⟨S,y,e1,e2,e3⟩) ?_)
 intro z0
 refine n7 (p8 u1 55 9 true (fun x0=>.one (.ag 9 x0)) (fun x0=>j6 x0 (p)) (fun β S w hM hw hG=>let ⟨y,e1,e2,e3⟩:=hG.2.2.2.2.2.2.1; ⟨S,y,e1,e2,e3⟩) ?_)
 intro z1
 refine E9 (fun x0=>.one (.ag 3 x0)) (fun x0=>b8 x0 ((k.val p))) (fun β S w hS hs hw hG=>(kx (cl0 hS hG.2.1 hG.1 hl hm (by omega)))) ?_
 intro z2
 refine z7 (.one (.bb true)) rfl (fun β S w hS hs hw hG=>(kx (gK (E7 hS hG.1) (by rw [l9 e5]; rfl)))) ?_
 refine n7 (p8 u1 55 9 true (fun x0=>.one (.ag 9 x0)) (fun x0=>j6 x0 (p)) (fun β S w hM hw hG=>let ⟨y,e1,e2,e3⟩:=hG.2.2.2.2.2.2.2.2.1; ⟨S,y,e1,e2,e3⟩) ?_)
 intro t1
 refine n7 (p8 u2 55 9 true (fun x0=>.one (.ag 9 x0)) (fun x0=>j6 x0 (l)) (fun β S w hM hw hG=>let ⟨y,e1,e2,e3⟩:=hG.2.2.2.2.2.2.2.2.2.2; ⟨S,y,e1,e2,e3⟩) ?_)
 intro t2
 refine E9 (fun x0=>.one (.ag 3 x0)) (fun x0=>b8 x0 ((p.dot l))) (fun β S w hS hs hw hG=>(kx (an3 hS hG.2.1 hG.1 hm hm2 (by omega)))) ?_
 intro t3
 refine z7 (.one (.bb true)) rfl (fun β S w hS hs hw hG=>(kx (gK (E7 hS hG.1) (by rw [l9 e6]; rfl)))) ?_
 refine ce8 (ι:=Value) 0 1 [(5,6),(36,54)] (fun X=>[]) (fun X=>[(2,.blk 55 [.ag 3 (cel X 0 3),.ag 3 (cel X 3 3),.ag 3 (cel X 6 3)])]) (fun X=>((O5 X (l8 l p)).and ((b8 t3 ((p.dot l))).and ((j6 t2 (l)).and ((j6 t1 (p)).and ((b8 z2 ((k.val p))).and ((j6 z1 (p)).and ((H0 z0 (k)).and ((H0 y0 (k)).and ((j6 x2 (l)).and ((j6 x1 (p)).and ((H0 x0 (k)).and ((Y4 u0 k).and ((A4 u1 p).and (A4 u2 l))))))))))))))) (fun X=>True) ⟨b9,hS,j5⟩ (by kernel_rfl) (by kernel_rfl) (fun hso0=>?_) (fun X hX=>?_)
 ·refine s7 ?_
  refine E9 (fun x0=>.one (.ag 3 x0)) (fun x0=>b8 x0 ((1 : Rat))) (fun β S w hS hs hw hG=>(kx (c06 (z:=1) hS (by decide) (by decide)))) ?_
  intro w0
  refine n7 (p8 u2 55 9 true (fun x0=>.one (.ag 9 x0)) (fun x0=>j6 x0 (l)) (fun β S w hM hw hG=>let ⟨y,e1,e2,e3⟩:=hG.2.2.2.2.2.2.2.2.2.2.2.2.2; ⟨S,y,e1,e2,e3⟩) ?_)
  intro l0
  refine O3 (fun x0=>.agg [.ag 3 (cel x0 0 3),.ag 3 (cel x0 3 3),.ag 3 (cel x0 6 3)]) (fun x0=>O5 x0 (((aa2 0).cross l))) (fun _ _ _ h=>W5 h) (fun β S w hS hs hw hG=>(kx ((J7 (p:=aa2 0) hS ⟨w0,.agg #[.bool false,.slice none 0 0,.slice none 0 0],.agg #[.bool false,.slice none 0 0,.slice none 0 0],rfl,hG.2.1,s8,s8⟩ hG.1 (AX _) hm2 (by omega)).mono fun v' w' h=>⟨h.1,bn9 h.2⟩))) ?_
  intro X0
  by_cases G0 : bj3 l p 0
  ·have E0 : (aa2 0).cross l = l8 l p:=by unfold l8 pick; rw [if_pos G0]
   refine z7 (.one (.bb false)) rfl (fun β S w hS hs hw hG=>(kx (gK (P8 hS ⟨_,_,_,rfl,hG.1.2.1,hG.1.2.2.1,hG.1.2.2.2⟩) (by rw [j8 G0.1]; rfl)))) ?_
   refine n7 (p8 u1 55 9 true (fun x0=>.one (.ag 9 x0)) (fun x0=>j6 x0 (p)) (fun β S w hM hw hG=>let ⟨y,e1,e2,e3⟩:=hG.2.2.2.2.2.2.2.2.2.2.2.2.2.2.1; ⟨S,y,e1,e2,e3⟩) ?_)
   intro s0
   refine z7 (.one (.bb false)) rfl (fun β S w hS hs hw hG=>(kx (gK (W9 hS ⟨_,_,_,rfl,hG.2.1.2.1,hG.2.1.2.2.1,hG.2.1.2.2.2⟩ hG.1 (QX _) hm (by omega)) (by rw [j8 G0.2]; rfl)))) ?_
   exact L2 (X0) hso0 (trivial) (fun S w hw hG=>⟨ay8 trivial,an7 ⟨ae4 ⟨hG.2.1.2.1.okc,hG.2.1.2.2.1.okc,hG.2.1.2.2.2.okc,trivial⟩,trivial⟩⟩) (fun S w hw hG=>⟨(E0 ▸ hG.2.1),hG.2.2.2.2⟩)
  refine z7 (.one (.tp ((aa2 0).cross l).None)) rfl (fun β S w hS hs hw hG=>(kx (P8 hS ⟨_,_,_,rfl,hG.1.2.1,hG.1.2.2.1,hG.1.2.2.2⟩))) ?_
  refine ck7 (ι:=Unit) [(45,53)] (fun x=>[(53,.one (.bb false))]) (fun _=>[]) (fun x=>((O5 X0 (((aa2 0).cross l))).and ((j6 l0 (l)).and ((b8 w0 ((1 : Rat))).and ((b8 t3 ((p.dot l))).and ((j6 t2 (l)).and ((j6 t1 (p)).and ((b8 z2 ((k.val p))).and ((j6 z1 (p)).and ((H0 z0 (k)).and ((H0 y0 (k)).and ((j6 x2 (l)).and ((j6 x1 (p)).and ((H0 x0 (k)).and ((Y4 u0 k).and ((A4 u1 p).and (A4 u2 l))))))))))))))))) (fun x=>True) ⟨b9,hS,j5⟩ (by kernel_rfl) (fun hso=>?_) (fun x hx=>?_)
  ·refine S3 (p:=¬ ((aa2 0).cross l).None) 48 (fun n0=>?_) (fun n0=>?_)
   ·refine n7 (p8 u1 55 9 true (fun x0=>.one (.ag 9 x0)) (fun x0=>j6 x0 (p)) (fun β S w hM hw hG=>let ⟨y,e1,e2,e3⟩:=hG.2.2.2.2.2.2.2.2.2.2.2.2.2.2.1; ⟨S,y,e1,e2,e3⟩) ?_)
    intro s0
    refine z7 (.one (.bb true)) rfl (fun β S w hS hs hw hG=>(kx (gK (W9 hS ⟨_,_,_,rfl,hG.2.1.2.1,hG.2.1.2.2.1,hG.2.1.2.2.2⟩ hG.1 (QX _) hm (by omega)) (by rw [l9 (b77 G0)]; rfl)))) ?_
    exact L2 (()) hso (trivial) (fun S w hw hG=>⟨B9 rfl,fun p hp=>by cases hp⟩) (fun S w hw hG=>hG.2)
   exact L2 (()) hso (trivial) (fun S w hw hG=>⟨B9 rfl,fun p hp=>by cases hp⟩) (fun S w hw hG=>hG)
  refine s7 ?_
  refine E9 (fun x0=>.one (.ag 3 x0)) (fun x0=>b8 x0 ((1 : Rat))) (fun β S w hS hs hw hG=>(kx (c06 (z:=1) hS (by decide) (by decide)))) ?_
  intro w1
  refine n7 (p8 u2 55 9 true (fun x0=>.one (.ag 9 x0)) (fun x0=>j6 x0 (l)) (fun β S w hM hw hG=>let ⟨y,e1,e2,e3⟩:=hG.2.2.2.2.2.2.2.2.2.2.2.2.2.2.2.2; ⟨S,y,e1,e2,e3⟩) ?_)
  intro l1
  refine O3 (fun x0=>.agg [.ag 3 (cel x0 0 3),.ag 3 (cel x0 3 3),.ag 3 (cel x0 6 3)]) (fun x0=>O5 x0 (((aa2 1).cross l))) (fun _ _ _ h=>W5 h) (fun β S w hS hs hw hG=>(kx ((J7 (p:=aa2 1) hS ⟨.agg #[.bool false,.slice none 0 0,.slice none 0 0],w1,.agg #[.bool false,.slice none 0 0,.slice none 0 0],rfl,s8,hG.2.1,s8⟩ hG.1 (AX _) hm2 (by omega)).mono fun v' w' h=>⟨h.1,bn9 h.2⟩))) ?_
  intro X1
  by_cases G1 : bj3 l p 1
  ·have E1 : (aa2 1).cross l = l8 l p:=by unfold l8 pick; rw [if_neg G0,if_pos G1]
   refine z7 (.one (.bb false)) rfl (fun β S w hS hs hw hG=>(kx (gK (P8 hS ⟨_,_,_,rfl,hG.1.2.1,hG.1.2.2.1,hG.1.2.2.2⟩) (by rw [j8 G1.1]; rfl)))) ?_
   refine n7 (p8 u1 55 9 true (fun x0=>.one (.ag 9 x0)) (fun x0=>j6 x0 (p)) (fun β S w hM hw hG=>let ⟨y,e1,e2,e3⟩:=hG.2.2.2.2.2.2.2.2.2.2.2.2.2.2.2.2.2.1; ⟨S,y,e1,e2,e3⟩) ?_)
   intro s1
   refine z7 (.one (.bb false)) rfl (fun β S w hS hs hw hG=>(kx (gK (W9 hS ⟨_,_,_,rfl,hG.2.1.2.1,hG.2.1.2.2.1,hG.2.1.2.2.2⟩ hG.1 (QX _) hm (by omega)) (by rw [j8 G1.2]; rfl)))) ?_
   exact L2 (X1) hso0 (trivial) (fun S w hw hG=>⟨ay8 trivial,an7 ⟨ae4 ⟨hG.2.1.2.1.okc,hG.2.1.2.2.1.okc,hG.2.1.2.2.2.okc,trivial⟩,trivial⟩⟩) (fun S w hw hG=>⟨(E1 ▸ hG.2.1),hG.2.2.2.2.2.2.2⟩)
  refine z7 (.one (.tp ((aa2 1).cross l).None)) rfl (fun β S w hS hs hw hG=>(kx (P8 hS ⟨_,_,_,rfl,hG.1.2.1,hG.1.2.2.1,hG.1.2.2.2⟩))) ?_
  refine ck7 (ι:=Unit) [(45,53)] (fun x=>[(53,.one (.bb false))]) (fun _=>[]) (fun x=>((O5 X1 (((aa2 1).cross l))).and ((j6 l1 (l)).and ((b8 w1 ((1 : Rat))).and ((O5 X0 (((aa2 0).cross l))).and ((j6 l0 (l)).and ((b8 w0 ((1 : Rat))).and ((b8 t3 ((p.dot l))).and ((j6 t2 (l)).and ((j6 t1 (p)).and ((b8 z2 ((k.val p))).and ((j6 z1 (p)).and ((H0 z0 (k)).and ((H0 y0 (k)).and ((j6 x2 (l)).and ((j6 x1 (p)).and ((H0 x0 (k)).and ((Y4 u0 k).and ((A4 u1 p).and (A4 u2 l)))))))))))))))))))) (fun x=>True) ⟨b9,hS,j5⟩ (by kernel_rfl) (fun hso=>?_) (fun x hx=>?_)
  ·refine S3 (p:=¬ ((aa2 1).cross l).None) 48 (fun n1=>?_) (fun n1=>?_)
   ·refine n7 (p8 u1 55 9 true (fun x0=>.one (.ag 9 x0)) (fun x0=>j6 x0 (p)) (fun β S w hM hw hG=>let ⟨y,e1,e2,e3⟩:=hG.2.2.2.2.2.2.2.2.2.2.2.2.2.2.2.2.2.1; ⟨S,y,e1,e2,e3⟩) ?_)
    intro s1
    refine z7 (.one (.bb true)) rfl (fun β S w hS hs hw hG=>(kx (gK (W9 hS ⟨_,_,_,rfl,hG.2.1.2.1,hG.2.1.2.2.1,hG.2.1.2.2.2⟩ hG.1 (QX _) hm (by omega)) (by rw [l9 (b77 G1)]; rfl)))) ?_
    exact L2 (()) hso (trivial) (fun S w hw hG=>⟨B9 rfl,fun p hp=>by cases hp⟩) (fun S w hw hG=>hG.2)
   exact L2 (()) hso (trivial) (fun S w hw hG=>⟨B9 rfl,fun p hp=>by cases hp⟩) (fun S w hw hG=>hG)
  refine s7 ?_
  refine E9 (fun x0=>.one (.ag 3 x0)) (fun x0=>b8 x0 ((1 : Rat))) (fun β S w hS hs hw hG=>(kx (c06 (z:=1) hS (by decide) (by decide)))) ?_
  intro w2
  refine n7 (p8 u2 55 9 true (fun x0=>.one (.ag 9 x0)) (fun x0=>j6 x0 (l)) (fun β S w hM hw hG=>let ⟨y,e1,e2,e3⟩:=hG.2.2.2.2.2.2.2.2.2.2.2.2.2.2.2.2.2.2.2; ⟨S,y,e1,e2,e3⟩) ?_)
  intro l2
  refine O3 (fun x0=>.agg [.ag 3 (cel x0 0 3),.ag 3 (cel x0 3 3),.ag 3 (cel x0 6 3)]) (fun x0=>O5 x0 (((aa2 2).cross l))) (fun _ _ _ h=>W5 h) (fun β S w hS hs hw hG=>(kx ((J7 (p:=aa2 2) hS ⟨.agg #[.bool false,.slice none 0 0,.slice none 0 0],.agg #[.bool false,.slice none 0 0,.slice none 0 0],w2,rfl,s8,s8,hG.2.1⟩ hG.1 (AX _) hm2 (by omega)).mono fun v' w' h=>⟨h.1,bn9 h.2⟩))) ?_
  intro X2
  have E2 : (aa2 2).cross l = l8 l p:=by unfold l8 pick; rw [if_neg G0,if_neg G1]
  have G2 : bj3 l p 2:=by have g:=PG; unfold pick at g; rw [if_neg G0,if_neg G1] at g; exact g
  refine z7 (.one (.bb false)) rfl (fun β S w hS hs hw hG=>(kx (gK (P8 hS ⟨_,_,_,rfl,hG.1.2.1,hG.1.2.2.1,hG.1.2.2.2⟩) (by rw [j8 G2.1]; rfl)))) ?_
  refine n7 (p8 u1 55 9 true (fun x0=>.one (.ag 9 x0)) (fun x0=>j6 x0 (p)) (fun β S w hM hw hG=>let ⟨y,e1,e2,e3⟩:=hG.2.2.2.2.2.2.2.2.2.2.2.2.2.2.2.2.2.2.2.2.1; ⟨S,y,e1,e2,e3⟩) ?_)
  intro s2
  refine z7 (.one (.bb false)) rfl (fun β S w hS hs hw hG=>(kx (gK (W9 hS ⟨_,_,_,rfl,hG.2.1.2.1,hG.2.1.2.2.1,hG.2.1.2.2.2⟩ hG.1 (QX _) hm (by omega)) (by rw [j8 G2.2]; rfl)))) ?_
  exact L2 (X2) hso0 (trivial) (fun S w hw hG=>⟨ay8 trivial,an7 ⟨ae4 ⟨hG.2.1.2.1.okc,hG.2.1.2.2.1.okc,hG.2.1.2.2.2.okc,trivial⟩,trivial⟩⟩) (fun S w hw hG=>⟨(E2 ▸ hG.2.1),hG.2.2.2.2.2.2.2.2.2.2⟩)
 refine n7 (p8 u0 60 18 true (fun x0=>.one (.ag 18 x0)) (fun x0=>H0 x0 (k)) (fun β S w hM hw hG=>let ⟨y,e1,e2,e3⟩:=hG.2.2.2.2.2.2.2.2.2.2.2.1; ⟨S,y,e1,e2,e3⟩) ?_)
 intro f1
 refine E9 (fun x0=>.one (.ag 27 x0)) (fun x0=>av6 x0 (k.mat)) (fun β S w hS hs hw hG=>(kx (a96 hS hG.1 hl (by omega)))) ?_
 intro M
 refine q6 14 ?_
 refine q9 (fun x0=>.one (.ag 3 x0)) (fun x0=>b8 x0 ((2 : Rat))) (fun β η S w hS hs hw hG hd=>(kx (c06 (z:=2) hS (by decide) (by decide)))) ?_
 refine d9 1 ?_
 refine B8 (fun η=>u1) 55 9 true (fun x0=>.one (.ag 9 x0)) (fun x0=>j6 x0 (p)) ⟨b9,hS,j5⟩ (fun β η S w hM hw hG hd=>let ⟨y,e1,e2,e3⟩:=hG.2.2.2.2.2.2.2.2.2.2.2.2.2.2.1; ⟨S,y,e1,e2,e3⟩) ?_
 refine q9 (fun x0=>.one (.ag 9 x0)) (fun x0=>j6 x0 ((k.mat.apply p))) (fun β η S w hS hs hw hG hd=>(kx (al2 hS hG.1 (n9 hd 2 : (j6 (η 2) (p)).p S w) (U4 hl) hm (by omega)))) ?_
 refine d9 1 ?_
 refine q9 (fun x0=>.one (.ag 3 x0)) (fun x0=>b8 x0 ((k.bl p (l8 l p)))) (fun β η S w hS hs hw hG hd=>(kx (an3 hS (n9 hd 3 : (j6 (η 3) ((k.mat.apply p))).p S w) ⟨_,_,_,rfl,hG.2.2.1.2.1,hG.2.2.1.2.2.1,hG.2.2.1.2.2.2⟩ (ad0 (U4 hl) hm) Q0 (by omega)))) ?_
 refine q9 (fun x0=>.one (.ag 3 x0)) (fun x0=>b8 x0 ((2 * k.bl p (l8 l p)))) (fun β η S w hS hs hw hG hd=>(kx (n8 hS (n9 hd 0 : (b8 (η 0) ((2 : Rat))).p S w) (n9 hd 5 : (b8 (η 5) ((k.bl p (l8 l p)))).p S w) b69 B1))) ?_
 refine d9 2 ?_
 refine q9 (fun x0=>.one (.ag 9 x0)) (fun x0=>j6 x0 ((k.mat.apply (l8 l p)))) (fun β η S w hS hs hw hG hd=>(kx (al2 hS hG.1 ⟨_,_,_,rfl,hG.2.2.1.2.1,hG.2.2.1.2.2.1,hG.2.2.1.2.2.2⟩ (U4 hl) Q0 (by omega)))) ?_
 refine d9 1 ?_
 refine q9 (fun x0=>.one (.ag 3 x0)) (fun x0=>b8 x0 ((k.bl (l8 l p) (l8 l p)))) (fun β η S w hS hs hw hG hd=>(kx (an3 hS (n9 hd 9 : (j6 (η 9) ((k.mat.apply (l8 l p)))).p S w) ⟨_,_,_,rfl,hG.2.2.1.2.1,hG.2.2.1.2.2.1,hG.2.2.1.2.2.2⟩ (ad0 (U4 hl) Q0) Q0 (by omega)))) ?_
 refine d9 2 ?_
 refine o6 [true,false,true,false,false,false,false] ((O5 X (l8 l p)).and ((A4 u1 p).and (Gh.nil))) (by exact fun _ _ h=>⟨h.2.2.1,h.2.2.2.2.2.2.2.2.2.2.2.2.2.2.1,trivial⟩) (fun g η=>(b8 (η 11) ((k.bl (l8 l p) (l8 l p)))).and ((b8 (η 6) ((2 * k.bl p (l8 l p)))).and g)) (fun g η=>(by kernel_rfl)) ?_
 intro η_1
 by_cases b : k.bl p (l8 l p) = 0
 ·have b2 : 2 * k.bl p (l8 l p) = 0:=by rw [b,Rat.mul_zero]
  have S1 : a50 k p (l8 l p) = p.normal:=by unfold a50; rw [if_pos b]
  refine z7 (.one (.bb true)) rfl (fun β S w hS hs hw hG=>(kx (gK (E7 hS hG.2.1) (by rw [l9 b2]; rfl)))) ?_
  refine n7 (p8 u1 55 9 true (fun x0=>.one (.ag 9 x0)) (fun x0=>j6 x0 (p)) (fun β S w hM hw hG=>let ⟨y,e1,e2,e3⟩:=hG.2.2.2.1; ⟨S,y,e1,e2,e3⟩) ?_)
  intro v1
  refine E9 (fun x0=>.one (.ag 9 x0)) (fun x0=>j6 x0 (p.normal)) (fun β S w hS hs hw hG=>(kx (af1 hS hG.1 P0 (D4 hm) (au2 (S1 ▸ hR) hr2)))) ?_
  intro v2
  exact p9 (v2) rfl (fun S w hs hw hG=>⟨hw,by rw [S1]; exact hG.1.mono fun k _ hk=>hs k hk⟩)
 have b2 : ¬ 2 * k.bl p (l8 l p) = 0:=fun g=>b ((Rat.mul_eq_zero.1 g).resolve_left (by decide))
 have X1:=ag3 B3 B2 (O9 b2)
 have S1 : a50 k p (l8 l p) = (T3.lin (-(k.bl (l8 l p) (l8 l p) / (2 * k.bl p (l8 l p)))) p 1 (l8 l p)).normal:=by unfold a50; rw [if_neg b]
 have LE : ∀ {a x y : Rat},av9 [a * x,y] = a * x + 1 * y:=fun {a x y}=>by rw [al9]; grind
 have TL : tl (T3.lin (-(k.bl (l8 l p) (l8 l p) / (2 * k.bl p (l8 l p)))) p 1 (l8 l p)) 400000000000:=by
  have g : ∀ {x y : Rat},rl x m → rl y (2 * (1 + m) + 1) → rl (-(k.bl (l8 l p) (l8 l p) / (2 * k.bl p (l8 l p))) * x + 1 * y) 400000000000:=fun a c=>m6 (ae0 (q7 (L4 X1) a) (q7 fc9 c))
  exact ⟨g hm.1 Q0.1,g hm.2.1 Q0.2.1,g hm.2.2 Q0.2.2⟩
 have LN : ¬ (T3.lin (-(k.bl (l8 l p) (l8 l p) / (2 * k.bl p (l8 l p)))) p 1 (l8 l p)).None:=T3.lin_none (fun e=>PG.2 (T3.same_symm e)) (fun g=>absurd g.2 (by decide))
 refine z7 (.one (.bb false)) rfl (fun β S w hS hs hw hG=>(kx (gK (E7 hS hG.2.1) (by rw [j8 b2]; rfl)))) ?_
 refine O3 (fun x0=>pr (.ag 3 (F4 x0)) (.lit .i64 0)) (fun x0=>ad7 x0 ((k.bl (l8 l p) (l8 l p) / (2 * k.bl p (l8 l p)))) 0) (fun _ _ _ h=>X3 h) (fun β S w hS hs hw hG=>(kx (as6 (Q9 X1 (by omega)) (am5 hS hG.1 hG.2.1 (m6 B3) (m6 B2) (O9 b2))))) ?_
 intro v1
 refine E9 (fun x0=>.one (.ag 3 x0)) (fun x0=>b8 x0 ((k.bl (l8 l p) (l8 l p) / (2 * k.bl p (l8 l p))))) (fun β S w hS hs hw hG=>(kx (Z0 hS hG.1.2))) ?_
 intro v2
 refine E9 (fun x0=>.one (.ag 3 x0)) (fun x0=>b8 x0 ((-(k.bl (l8 l p) (l8 l p) / (2 * k.bl p (l8 l p)))))) (fun β S w hS hs hw hG=>(kx (U0 hG.1))) ?_
 intro v3
 refine s7 ?_
 refine q6 11 ?_
 refine d9 3 ?_
 refine I5 u1 3 0 3 ⟨b9,hS,j5⟩ (by decide) (by decide) (fun β η S w hM hw hG hd=>bh4 hG.2.2.2.2.2.2.1) ?_
 refine B8 (fun η=>η 3) 53 3 true (fun x0=>.one (.ag 3 x0)) (fun x0=>b8 x0 (p.x)) ⟨b9,hS,j5⟩ (fun β η S w hM hw hG hd=>bg5 hG.2.2.2.2.2.2.1 (i:=0) rfl (n9 hd 3 : (A7 ((η 3) = o8 u1 (Int.toNat 0 * 3))).p S w)) ?_
 refine q9 (fun x0=>.one (.ag 3 x0)) (fun x0=>b8 x0 ((-(k.bl (l8 l p) (l8 l p) / (2 * k.bl p (l8 l p))) * p.x))) (fun β η S w hS hs hw hG hd=>(kx (n8 hS hG.1 (n9 hd 4 : (b8 (η 4) (p.x)).p S w) (L4 X1) hm.1))) ?_
 refine d9 3 ?_
 refine I6 53 3 2 (fun x0=>B6 x0 [-(k.bl (l8 l p) (l8 l p) / (2 * k.bl p (l8 l p))) * p.x,(l8 l p).x]) (fun β η S w x0 w' hS hs hw hG hd hk hrow=>ae7 ((n9 hd 5 : (b8 (η 5) ((-(k.bl (l8 l p) (l8 l p) / (2 * k.bl p (l8 l p))) * p.x))).p S w).to hk) (hG.2.2.2.2.2.1.2.1.to hk) (kcQ hrow)) ?_
 refine q9 (fun x0=>.one (.ag 3 x0)) (fun x0=>b8 x0 ((-(k.bl (l8 l p) (l8 l p) / (2 * k.bl p (l8 l p))) * p.x + 1 * (l8 l p).x))) (fun β η S w hS hs hw hG hd=>(kx (K4 (m:=20 + (3 * ((3 * ((n + 1) + (2 * (1 + m) + 1)) + 2) + (2 * (1 + m) + 1)) + 2) + (1 + (3 * ((3 * ((n + 1) + m) + 2) + (2 * (1 + m) + 1)) + 2))) LE hS (n9 hd 9 : (B6 (η 9) [-(k.bl (l8 l p) (l8 l p) / (2 * k.bl p (l8 l p))) * p.x,(l8 l p).x]).p S w) (ad4 (m6 (q7 (L4 X1) hm.1)) (m6 Q0.1)) (by simp only [List.length]; omega)))) ?_
 refine o6 [true,false,false,false,false] ((b8 v3 ((-(k.bl (l8 l p) (l8 l p) / (2 * k.bl p (l8 l p)))))).and ((O5 X (l8 l p)).and ((A4 u1 p).and (Gh.nil)))) (by exact fun _ _ h=>⟨h.1,h.2.2.2.2.2.1,h.2.2.2.2.2.2.1,trivial⟩) (fun g η=>(b8 (η 10) ((-(k.bl (l8 l p) (l8 l p) / (2 * k.bl p (l8 l p))) * p.x + 1 * (l8 l p).x))).and g) (fun g η=>(by kernel_rfl)) ?_
 intro η_2
 refine s7 ?_
 refine q6 11 ?_
 refine d9 3 ?_
 refine I5 u1 3 1 3 ⟨b9,hS,j5⟩ (by decide) (by decide) (fun β η S w hM hw hG hd=>bh4 hG.2.2.2.1) ?_
 refine B8 (fun η=>η 3) 53 3 true (fun x0=>.one (.ag 3 x0)) (fun x0=>b8 x0 (p.y)) ⟨b9,hS,j5⟩ (fun β η S w hM hw hG hd=>bg5 hG.2.2.2.1 (i:=1) rfl (n9 hd 3 : (A7 ((η 3) = o8 u1 (Int.toNat 1 * 3))).p S w)) ?_
 refine q9 (fun x0=>.one (.ag 3 x0)) (fun x0=>b8 x0 ((-(k.bl (l8 l p) (l8 l p) / (2 * k.bl p (l8 l p))) * p.y))) (fun β η S w hS hs hw hG hd=>(kx (n8 hS hG.2.1 (n9 hd 4 : (b8 (η 4) (p.y)).p S w) (L4 X1) hm.2.1))) ?_
 refine d9 3 ?_
 refine I6 53 3 2 (fun x0=>B6 x0 [-(k.bl (l8 l p) (l8 l p) / (2 * k.bl p (l8 l p))) * p.y,(l8 l p).y]) (fun β η S w x0 w' hS hs hw hG hd hk hrow=>ae7 ((n9 hd 5 : (b8 (η 5) ((-(k.bl (l8 l p) (l8 l p) / (2 * k.bl p (l8 l p))) * p.y))).p S w).to hk) (hG.2.2.1.2.2.1.to hk) (kcQ hrow)) ?_
 refine q9 (fun x0=>.one (.ag 3 x0)) (fun x0=>b8 x0 ((-(k.bl (l8 l p) (l8 l p) / (2 * k.bl p (l8 l p))) * p.y + 1 * (l8 l p).y))) (fun β η S w hS hs hw hG hd=>(kx (K4 (m:=20 + (3 * ((3 * ((n + 1) + (2 * (1 + m) + 1)) + 2) + (2 * (1 + m) + 1)) + 2) + (1 + (3 * ((3 * ((n + 1) + m) + 2) + (2 * (1 + m) + 1)) + 2))) LE hS (n9 hd 9 : (B6 (η 9) [-(k.bl (l8 l p) (l8 l p) / (2 * k.bl p (l8 l p))) * p.y,(l8 l p).y]).p S w) (ad4 (m6 (q7 (L4 X1) hm.2.1)) (m6 Q0.2.1)) (by simp only [List.length]; omega)))) ?_
 refine o6 [true,false,false,false,false] ((b8 (η_2 10) ((-(k.bl (l8 l p) (l8 l p) / (2 * k.bl p (l8 l p))) * p.x + 1 * (l8 l p).x))).and ((b8 v3 ((-(k.bl (l8 l p) (l8 l p) / (2 * k.bl p (l8 l p)))))).and ((O5 X (l8 l p)).and ((A4 u1 p).and (Gh.nil))))) (by exact fun _ _ h=>⟨h.1,h.2.1,h.2.2.1,h.2.2.2.1,trivial⟩) (fun g η=>(b8 (η 10) ((-(k.bl (l8 l p) (l8 l p) / (2 * k.bl p (l8 l p))) * p.y + 1 * (l8 l p).y))).and g) (fun g η=>(by kernel_rfl)) ?_
 intro η_3
 refine s7 ?_
 refine q6 11 ?_
 refine d9 3 ?_
 refine I5 u1 3 2 3 ⟨b9,hS,j5⟩ (by decide) (by decide) (fun β η S w hM hw hG hd=>bh4 hG.2.2.2.2.1) ?_
 refine B8 (fun η=>η 3) 53 3 true (fun x0=>.one (.ag 3 x0)) (fun x0=>b8 x0 (p.z)) ⟨b9,hS,j5⟩ (fun β η S w hM hw hG hd=>bg5 hG.2.2.2.2.1 (i:=2) rfl (n9 hd 3 : (A7 ((η 3) = o8 u1 (Int.toNat 2 * 3))).p S w)) ?_
 refine q9 (fun x0=>.one (.ag 3 x0)) (fun x0=>b8 x0 ((-(k.bl (l8 l p) (l8 l p) / (2 * k.bl p (l8 l p))) * p.z))) (fun β η S w hS hs hw hG hd=>(kx (n8 hS hG.2.2.1 (n9 hd 4 : (b8 (η 4) (p.z)).p S w) (L4 X1) hm.2.2))) ?_
 refine d9 3 ?_
 refine I6 53 3 2 (fun x0=>B6 x0 [-(k.bl (l8 l p) (l8 l p) / (2 * k.bl p (l8 l p))) * p.z,(l8 l p).z]) (fun β η S w x0 w' hS hs hw hG hd hk hrow=>ae7 ((n9 hd 5 : (b8 (η 5) ((-(k.bl (l8 l p) (l8 l p) / (2 * k.bl p (l8 l p))) * p.z))).p S w).to hk) (hG.2.2.2.1.2.2.2.to hk) (kcQ hrow)) ?_
 refine q9 (fun x0=>.one (.ag 3 x0)) (fun x0=>b8 x0 ((-(k.bl (l8 l p) (l8 l p) / (2 * k.bl p (l8 l p))) * p.z + 1 * (l8 l p).z))) (fun β η S w hS hs hw hG hd=>(kx (K4 (m:=20 + (3 * ((3 * ((n + 1) + (2 * (1 + m) + 1)) + 2) + (2 * (1 + m) + 1)) + 2) + (1 + (3 * ((3 * ((n + 1) + m) + 2) + (2 * (1 + m) + 1)) + 2))) LE hS (n9 hd 9 : (B6 (η 9) [-(k.bl (l8 l p) (l8 l p) / (2 * k.bl p (l8 l p))) * p.z,(l8 l p).z]).p S w) (ad4 (m6 (q7 (L4 X1) hm.2.2)) (m6 Q0.2.2)) (by simp only [List.length]; omega)))) ?_
 refine o6 [true,false,false,false,false] ((b8 (η_3 10) ((-(k.bl (l8 l p) (l8 l p) / (2 * k.bl p (l8 l p))) * p.y + 1 * (l8 l p).y))).and ((b8 (η_2 10) ((-(k.bl (l8 l p) (l8 l p) / (2 * k.bl p (l8 l p))) * p.x + 1 * (l8 l p).x))).and (Gh.nil))) (by exact fun _ _ h=>⟨h.1,h.2.1,trivial⟩) (fun g η=>(b8 (η 10) ((-(k.bl (l8 l p) (l8 l p) / (2 * k.bl p (l8 l p))) * p.z + 1 * (l8 l p).z))).and g) (fun g η=>(by kernel_rfl)) ?_
 intro η_4
 refine s7 ?_
 refine E9 (fun x0=>.one (.ag 9 x0)) (fun x0=>j6 x0 ((T3.lin (-(k.bl (l8 l p) (l8 l p) / (2 * k.bl p (l8 l p)))) p 1 (l8 l p)).normal)) (fun β S w hS hs hw hG=>(kx (af1 hS ⟨_,_,_,rfl,hG.2.2.1,hG.2.1,hG.1⟩ LN TL (au2 (S1 ▸ hR) hr2)))) ?_
 intro v4
 exact p9 (v4) rfl (fun S w hs hw hG=>⟨hw,by rw [S1]; exact hG.1.mono fun k _ hk=>hs k hk⟩)
theorem cj7 {S : Nat → Prop} {w : World} {v vp vl : Value} {k : C6} {p l : T3} {n m r : Nat} (ht : Tab w) (hS : Up S w) (h : ConV S w v k) (hp : TripV S w vp p) (hv : TripV S w vl l) (hl : cl k n) (hm : tl p m) (hm2 : tl l m) (hn : n ≤ 20) (hmm : m ≤ 20) (hR : tl (a50 k p (l8 l p)) r) (hr2 : r ≤ 3344)
  (e1 : N2 k = 0) (e2 : D5 p = 0) (e3 : D5 l = 0) (e4 : ¬ k.mat.det = 0) (e5 : k.val p = 0) (e6 : p.dot l = 0) :
  Gives prog 16 [v,vp,vl] w fun v' w'=>Ext w w' ∧ (J9 v' (a50 k p (l8 l p)) 0).p S w':=by
 refine p7 (E:=env) (S0:=S) (G:=((H0 v (k)).and ((j6 vp (p)).and (j6 vl (l))))) (l:=[.one (.ag 18 v),.one (.ag 9 vp),.one (.ag 9 vl)]) func16 rfl rfl rfl ⟨h.ok,hp.ok,hv.ok,trivial⟩ rfl ⟨h,hp,hv⟩ ?_
 refine n7 (I0 0 60 ([.ag 18 v]) (fun u0=>?_))
 refine n7 (I0 1 55 ([.ag 9 vp]) (fun u1=>?_))
 refine n7 (I0 2 55 ([.ag 9 vl]) (fun u2=>?_))
 refine O3 (fun x0=>pr (.ag 9 (F4 x0)) (.int .i64 ((0)))) (fun x0=>J9 x0 ((a50 k p (l8 l p))) ((0))) (fun _ _ _ h=>af8 h) (fun β S w hS hs hw hG=>have h:=hG.2.2.2.1; (kx ((dk1 54 [u0,u1,u2] (t:=a50 k p (l8 l p)) (E:=0) hS (fun _ S' w' hS' k' _ hs'=>cf8 (ht.to (hw.trans k')) hS' (G7 hG.2.2.1) (G7 hG.2.1) (G7 hG.1) ((Y4 u0 k).at' (ae5 (F:=fun x=>H0 x k) hG.2.2.1 h.lies h) hs' k') ((A4 u1 p).at' (N4 hG.2.1 hG.2.2.2.2.1) hs' k') ((A4 u2 l).at' (N4 hG.1 hG.2.2.2.2.2) hs' k') hl hm hm2 hn hmm hR hr2 e1 e2 e3 e4 e5 e6) (fun e=>absurd rfl e)).mono fun v' w' h=>⟨h.1,by have g:=h.2; rw [if_pos rfl] at g; exact g⟩))) ?_
 intro r
 exact p9 (.tuple #[F4 r,.int .i64 (0)]) rfl (fun S w hs hw hG=>⟨hw,rfl,hG.1.2.mono fun k _ hk=>hs k hk⟩)
theorem b61 {S : Nat → Prop} {w : World} {va vb : Value} {a b : T3} {n : Nat} (hS : Up S w) (ha : TripV S w va a) (hb : TripV S w vb b) (hl : tl a n) (hn : n ≤ 1000000) (he : b = a) :
  Gives prog 35 [va,vb] w fun v' w'=>v' = .bool true ∧ Ext w w':=by
 subst he
 obtain ⟨a1,a2,a3,rfl,h1,h2,h3⟩:=ha
 obtain ⟨b1,b2,b3,rfl,g1,g2,g3⟩:=hb
 have e : ∀ {x : Rat},(x.num * x.den - x.num * x.den).sign = 0:=fun {x}=>by rw [Int.sub_self]; rfl
 refine p7 (E:=env) (S0:=S) (G:=((b8 a1 b.x).and ((b8 a2 b.y).and ((b8 a3 b.z).and ((b8 b1 b.x).and ((b8 b2 b.y).and (b8 b3 b.z))))))) (l:=[.agg [.ag 3 a1,.ag 3 a2,.ag 3 a3],.agg [.ag 3 b1,.ag 3 b2,.ag 3 b3]]) func35 rfl rfl rfl ⟨K0 ⟨h1.okc,h2.okc,h3.okc,trivial⟩,K0 ⟨g1.okc,g2.okc,g3.okc,trivial⟩,trivial⟩ rfl ⟨h1,h2,h3,g1,g2,g3⟩ ?_
 refine s7 ?_
 refine q6 7 ?_
 refine d9 6 ?_
 refine h_K (.one (.lit .i64 0)) (fun η=>(by kernel_rfl)) (U1 rfl) rfl (fun β η S w hS hs hw hG hd=>(kx (gK (cb2 hS hG.1 hG.2.2.2.1 (m6 hl.1) (m6 hl.1)) (by rw [e]; rfl)))) ?_
 refine o6 [false] ((b8 a2 b.y).and ((b8 a3 b.z).and ((b8 b2 b.y).and ((b8 b3 b.z).and (Gh.nil))))) (by exact fun _ _ h=>⟨h.2.1,h.2.2.1,h.2.2.2.2.1,h.2.2.2.2.2,trivial⟩) (fun g η=>g) (fun g η=>(by kernel_rfl)) ?_
 intro η_1
 refine s7 ?_
 refine q6 7 ?_
 refine d9 6 ?_
 refine h_K (.one (.lit .i64 0)) (fun η=>(by kernel_rfl)) (U1 rfl) rfl (fun β η S w hS hs hw hG hd=>(kx (gK (cb2 hS hG.1 hG.2.2.1 (m6 hl.2.1) (m6 hl.2.1)) (by rw [e]; rfl)))) ?_
 refine o6 [false] ((b8 a3 b.z).and ((b8 b3 b.z).and (Gh.nil))) (by exact fun _ _ h=>⟨h.2.1,h.2.2.2.1,trivial⟩) (fun g η=>g) (fun g η=>(by kernel_rfl)) ?_
 intro η_2
 refine s7 ?_
 refine q6 7 ?_
 refine d9 6 ?_
 refine h_K (.one (.lit .i64 0)) (fun η=>(by kernel_rfl)) (U1 rfl) rfl (fun β η S w hS hs hw hG hd=>(kx (gK (cb2 hS hG.1 hG.2.1 (m6 hl.2.2) (m6 hl.2.2)) (by rw [e]; rfl)))) ?_
 refine o6 [false] (Gh.nil) (by exact fun _ _ h=>trivial) (fun g η=>g) (fun g η=>(by kernel_rfl)) ?_
 intro η_3
 refine s7 ?_
 exact p9 (.bool true) rfl (fun S w hs hw hG=>⟨rfl,hw⟩)
theorem b04 {w : World} {ab five : Nat → Nat → Int} {f : Nat → Int} {k : C6} {P Q : T3} {s : P5} (ht : Tab w) (Ek : N9 f = k) (EP : M8 (ab 0) = P) (EQ : M8 (ab 1) = Q) (E0 : M8 (five 0) = s.p0) (E1 : M8 (five 1) = s.p1) (E2 : M8 (five 2) = s.p2) (E3 : M8 (five 3) = s.p3) (E4 : M8 (five 4) = s.p4)
  (K : PolD k P Q) (T : ∀ t ∈ s.list,tl t 1 ∧ D5 t = 0) (C : s.Fine → ¬ M9 s.con.list ∧ cl s.con.normal 2 ∧ N2 s.con.normal = 0 ∧ ∀ t ∈ s.list,s.con.normal.val t = 0) :
  Gives prog 4 [.agg #[.int .i64 (ab 0 0),.int .i64 (ab 0 1),.int .i64 (ab 0 2),.int .i64 (ab 0 3),.int .i64 (ab 0 4),.int .i64 (ab 0 5),.int .i64 (ab 1 0),.int .i64 (ab 1 1),.int .i64 (ab 1 2),.int .i64 (ab 1 3),.int .i64 (ab 1 4),.int .i64 (ab 1 5)],.agg #[.int .i64 (f 0),.int .i64 (f 1),.int .i64 (f 2),.int .i64 (f 3),.int .i64 (f 4),.int .i64 (f 5)],.agg #[.int .i64 (five 0 0),.int .i64 (five 0 1),.int .i64 (five 0 2),.int .i64 (five 0 3),.int .i64 (five 0 4),.int .i64 (five 0 5),.int .i64 (five 1 0),.int .i64 (five 1 1),.int .i64 (five 1 2),.int .i64 (five 1 3),.int .i64 (five 1 4),.int .i64 (five 1 5),.int .i64 (five 2 0),.int .i64 (five 2 1),.int .i64 (five 2 2),.int .i64 (five 2 3),.int .i64 (five 2 4),.int .i64 (five 2 5),.int .i64 (five 3 0),.int .i64 (five 3 1),.int .i64 (five 3 2),.int .i64 (five 3 3),.int .i64 (five 3 4),.int .i64 (five 3 5),.int .i64 (five 4 0),.int .i64 (five 4 1),.int .i64 (five 4 2),.int .i64 (five 4 3),.int .i64 (five 4 4),.int .i64 (five 4 5)]] w fun v' w'=>v' = .bool true ∧ Ext w w':=by
 have hS : Up All w:=Up.all
 refine p7 (E:=env) (S0:=All) (G:=Gh.nil) (l:=[.agg [.int .i64 (ab 0 0),.int .i64 (ab 0 1),.int .i64 (ab 0 2),.int .i64 (ab 0 3),.int .i64 (ab 0 4),.int .i64 (ab 0 5),.int .i64 (ab 1 0),.int .i64 (ab 1 1),.int .i64 (ab 1 2),.int .i64 (ab 1 3),.int .i64 (ab 1 4),.int .i64 (ab 1 5)],.agg [.int .i64 (f 0),.int .i64 (f 1),.int .i64 (f 2),.int .i64 (f 3),.int .i64 (f 4),.int .i64 (f 5)],.agg [.int .i64 (five 0 0),.int .i64 (five 0 1),.int .i64 (five 0 2),.int .i64 (five 0 3),.int .i64 (five 0 4),.int .i64 (five 0 5),.int .i64 (five 1 0),.int .i64 (five 1 1),.int .i64 (five 1 2),.int .i64 (five 1 3),.int .i64 (five 1 4),.int .i64 (five 1 5),.int .i64 (five 2 0),.int .i64 (five 2 1),.int .i64 (five 2 2),.int .i64 (five 2 3),.int .i64 (five 2 4),.int .i64 (five 2 5),.int .i64 (five 3 0),.int .i64 (five 3 1),.int .i64 (five 3 2),.int .i64 (five 3 3),.int .i64 (five 3 4),.int .i64 (five 3 5),.int .i64 (five 4 0),.int .i64 (five 4 1),.int .i64 (five 4 2),.int .i64 (five 4 3),.int .i64 (five 4 4),.int .i64 (five 4 5)]]) func4 rfl rfl rfl ⟨K0 ⟨trivial,trivial,trivial,trivial,trivial,trivial,trivial,trivial,trivial,trivial,trivial,trivial,trivial⟩,cc7,K0 ⟨trivial,trivial,trivial,trivial,trivial,trivial,trivial,trivial,trivial,trivial,trivial,trivial,trivial,trivial,trivial,trivial,trivial,trivial,trivial,trivial,trivial,trivial,trivial,trivial,trivial,trivial,trivial,trivial,trivial,trivial,trivial⟩,trivial⟩ rfl trivial ?_
 refine q6 8 ?_
 refine d9 8 ?_
 refine ab5 (fun η=>(Gh.nil)) (by kernel_rfl) (fun η=>(by kernel_rfl)) ?_
 intro η_1
 refine E9 (fun x0=>.one (.ag 24 x0)) (fun x0=>a66 x0 (k)) (fun β S w hS hs hw hG=>(kx ((da0 hS).mono fun v' w' h=>⟨h.1,Ek ▸ h.2⟩))) ?_
 intro c0
 refine q6 8 ?_
 refine d9 1 ?_
 refine q9 (fun x0=>.one (.ag 12 x0)) (fun x0=>A9 x0 (P)) (fun β η S w hS hs hw hG hd=>(kx ((an2 hS).mono fun v' w' h=>⟨h.1,EP ▸ h.2⟩))) ?_
 refine q9 (fun x0=>.one (.ag 9 x0)) (fun x0=>j6 x0 (P)) (fun β η S w hS hs hw hG hd=>(kx (O4 hS (n9 hd 1 : (A9 (η 1) (P)).p S w) K.tP (by decide)))) ?_
 refine d9 1 ?_
 refine q9 (fun x0=>.one (.ag 12 x0)) (fun x0=>A9 x0 (Q)) (fun β η S w hS hs hw hG hd=>(kx ((an2 hS).mono fun v' w' h=>⟨h.1,EQ ▸ h.2⟩))) ?_
 refine q9 (fun x0=>.one (.ag 9 x0)) (fun x0=>j6 x0 (Q)) (fun β η S w hS hs hw hG hd=>(kx (O4 hS (n9 hd 4 : (A9 (η 4) (Q)).p S w) K.tQ (by decide)))) ?_
 refine d9 2 ?_
 refine ab5 (fun η=>((j6 (η 5) (Q)).and ((A9 (η 4) (Q)).and ((j6 (η 2) (P)).and ((A9 (η 1) (P)).and ((a66 c0 (k)).and (Gh.nil))))))) (by kernel_rfl) (fun η=>(by kernel_rfl)) ?_
 intro η_2
 refine E9 (fun x0=>.one (.ag 18 x0)) (fun x0=>H0 x0 (k)) (fun β S w hS hs hw hG=>(kx (db8 hS hG.2.2.2.2.1 K.lk (by decide)))) ?_
 intro vk
 refine O3 (fun x0=>pr (.ag 9 (F4 x0)) (.int .i64 ((F2 k P)))) (fun x0=>J9 x0 ((if F2 k P = 0 then (k.mat.apply P).normal else ⟨0,0,0⟩)) ((F2 k P))) (fun _ _ _ h=>af8 h) (fun β S w hS hs hw hG=>(kx (b44 (ht.to hw) hS hG.1 hG.2.2.2.1 K.lk K.tP (by decide) K.tU (by decide)))) ?_
 intro ru
 refine O3 (fun x0=>pr (.ag 9 (F4 x0)) (.int .i64 ((F2 k Q)))) (fun x0=>J9 x0 ((if F2 k Q = 0 then (k.mat.apply Q).normal else ⟨0,0,0⟩)) ((F2 k Q))) (fun _ _ _ h=>af8 h) (fun β S w hS hs hw hG=>(kx (b44 (ht.to hw) hS hG.2.1 hG.2.2.1 K.lk K.tQ (by decide) K.tV (by decide)))) ?_
 intro rv
 refine ce8 (ι:=Unit) 0 1 [(6,6),(17,20),(66,94)] (fun x=>[]) (fun _=>[]) (fun x=>((J9 rv ((if F2 k Q = 0 then (k.mat.apply Q).normal else ⟨0,0,0⟩)) ((F2 k Q))).and ((J9 ru ((if F2 k P = 0 then (k.mat.apply P).normal else ⟨0,0,0⟩)) ((F2 k P))).and ((H0 vk (k)).and ((j6 (η_2 5) (Q)).and ((A9 (η_2 4) (Q)).and ((j6 (η_2 2) (P)).and ((A9 (η_2 1) (P)).and ((a66 c0 (k)).and (Gh.nil)))))))))) (fun x=>True) ⟨b9,hS,j5⟩ (by kernel_rfl) (by kernel_rfl) (fun hso=>?_) (fun x hx=>?_)
 ·refine S3 (p:=F2 k P = 0) 68 (fun e1=>?_) (fun e1=>?_)
  ·refine R8 (p:=F2 k Q = 0) (fun e2=>?_) (fun e2=>?_)
   ·refine z7 (pr (.tp (OnP Q (k.mat.apply P).normal)) (.lit .i64 0)) rfl (fun β S w hS hs hw hG=>(kx (gK (cm3 (ht.to hw) hS hG.2.2.2.1 (by have h:=hG.2.1.2; rw [if_pos e1] at h; exact h) K.tQ K.tU (by decide)) (by rw [K.o1 e1]; rfl)))) ?_
    refine z7 (pr (.tp (OnP P (k.mat.apply Q).normal)) (.lit .i64 0)) rfl (fun β S w hS hs hw hG=>(kx (gK (cm3 (ht.to hw) hS hG.2.2.2.2.2.1 (by have h:=hG.1.2; rw [if_pos e2] at h; exact h) K.tP K.tV (by decide)) (by rw [K.o2 e2]; rfl)))) ?_
    refine ai1 (p:=¬ (OnP Q (k.mat.apply P).normal ↔ OnP P (k.mat.apply Q).normal)) (fun h=>h (K.pp e1 e2)) ?_
    exact L2 (()) hso (trivial) (fun S w hw hG=>⟨B9 rfl,fun p hp=>by cases hp⟩) (fun S w hw hG=>hG)
   exact L2 (()) hso (trivial) (fun S w hw hG=>⟨B9 rfl,fun p hp=>by cases hp⟩) (fun S w hw hG=>hG)
  exact L2 (()) hso (trivial) (fun S w hw hG=>⟨B9 rfl,fun p hp=>by cases hp⟩) (fun S w hw hG=>hG)
 refine z7 (pr (.tp (¬ k.mat.det = 0)) (.lit .i64 0)) rfl (fun β S w hS hs hw hG=>(kx (gK (cx6 (ht.to hw) hS hG.2.2.1 K.lk (by decide)) (by rw [show (N2 k = 0 ∧ ¬ k.mat.det = 0) = (¬ k.mat.det = 0) from propext ⟨fun h=>h.2,fun h=>⟨K.ck,h⟩⟩,K.ck]; rfl)))) ?_
 refine ck7 (ι:=Unit) [(6,6),(23,32),(103,168)] (fun x=>[]) (fun _=>[]) (fun x=>((J9 rv ((if F2 k Q = 0 then (k.mat.apply Q).normal else ⟨0,0,0⟩)) ((F2 k Q))).and ((J9 ru ((if F2 k P = 0 then (k.mat.apply P).normal else ⟨0,0,0⟩)) ((F2 k P))).and ((H0 vk (k)).and ((j6 (η_2 5) (Q)).and ((A9 (η_2 4) (Q)).and ((j6 (η_2 2) (P)).and ((A9 (η_2 1) (P)).and ((a66 c0 (k)).and (Gh.nil)))))))))) (fun x=>True) ⟨b9,hS,j5⟩ (by kernel_rfl) (fun hso=>?_) (fun x hx=>?_)
 ·refine R8 (p:=¬ k.mat.det = 0) (fun d=>?_) (fun d=>?_)
  ·have e1:=K.s1 d
   refine O3 (fun x0=>pr (.ag 9 (F4 x0)) (.lit .i64 0)) (fun x0=>J9 x0 (P.normal) 0) (fun _ _ _ h=>bt9 h) (fun β S w hS hs hw hG=>(kx ((dq3 (ht.to hw) hS hG.2.2.1 (by have h:=hG.2.1.2; rw [if_pos e1] at h; exact h) K.lk K.tU (by decide) (show tl (k.mat.adj.apply (k.mat.apply P).normal).normal 1 by rw [K.s3 d]; exact K.tn) (by decide)).mono fun v' w' h=>⟨h.1,by have h2:=h.2; rw [if_pos (K.s2 d),K.s2 d,K.s3 d] at h2; exact h2⟩))) ?_
   intro x1
   refine O3 (fun x0=>pr (.ag 9 (F4 x0)) (.lit .i64 0)) (fun x0=>J9 x0 (P.normal) 0) (fun _ _ _ h=>bt9 h) (fun β S w hS hs hw hG=>(kx ((ct4 (ht.to hw) hS hG.2.2.2.2.2.2.1 K.tP (by decide) K.tn (by decide)).mono fun v' w' h=>⟨h.1,by have h2:=h.2; rw [if_pos K.bP,K.bP] at h2; exact h2⟩))) ?_
   intro n1
   refine au6 (p:=¬ F2 k P = 0) 116 ⟨b9,hS,j5⟩ (by kernel_rfl) (by kernel_rfl) (fun h=>h e1) ?_
   refine z7 (.one (.bb true)) rfl (fun β S w hS hs hw hG=>(kx (b61 hS hG.2.1.2 hG.1.2 K.tn (by decide) rfl))) ?_
   refine z7 (pr (.tp (k.val P = 0)) (.lit .i64 0)) rfl (fun β S w hS hs hw hG=>(kx (gK (aa8 (ht.to hw) hS hG.2.2.2.2.1 hG.2.2.2.2.2.2.2.1 K.lk K.tP (by decide)) (by rw [show (cpE k P = 0 ∧ k.val P = 0) = (k.val P = 0) from propext ⟨fun h=>h.2,fun h=>⟨a18 K.ck K.bP,h⟩⟩,a18 K.ck K.bP]; rfl)))) ?_
   refine z7 (pr (.tp (k.val P = 0)) (.lit .i64 0)) rfl (fun β S w hS hs hw hG=>(kx (gK (cm3 (ht.to hw) hS hG.2.2.2.2.2.2.2.1 (by have h:=hG.2.2.2.1.2; rw [if_pos e1] at h; exact h) K.tP K.tU (by decide)) (by rw [show OnP P (k.mat.apply P).normal = (k.val P = 0) from propext (K.s4 e1),K.o3 e1]; rfl)))) ?_
   refine ai1 (p:=¬ (k.val P = 0 ↔ k.val P = 0)) (fun h=>h Iff.rfl) ?_
   refine R8 (p:=k.val P = 0) (fun e3=>?_) (fun e3=>?_)
   ·refine O3 (fun x0=>pr (.ag 9 (F4 x0)) (.lit .i64 0)) (fun x0=>J9 x0 (P.normal) 0) (fun _ _ _ h=>bt9 h) (fun β S w hS hs hw hG=>(kx ((cj7 (ht.to hw) hS hG.2.2.2.2.1 hG.2.2.2.2.2.2.2.1 (by have h:=hG.2.2.2.1.2; rw [if_pos e1] at h; exact h) K.lk K.tP K.tU (by decide) (by decide) (show tl (a50 k P (l8 (k.mat.apply P).normal P)) 1 by rw [(K.s5 d e3).1]; exact K.tn) (by decide) K.ck K.bP (K.bU e1) d e3 (K.s5 d e3).2).mono fun v' w' h=>⟨h.1,by have h2:=h.2; rw [(K.s5 d e3).1] at h2; exact h2⟩))) ?_
    intro s2
    refine z7 (.one (.bb true)) rfl (fun β S w hS hs hw hG=>(kx (b61 hS hG.1.2 hG.2.1.2 K.tn (by decide) rfl))) ?_
    exact L2 (()) hso (trivial) (fun S w hw hG=>⟨B9 rfl,fun p hp=>by cases hp⟩) (fun S w hw hG=>hG.2.2.2)
   exact L2 (()) hso (trivial) (fun S w hw hG=>⟨B9 rfl,fun p hp=>by cases hp⟩) (fun S w hw hG=>hG.2.2)
  exact L2 (()) hso (trivial) (fun S w hw hG=>⟨B9 rfl,fun p hp=>by cases hp⟩) (fun S w hw hG=>hG)
 refine s7 ?_
 refine E9 (fun x0=>.one (.ag 12 x0)) (fun x0=>A9 x0 (s.p0)) (fun β S w hS hs hw hG=>(kx ((an2 hS).mono fun v' w' h=>⟨h.1,E0 ▸ h.2⟩))) ?_
 intro y0
 refine E9 (fun x0=>.one (.ag 9 x0)) (fun x0=>j6 x0 (s.p0)) (fun β S w hS hs hw hG=>(kx (O4 hS hG.1 (T _ (P5.at_mem (s:=s) (i:=0) (by decide))).1 (by decide)))) ?_
 intro z0
 refine s7 ?_
 refine E9 (fun x0=>.one (.ag 12 x0)) (fun x0=>A9 x0 (s.p1)) (fun β S w hS hs hw hG=>(kx ((an2 hS).mono fun v' w' h=>⟨h.1,E1 ▸ h.2⟩))) ?_
 intro y1
 refine E9 (fun x0=>.one (.ag 9 x0)) (fun x0=>j6 x0 (s.p1)) (fun β S w hS hs hw hG=>(kx (O4 hS hG.1 (T _ (P5.at_mem (s:=s) (i:=1) (by decide))).1 (by decide)))) ?_
 intro z1
 refine s7 ?_
 refine E9 (fun x0=>.one (.ag 12 x0)) (fun x0=>A9 x0 (s.p2)) (fun β S w hS hs hw hG=>(kx ((an2 hS).mono fun v' w' h=>⟨h.1,E2 ▸ h.2⟩))) ?_
 intro y2
 refine E9 (fun x0=>.one (.ag 9 x0)) (fun x0=>j6 x0 (s.p2)) (fun β S w hS hs hw hG=>(kx (O4 hS hG.1 (T _ (P5.at_mem (s:=s) (i:=2) (by decide))).1 (by decide)))) ?_
 intro z2
 refine s7 ?_
 refine E9 (fun x0=>.one (.ag 12 x0)) (fun x0=>A9 x0 (s.p3)) (fun β S w hS hs hw hG=>(kx ((an2 hS).mono fun v' w' h=>⟨h.1,E3 ▸ h.2⟩))) ?_
 intro y3
 refine E9 (fun x0=>.one (.ag 9 x0)) (fun x0=>j6 x0 (s.p3)) (fun β S w hS hs hw hG=>(kx (O4 hS hG.1 (T _ (P5.at_mem (s:=s) (i:=3) (by decide))).1 (by decide)))) ?_
 intro z3
 refine s7 ?_
 refine E9 (fun x0=>.one (.ag 12 x0)) (fun x0=>A9 x0 (s.p4)) (fun β S w hS hs hw hG=>(kx ((an2 hS).mono fun v' w' h=>⟨h.1,E4 ▸ h.2⟩))) ?_
 intro y4
 refine E9 (fun x0=>.one (.ag 9 x0)) (fun x0=>j6 x0 (s.p4)) (fun β S w hS hs hw hG=>(kx (O4 hS hG.1 (T _ (P5.at_mem (s:=s) (i:=4) (by decide))).1 (by decide)))) ?_
 intro z4
 refine s7 ?_
 refine O3 (fun x0=>pr (.ag 18 (F4 x0)) (.int .i64 (s.thrE))) (fun x0=>aw0 x0 (s.thr) (s.thrE)) (fun _ _ _ h=>b21 h) (fun β S w hS hs hw hG=>(kx (ck1 (ht.to hw) hS (c82 hG.2.2.2.2.2.2.2.2.1 hG.2.2.2.2.2.2.1 hG.2.2.2.2.1 hG.2.2.1 hG.1) (fun t h=>(T t h).1) (fun t h=>(T t h).2) (fun F=>⟨(C F).1,(C F).2.1⟩) (by decide)))) ?_
 intro r
 refine R8 (p:=¬ s.thrE = 0) (fun e=>?_) (fun e=>?_)
 ·refine ax0 (p:=s.thrE = 61) 189 ⟨b9,hS,j5⟩ (by kernel_rfl) (by kernel_rfl) (by unfold P5.thrE; rw [if_neg (fun F=>e (by unfold P5.thrE; rw [if_pos F]))]) ?_
  refine z7 (.one (.bb true)) rfl (fun β S w hS hs hw hG=>(kx (b73 (ht.to hw)))) ?_
  exact p9 (.bool true) rfl (fun S w hs hw hG=>⟨rfl,hw⟩)
 have F : s.Fine:=Classical.byContradiction fun g=>e (by unfold P5.thrE; rw [if_neg g]; decide)
 have ET : s.thr = s.con.normal:=by unfold P5.thr; rw [if_pos F]
 refine s7 ?_
 refine q6 9 ?_
 refine d9 4 ?_
 refine h_K (pr (.bb true) (.lit .i64 0)) (fun η=>(by kernel_rfl)) (U1 rfl) rfl (fun β η S w hS hs hw hG hd=>(kx (gK (aa8 (k:=s.con.normal) (ht.to hw) hS (ET ▸ hG.1.2) hG.2.2.2.2.2.2.2.2.2.1 (C F).2.1 (T _ (P5.at_mem (s:=s) (i:=0) (by decide))).1 (by decide)) (by rw [show cpE s.con.normal s.p0 = 0 from a18 (C F).2.2.1 (T _ (P5.at_mem (s:=s) (i:=0) (by decide))).2,l9 ⟨rfl,(C F).2.2.2 _ (P5.at_mem (s:=s) (i:=0) (by decide))⟩]; rfl)))) ?_
 refine d9 4 ?_
 refine ab5 (fun η=>((Gh.nil).and ((aw0 r (s.thr) (s.thrE)).and ((j6 z4 (s.p4)).and ((A9 y4 (s.p4)).and ((j6 z3 (s.p3)).and ((A9 y3 (s.p3)).and ((j6 z2 (s.p2)).and ((A9 y2 (s.p2)).and ((j6 z1 (s.p1)).and ((A9 y1 (s.p1)).and ((j6 z0 (s.p0)).and ((A9 y0 (s.p0)).and ((J9 rv ((if F2 k Q = 0 then (k.mat.apply Q).normal else ⟨0,0,0⟩)) ((F2 k Q))).and ((J9 ru ((if F2 k P = 0 then (k.mat.apply P).normal else ⟨0,0,0⟩)) ((F2 k P))).and ((H0 vk (k)).and ((j6 (η_2 5) (Q)).and ((A9 (η_2 4) (Q)).and ((j6 (η_2 2) (P)).and ((A9 (η_2 1) (P)).and ((a66 c0 (k)).and (Gh.nil)))))))))))))))))))))) (by kernel_rfl) (fun η=>(by kernel_rfl)) ?_
 intro η_3
 refine s7 ?_
 refine q6 9 ?_
 refine d9 4 ?_
 refine h_K (pr (.bb true) (.lit .i64 0)) (fun η=>(by kernel_rfl)) (U1 rfl) rfl (fun β η S w hS hs hw hG hd=>(kx (gK (aa8 (k:=s.con.normal) (ht.to hw) hS (ET ▸ hG.2.1.2) hG.2.2.2.2.2.2.2.2.1 (C F).2.1 (T _ (P5.at_mem (s:=s) (i:=1) (by decide))).1 (by decide)) (by rw [show cpE s.con.normal s.p1 = 0 from a18 (C F).2.2.1 (T _ (P5.at_mem (s:=s) (i:=1) (by decide))).2,l9 ⟨rfl,(C F).2.2.2 _ (P5.at_mem (s:=s) (i:=1) (by decide))⟩]; rfl)))) ?_
 refine d9 4 ?_
 refine ab5 (fun η=>((Gh.nil).and ((Gh.nil).and ((aw0 r (s.thr) (s.thrE)).and ((j6 z4 (s.p4)).and ((A9 y4 (s.p4)).and ((j6 z3 (s.p3)).and ((A9 y3 (s.p3)).and ((j6 z2 (s.p2)).and ((A9 y2 (s.p2)).and ((j6 z1 (s.p1)).and ((A9 y1 (s.p1)).and ((j6 z0 (s.p0)).and ((A9 y0 (s.p0)).and ((J9 rv ((if F2 k Q = 0 then (k.mat.apply Q).normal else ⟨0,0,0⟩)) ((F2 k Q))).and ((J9 ru ((if F2 k P = 0 then (k.mat.apply P).normal else ⟨0,0,0⟩)) ((F2 k P))).and ((H0 vk (k)).and ((j6 (η_2 5) (Q)).and ((A9 (η_2 4) (Q)).and ((j6 (η_2 2) (P)).and ((A9 (η_2 1) (P)).and ((a66 c0 (k)).and (Gh.nil))))))))))))))))))))))) (by kernel_rfl) (fun η=>(by kernel_rfl)) ?_
 intro η_4
 refine s7 ?_
 refine q6 9 ?_
 refine d9 4 ?_
 refine h_K (pr (.bb true) (.lit .i64 0)) (fun η=>(by kernel_rfl)) (U1 rfl) rfl (fun β η S w hS hs hw hG hd=>(kx (gK (aa8 (k:=s.con.normal) (ht.to hw) hS (ET ▸ hG.2.2.1.2) hG.2.2.2.2.2.2.2.1 (C F).2.1 (T _ (P5.at_mem (s:=s) (i:=2) (by decide))).1 (by decide)) (by rw [show cpE s.con.normal s.p2 = 0 from a18 (C F).2.2.1 (T _ (P5.at_mem (s:=s) (i:=2) (by decide))).2,l9 ⟨rfl,(C F).2.2.2 _ (P5.at_mem (s:=s) (i:=2) (by decide))⟩]; rfl)))) ?_
 refine d9 4 ?_
 refine ab5 (fun η=>((Gh.nil).and ((Gh.nil).and ((Gh.nil).and ((aw0 r (s.thr) (s.thrE)).and ((j6 z4 (s.p4)).and ((A9 y4 (s.p4)).and ((j6 z3 (s.p3)).and ((A9 y3 (s.p3)).and ((j6 z2 (s.p2)).and ((A9 y2 (s.p2)).and ((j6 z1 (s.p1)).and ((A9 y1 (s.p1)).and ((j6 z0 (s.p0)).and ((A9 y0 (s.p0)).and ((J9 rv ((if F2 k Q = 0 then (k.mat.apply Q).normal else ⟨0,0,0⟩)) ((F2 k Q))).and ((J9 ru ((if F2 k P = 0 then (k.mat.apply P).normal else ⟨0,0,0⟩)) ((F2 k P))).and ((H0 vk (k)).and ((j6 (η_2 5) (Q)).and ((A9 (η_2 4) (Q)).and ((j6 (η_2 2) (P)).and ((A9 (η_2 1) (P)).and ((a66 c0 (k)).and (Gh.nil)))))))))))))))))))))))) (by kernel_rfl) (fun η=>(by kernel_rfl)) ?_
 intro η_5
 refine s7 ?_
 refine q6 9 ?_
 refine d9 4 ?_
 refine h_K (pr (.bb true) (.lit .i64 0)) (fun η=>(by kernel_rfl)) (U1 rfl) rfl (fun β η S w hS hs hw hG hd=>(kx (gK (aa8 (k:=s.con.normal) (ht.to hw) hS (ET ▸ hG.2.2.2.1.2) hG.2.2.2.2.2.2.1 (C F).2.1 (T _ (P5.at_mem (s:=s) (i:=3) (by decide))).1 (by decide)) (by rw [show cpE s.con.normal s.p3 = 0 from a18 (C F).2.2.1 (T _ (P5.at_mem (s:=s) (i:=3) (by decide))).2,l9 ⟨rfl,(C F).2.2.2 _ (P5.at_mem (s:=s) (i:=3) (by decide))⟩]; rfl)))) ?_
 refine d9 4 ?_
 refine ab5 (fun η=>((Gh.nil).and ((Gh.nil).and ((Gh.nil).and ((Gh.nil).and ((aw0 r (s.thr) (s.thrE)).and ((j6 z4 (s.p4)).and ((A9 y4 (s.p4)).and ((j6 z3 (s.p3)).and ((A9 y3 (s.p3)).and ((j6 z2 (s.p2)).and ((A9 y2 (s.p2)).and ((j6 z1 (s.p1)).and ((A9 y1 (s.p1)).and ((j6 z0 (s.p0)).and ((A9 y0 (s.p0)).and ((J9 rv ((if F2 k Q = 0 then (k.mat.apply Q).normal else ⟨0,0,0⟩)) ((F2 k Q))).and ((J9 ru ((if F2 k P = 0 then (k.mat.apply P).normal else ⟨0,0,0⟩)) ((F2 k P))).and ((H0 vk (k)).and ((j6 (η_2 5) (Q)).and ((A9 (η_2 4) (Q)).and ((j6 (η_2 2) (P)).and ((A9 (η_2 1) (P)).and ((a66 c0 (k)).and (Gh.nil))))))))))))))))))))))))) (by kernel_rfl) (fun η=>(by kernel_rfl)) ?_
 intro η_6
 refine s7 ?_
 refine q6 9 ?_
 refine d9 4 ?_
 refine h_K (pr (.bb true) (.lit .i64 0)) (fun η=>(by kernel_rfl)) (U1 rfl) rfl (fun β η S w hS hs hw hG hd=>(kx (gK (aa8 (k:=s.con.normal) (ht.to hw) hS (ET ▸ hG.2.2.2.2.1.2) hG.2.2.2.2.2.1 (C F).2.1 (T _ (P5.at_mem (s:=s) (i:=4) (by decide))).1 (by decide)) (by rw [show cpE s.con.normal s.p4 = 0 from a18 (C F).2.2.1 (T _ (P5.at_mem (s:=s) (i:=4) (by decide))).2,l9 ⟨rfl,(C F).2.2.2 _ (P5.at_mem (s:=s) (i:=4) (by decide))⟩]; rfl)))) ?_
 refine d9 4 ?_
 refine ab5 (fun η=>((Gh.nil).and ((Gh.nil).and ((Gh.nil).and ((Gh.nil).and ((Gh.nil).and ((aw0 r (s.thr) (s.thrE)).and ((j6 z4 (s.p4)).and ((A9 y4 (s.p4)).and ((j6 z3 (s.p3)).and ((A9 y3 (s.p3)).and ((j6 z2 (s.p2)).and ((A9 y2 (s.p2)).and ((j6 z1 (s.p1)).and ((A9 y1 (s.p1)).and ((j6 z0 (s.p0)).and ((A9 y0 (s.p0)).and ((J9 rv ((if F2 k Q = 0 then (k.mat.apply Q).normal else ⟨0,0,0⟩)) ((F2 k Q))).and ((J9 ru ((if F2 k P = 0 then (k.mat.apply P).normal else ⟨0,0,0⟩)) ((F2 k P))).and ((H0 vk (k)).and ((j6 (η_2 5) (Q)).and ((A9 (η_2 4) (Q)).and ((j6 (η_2 2) (P)).and ((A9 (η_2 1) (P)).and ((a66 c0 (k)).and (Gh.nil)))))))))))))))))))))))))) (by kernel_rfl) (fun η=>(by kernel_rfl)) ?_
 intro η_7
 refine s7 ?_
 refine z7 (.one (.bb true)) rfl (fun β S w hS hs hw hG=>(kx (b73 (ht.to hw)))) ?_
 exact p9 (.bool true) rfl (fun S w hs hw hG=>⟨rfl,hw⟩)
theorem b39 {w : World} {ab five : Nat → Nat → Int} {f : Nat → Int} (ht : Tab w) :
  Gives prog 4 [.agg #[.int .i64 (ab 0 0),.int .i64 (ab 0 1),.int .i64 (ab 0 2),.int .i64 (ab 0 3),.int .i64 (ab 0 4),.int .i64 (ab 0 5),.int .i64 (ab 1 0),.int .i64 (ab 1 1),.int .i64 (ab 1 2),.int .i64 (ab 1 3),.int .i64 (ab 1 4),.int .i64 (ab 1 5)],.agg #[.int .i64 (f 0),.int .i64 (f 1),.int .i64 (f 2),.int .i64 (f 3),.int .i64 (f 4),.int .i64 (f 5)],.agg #[.int .i64 (five 0 0),.int .i64 (five 0 1),.int .i64 (five 0 2),.int .i64 (five 0 3),.int .i64 (five 0 4),.int .i64 (five 0 5),.int .i64 (five 1 0),.int .i64 (five 1 1),.int .i64 (five 1 2),.int .i64 (five 1 3),.int .i64 (five 1 4),.int .i64 (five 1 5),.int .i64 (five 2 0),.int .i64 (five 2 1),.int .i64 (five 2 2),.int .i64 (five 2 3),.int .i64 (five 2 4),.int .i64 (five 2 5),.int .i64 (five 3 0),.int .i64 (five 3 1),.int .i64 (five 3 2),.int .i64 (five 3 3),.int .i64 (five 3 4),.int .i64 (five 3 5),.int .i64 (five 4 0),.int .i64 (five 4 1),.int .i64 (five 4 2),.int .i64 (five 4 3),.int .i64 (five 4 4),.int .i64 (five 4 5)]] w fun v' w'=>v' = .bool true ∧ Ext w w':=
 have h:=dd0 (s:=⟨M8 (five 0),M8 (five 1),M8 (five 2),M8 (five 3),M8 (five 4)⟩) (g:=five) rfl
 b04 ht rfl rfl rfl rfl rfl rfl rfl rfl di9 h.1 h.2
end Go.Proofs.YtmkhgjccoolfjaaGreatDoor
end
section
namespace Go.Proofs.YtmkhgjccoolfjaaGreatDoor
open Go Go.RowKit Go.ChangeShapes Go.WideShapes Go.Proofs.Tryz
theorem cn5 {H : Type} {enc : TypeId × Value → H} {P : Program} {w : World} {base n : Nat} {spare : Nat → Bool} {held : Bool} {e f : TypeId} {fuel : Nat} {cs : List Value} {x : DataW H × List MemPlace}
  (he : P.underlying e = some (.array n f)) (hf : P.underlying f = some (.int .i64)) (hcf : P.cellsOf f = 1) (hce : P.cellsOf e = n) (h : DataW.trod enc P w base spare held fuel e cs = some x) : ∃ a : Nat → Int,cs = (List.range n).map (fun i=>Value.int .i64 (a i)) ∧ ∀ i,i < n → -9223372036854775808 ≤ a i ∧ a i ≤ 9223372036854775807:=by
 cases fuel with
 | zero=>simp [DataW.trod] at h
 | succ fuel=>
  rw [DataW.trod_step] at h
  unfold DataW.trodStep at h
  rw [he] at h
  simp only at h
  split at h
  ·rename_i hl
   rw [hce] at hl
   simp only [Option.map_eq_some_iff] at h
   obtain ⟨xs,hx,rfl⟩:=h
   have hel : ∀ i,i < n → ∃ z : Int,(cs.drop i).take 1 = [.int .i64 z] ∧ -9223372036854775808 ≤ z ∧ z ≤ 9223372036854775807:=by
    intro i hi
    have h1:=mapM_some_get hx i i (by rw [List.getElem?_range hi])
    have hxl:=mapM_some_length hx
    simp at hxl
    rw [List.getElem?_eq_getElem (by omega)] at h1
    rw [hcf,Nat.mul_one] at h1
    obtain ⟨z,h2,_,h3⟩:=DataW.trod_int hf h1
    refine ⟨z,h2,?_⟩
    simp only [Lit.wf,IntKind.min,IntKind.max,IntKind.signed,IntKind.bits,Bool.and_eq_true,decide_eq_true_eq] at h3
    refine ⟨?_,?_⟩ <;> · have h4:=h3; simp at h4; omega
   have hall : ∀ i : Nat,∃ z : Int,i < n → (cs.drop i).take 1 = [.int .i64 z] ∧ -9223372036854775808 ≤ z ∧ z ≤ 9223372036854775807:=by
    intro i
    by_cases hi : i < n
    ·obtain ⟨z,hz⟩:=hel i hi
     exact ⟨z,fun _=>hz⟩
    exact ⟨0,fun h=>absurd h hi⟩
   refine ⟨fun i=>(hall i).choose,?_,fun i hi=>((hall i).choose_spec hi).2⟩
   refine List.ext_getElem? fun i=>?_
   by_cases hi : i < n
   ·have h1:=((hall i).choose_spec hi).1
    have h2 : ((cs.drop i).take 1)[0]? = cs[i]?:=by simp
    rw [List.getElem?_map,List.getElem?_range hi]
    exact h2.symm.trans (congrArg (fun l : List Value=>l[0]?) h1)
   rw [List.getElem?_eq_none (by omega),List.getElem?_eq_none (by simp; omega)]
  cases h
theorem a09 {P : Program} {w : World} {r : Reach} {base n : Nat} {t e : TypeId} {v : Value} (ht : P.underlying t = some (.array n e)) (h : Value.okWide P w r base t v) : ∃ cs,v = .agg cs:=by
 unfold Value.okWide at h
 rw [ht] at h
 obtain ⟨cs,h1,_⟩:=h
 exact ⟨cs,h1⟩
def dx9 (n : Nat) (a : Nat → Int) : Value:=.agg ((List.range n).map fun i=>Value.int .i64 (a i)).toArray
theorem cx2 {H : Type} {enc : TypeId × Value → H} {P : Program} {w W : World} {r : Reach} {base b2 n : Nat} {spare : Nat → Bool} {held : Bool} {e f : TypeId} {v : Value} {d : DataW H} {p : List MemPlace}
  (he : P.underlying e = some (.array n f)) (hf : P.underlying f = some (.int .i64)) (hcf : P.cellsOf f = 1) (hce : P.cellsOf e = n) (hv : Value.okWide P W r b2 e v) (h : DataW.Trod enc P w base spare held e v d p) : ∃ a : Nat → Int,v = dx9 n a ∧ ∀ i,i < n → -9223372036854775808 ≤ a i ∧ a i ≤ 9223372036854775807:=by
 obtain ⟨cs,rfl⟩:=a09 he hv
 obtain ⟨fuel,h⟩:=h
 obtain ⟨a,h1,h2⟩:=cn5 he hf hcf hce h
 refine ⟨a,?_,h2⟩
 unfold dx9
 rw [← h1]
 simp [Value.cells]
theorem cs7 {α : Type} {n : Nat} {cs : List α} : ∀ k,k * n ≤ cs.length → (List.range k).flatMap (fun i=>(cs.drop (i * n)).take n) = cs.take (k * n):=by
 intro k
 induction k with
 | zero=>intro _; simp
 | succ k ih=>
  intro h
  rw [Nat.add_mul,Nat.one_mul] at h ⊢
  rw [List.range_succ,List.flatMap_append,ih (by omega),List.take_add]
  simp
def dc0 (m n : Nat) (l : Nat → Nat → Int) : List Value:=(List.range m).flatMap fun i=>(List.range n).map fun j=>Value.int .i64 (l i j)
def cm4 (m n : Nat) (l : Nat → Nat → Int) : Value:=.agg (dc0 m n l).toArray
theorem do2 {H : Type} {enc : TypeId × Value → H} {P : Program} {w : World} {base m n : Nat} {spare : Nat → Bool} {held : Bool} {g e f : TypeId} {fuel : Nat} {cs : List Value} {x : DataW H × List MemPlace}
  (hg : P.underlying g = some (.array m e)) (he : P.underlying e = some (.array n f)) (hf : P.underlying f = some (.int .i64)) (hcf : P.cellsOf f = 1) (hce : P.cellsOf e = n) (hcg : P.cellsOf g = m * n) (h : DataW.trod enc P w base spare held fuel g cs = some x) :
  ∃ l : Nat → Nat → Int,cs = dc0 m n l ∧ ∀ i,i < m → ∀ j,j < n → -9223372036854775808 ≤ l i j ∧ l i j ≤ 9223372036854775807:=by
 cases fuel with
 | zero=>simp [DataW.trod] at h
 | succ fuel=>
  rw [DataW.trod_step] at h
  unfold DataW.trodStep at h
  rw [hg] at h
  simp only at h
  split at h
  ·rename_i hl
   rw [hcg] at hl
   simp only [Option.map_eq_some_iff] at h
   obtain ⟨xs,hx,rfl⟩:=h
   have hel : ∀ i,i < m → ∃ a : Nat → Int,(cs.drop (i * n)).take n = (List.range n).map (fun j=>Value.int .i64 (a j)) ∧ ∀ j,j < n → -9223372036854775808 ≤ a j ∧ a j ≤ 9223372036854775807:=by
    intro i hi
    have h1:=mapM_some_get hx i i (by rw [List.getElem?_range hi])
    have hxl:=mapM_some_length hx
    simp at hxl
    rw [List.getElem?_eq_getElem (by omega)] at h1
    rw [hce] at h1
    exact cn5 he hf hcf hce h1
   have hall : ∀ i : Nat,∃ a : Nat → Int,i < m → (cs.drop (i * n)).take n = (List.range n).map (fun j=>Value.int .i64 (a j)) ∧ ∀ j,j < n → -9223372036854775808 ≤ a j ∧ a j ≤ 9223372036854775807:=by
    intro i
    by_cases hi : i < m
    ·obtain ⟨a,ha⟩:=hel i hi
     exact ⟨a,fun _=>ha⟩
    exact ⟨fun _=>0,fun h=>absurd h hi⟩
   refine ⟨fun i=>(hall i).choose,?_,fun i hi=>((hall i).choose_spec hi).2⟩
   have e1:=cs7 (n:=n) (cs:=cs) m (by omega)
   rw [List.take_of_length_le (by omega)] at e1
   refine e1.symm.trans ?_
   unfold dc0
   rw [List.flatMap_def,List.flatMap_def]
   congr 1
   exact List.map_congr_left fun i hi=>((hall i).choose_spec (List.mem_range.1 hi)).1
  cases h
theorem bo5 {H : Type} {enc : TypeId × Value → H} {P : Program} {w W : World} {r : Reach} {base b2 m n : Nat} {spare : Nat → Bool} {held : Bool} {g e f : TypeId} {v : Value} {d : DataW H} {p : List MemPlace}
  (hg : P.underlying g = some (.array m e)) (he : P.underlying e = some (.array n f)) (hf : P.underlying f = some (.int .i64)) (hcf : P.cellsOf f = 1) (hce : P.cellsOf e = n) (hcg : P.cellsOf g = m * n) (hv : Value.okWide P W r b2 g v) (h : DataW.Trod enc P w base spare held g v d p) :
  ∃ l : Nat → Nat → Int,v = cm4 m n l ∧ ∀ i,i < m → ∀ j,j < n → -9223372036854775808 ≤ l i j ∧ l i j ≤ 9223372036854775807:=by
 obtain ⟨cs,rfl⟩:=a09 hg hv
 obtain ⟨fuel,h⟩:=h
 obtain ⟨l,h1,h2⟩:=do2 hg he hf hcf hce hcg h
 refine ⟨l,?_,h2⟩
 unfold cm4
 rw [← h1]
 simp [Value.cells]
end Go.Proofs.YtmkhgjccoolfjaaGreatDoor
end
section
namespace Go.Proofs.YtmkhgjccoolfjaaGreatDoor
open Go Go.ChangeShapes Go.WideShapes Go.ChangeAt Go.WideMaps Go.WideElems Go.RowKit Go.Proofs.Tryz
theorem own : ownKnob prog.godebug = none:=by kernel_rfl
theorem fd2 : prog.globalNamed "internal/strconv.uint64pow10" = some 3 := by kernel_rfl
theorem fd5 : (prog.globals[3]?).map (·.type) = some 295:=by kernel_rfl
theorem d94 : prog.cellsOf 295 = 20:=by kernel_rfl
theorem d73 : prog.cellsOf 197 = 1:=by kernel_rfl
theorem fa0 : (Rows.laid_internal_strconv_uint64pow10 : DataW Unit) = Lib.tabData .u64 Lib.pow10Tab:=by rfl
theorem dw9 {W : World} (h : laidMetH prog Rows.viewPolesRow.laid W) : Tab W:=by
 rw [MakeChecks.laidMetH_plain _ _ _ (by kernel_rfl)] at h
 obtain ⟨ps,⟨g0,t0,cs0,f0,p0,q0,hg0,ht0,hv0,hd0,⟨g1,t1,cs1,f1,p1,q1,hg1,ht1,hv1,hd1,⟨g2,t2,cs2,f2,p2,q2,hg2,ht2,hv2,hd2,_⟩,_⟩,_⟩,_⟩:=h
 obtain rfl:=Option.some.inj (fd2.symm.trans hg2)
 obtain rfl:=Option.some.inj (fd5.symm.trans ht2)
 rw [fa0] at hd2
 unfold Tab Lib.TabIs
 rw [hv2,← Lib.cells_of_tab underlying295 underlying197 d73 d94 hd2]
theorem dn5 (os : Os) (args : Array Value) : laidMetH prog Rows.viewPolesRow.laid ((World.laidAll prog os Rows.viewPolesRow.laid).forCall (fun _ _=>0) ⟨#[],args,[]⟩).memory:=by
 rw [MakeChecks.laidMetH_plain _ _ _ (by kernel_rfl)]
 exact laidMet_laidAll _ (by kernel_rfl) (by kernel_rfl)
theorem bu1 : laidOutB prog = true:=by kernel_rfl
theorem cb3 : prog.cellsOf 3 = 1:=by kernel_rfl
theorem bd4 : prog.cellsOf 77 = 2 * 6:=by kernel_rfl
theorem aq1 : prog.cellsOf 76 = 6:=by kernel_rfl
theorem dx2 : prog.cellsOf 23 = 6:=by kernel_rfl
theorem bd6 : prog.cellsOf 78 = 5 * 6:=by kernel_rfl
theorem bs1 (os : Os) (started : os.Started) (H : Type) (enc : TypeId × Value → H) :
  ReturnsInHanded {} Tryz.checked os 4 .any (fun w args=>(Rows.viewPolesSpec.pre enc prog f4 [] false w args ∧ laidMetH prog Rows.viewPolesRow.laid w) ∧ sizedMet enc prog f4 (OpenSpec.ofChange Rows.viewPolesSpec) false w args)
   (Rows.viewPolesSpec.post enc prog f4 false true false false):=by
 refine returnsInHanded_of_change_and (C:=Tryz.checked) (X:=fun w _=>laidMetH prog Rows.viewPolesRow.laid w) (fun _ _ _ hh h=>h.of_heap hh) own started (by kernel_rfl) func4
  (ChangeSpec.witness_shaped (enc:=enc) (C:=Tryz.checked) (os:=os) (X:=fun w _=>laidMetH prog Rows.viewPolesRow.laid w) false (World.laidAll prog os Rows.viewPolesRow.laid) #[.agg #[.int .i64 0,.int .i64 0,.int .i64 0,.int .i64 0,.int .i64 0,.int .i64 0,.int .i64 0,.int .i64 0,.int .i64 0,.int .i64 0,.int .i64 0,.int .i64 0],.agg #[.int .i64 0,.int .i64 0,.int .i64 0,.int .i64 0,.int .i64 0,.int .i64 0],.agg #[.int .i64 0,.int .i64 0,.int .i64 0,.int .i64 0,.int .i64 0,.int .i64 0,.int .i64 0,.int .i64 0,.int .i64 0,.int .i64 0,.int .i64 0,.int .i64 0,.int .i64 0,.int .i64 0,.int .i64 0,.int .i64 0,.int .i64 0,.int .i64 0,.int .i64 0,.int .i64 0,.int .i64 0,.int .i64 0,.int .i64 0,.int .i64 0,.int .i64 0,.int .i64 0,.int .i64 0,.int .i64 0,.int .i64 0,.int .i64 0]] 8 (World.laidAll_os _ _ _) (World.shaped_of_ZipB (by kernel_rfl) (by kernel_rfl)) (by kernel_rfl) (by kernel_rfl) (by kernel_rfl) (dn5 os _)) ?_
 intro W base args ds gs before hval0 hW _ _ hL _
 have ad6 : ∀ (j : Nat) t v,f4.params[j]? = some t → args[j]? = some v → Value.okWide prog W .any base t v:=hval0
 have hW':=hW
 obtain ⟨p,q,hA0,hV,rfl,hfz,hnd⟩:=hW
 have hA : DataW.TrodAll enc prog W 0 (fun _=>true) true f4.params.toList args.toList ds p:=hA0
 rw [params4] at hA ad6
 obtain ⟨v0,v1,v2,d0,d1,d2,p0,p1,p2,rfl,rfl,rfl,h0,h1,h2⟩:=trodAll_three hA
 obtain ⟨rfl,rfl⟩:=trodVars_none hV
 have h0k:=h0
 have h1k:=h1
 have h2k:=h2
 obtain ⟨a,rfl,ba⟩:=bo5 underlying77 underlying76 underlying3 cb3 aq1 bd4 (ad6 0 77 v0 rfl rfl) h0
 obtain ⟨b,rfl,bb⟩:=cx2 underlying23 underlying3 cb3 dx2 (ad6 1 23 v1 rfl rfl) h1
 obtain ⟨c,rfl,bc⟩:=bo5 underlying78 underlying76 underlying3 cb3 aq1 bd6 (ad6 2 78 v2 rfl rfl) h2
 clear hA0 hval0
 have hlt : ∀ x ∈ p0 ++ p1 ++ p2,x.block < W.heap.size:=fun x hx=>hW'.lt x (List.mem_append_left _ hx)
 have hargs0 : ∀ (W' : World),Below W.heap.size W W' → DataW.Trod enc prog W' 0 (fun b=>decide (b < W.heap.size)) true 77 (cm4 2 6 a) d0 p0:=
  fun W' hn=>Below.trod bu1 (by kernel_rfl) (of_decide_eq_true (by kernel_rfl)) h0k hn fun x hx=>hlt x (by simp [hx])
 have hargs1 : ∀ (W' : World),Below W.heap.size W W' → DataW.Trod enc prog W' 0 (fun b=>decide (b < W.heap.size)) true 23 (dx9 6 b) d1 p1:=
  fun W' hn=>Below.trod bu1 (by kernel_rfl) (of_decide_eq_true (by kernel_rfl)) h1k hn fun x hx=>hlt x (by simp [hx])
 have hargs2 : ∀ (W' : World),Below W.heap.size W W' → DataW.Trod enc prog W' 0 (fun b=>decide (b < W.heap.size)) true 78 (cm4 5 6 c) d2 p2:=
  fun W' hn=>Below.trod bu1 (by kernel_rfl) (of_decide_eq_true (by kernel_rfl)) h2k hn fun x hx=>hlt x (by simp [hx])
 refine Calls.mono (b39 (ab:=a) (f:=b) (five:=c) (dw9 hL)) fun e W' ⟨v,he,hv,hw⟩=>?_
 subst he hv
 refine ⟨_,rfl,_,_,_,[],p0 ++ p1 ++ p2,[],hW',?_,?_,rfl,hw.below.frame _,fun h=>by cases h⟩
 ·exact trodAll_mk1 (shut_bool underlying4 _)
 rw [List.append_assoc]; exact trodAll_mk3 (hargs0 W' hw.below) (hargs1 W' hw.below) (hargs2 W' hw.below)
theorem cy5 : Rows.ViewPolesSaid:=
 OpenClaim.holds_of_wide 4 f4 rfl rfl rfl rfl rfl rfl rfl ⟨rfl,rfl,rfl,rfl,rfl⟩ rfl rfl rfl rfl rfl (by kernel_rfl) func4 (by kernel_rfl)
  (of_decide_eq_true (by kernel_rfl)) (by unfold Func.isWrapper; first | (rw [if_pos (by decide +kernel)]; kernel_rfl) | (rw [if_neg (by decide +kernel)]; exact ⟨rfl,rfl⟩))
  (fun os started H enc _=>bs1 os started H enc)
theorem poles_holds : Rows.ViewPolesCardSaid:=
 Claim7.holds_tied_plain_at .later [] [.data,.data,.data,.data,.sentinel,.sentinel,.pinned] true Rows.viewPolesCard.stood.harness true
  cy5 (fun _ h=>by cases h) (by kernel_rfl) (fun _ h=>by cases h) viewPoles_row_tie rfl ⟨rfl,rfl⟩ (by kernel_rfl) rfl
  (fun f fn hf hfn=>by
   obtain rfl : f = 4 := Option.some.inj ((show prog.funcNamed "rabbet/rabbetlaw06.ViewPoles" = some 4 by kernel_rfl).symm.trans hf) |>.symm
   obtain rfl : fn = f4:=(Option.some.inj (func4.symm.trans hfn)).symm
   exact ⟨by kernel_rfl,fun j t ht=>by
    rw [params4] at ht
    rcases j with _ | _ | _ | j
    ·obtain rfl : t = 77:=by simpa using ht.symm
     exact (show prog.wantsStandIn 77 = false by kernel_rfl)
    ·obtain rfl : t = 23:=by simpa using ht.symm
     exact (show prog.wantsStandIn 23 = false by kernel_rfl)
    ·obtain rfl : t = 78:=by simpa using ht.symm
     exact (show prog.wantsStandIn 78 = false by kernel_rfl)
    simp at ht⟩)
  (by kernel_rfl)
end Go.Proofs.YtmkhgjccoolfjaaGreatDoor
end

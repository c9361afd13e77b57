/- The statement ViewSeconds, proved: for every eight, six and nine numbers the law returns true; the listed tables of the library hold what the program's text lays (the given tie). -/
import Derived.Test.YtmkhgjccoolfjaaGreatDoorSeconds6
import Derived.Test.YtmkhgjccoolfjaaGreatDoorSeconds5
import Derived.Deep.Slices
import Derived.Carry
import Derived.Test.YtmkhgjccoolfjaaGreatDoorSeconds2
import Derived.Test.YtmkhgjccoolfjaaGreatDoorCards
import Derived.Test.YtmkhgjccoolfjaaGreatDoorTie
import Derived.ProofKit
import Derived.LaidMore
import Derived.OpenShut
import Derived.Stop.Joined
import Derived.SevenTiedAt
import Derived.Lay
set_option linter.unusedSimpArgs false
set_option linter.unusedVariables false
set_option maxRecDepth 100000
set_option maxHeartbeats 8000000
section
namespace Go.Proofs.YtmkhgjccoolfjaaGreatDoor
open Go Go.RowKit Go.Proofs.Tryz
variable {S : Nat → Prop} {w : World} {vp vq u v vl a1 a2 a3 b1 b2 b3 c1 c2 c3 x vr vs : Value} {p q l P Q0 Q L : T3} {m M : M3} {n B C i : Nat} {z a b : Int} {f : Nat → Int} {t : Rat}
theorem d44 {c : Cx} {st : St} {G : Gh} {all : List Oper} {K : List HRec → Prop} {acc : List HRec} {ops : List Oper} {f : FuncId} [ci : CallI c.P f] (pat : Value → SV) (Δ : Value → Gh) (hf : ∀ η,ac8 all st acc ops f η = true) (hok : ∀ a S w,(Δ a).p S w → (pat a).Ok 0 ∧ (pat a).den (fun _=>0) = a)
  (h : ∀ β η S w,Up S w → (∀ k,S k → c.S0 k) → Keeps c.K c.w0 w → G.p S w → depsH acc (opH ops).after.toList η S w → ∃ args,(y5 (bp8 st acc ops η)).map (SV.den β) = args ∧ GivesE c.P f args w (fun v w'=>Ext w w' ∧ (Δ v).p S w') fun ch w'=>∀ ρ,c.Q (.panic ch) ρ w')
  (k : Hd c st G all K (.spec ((opH ops).dst.getD 0) pat Δ :: acc) (ops.drop 1)) : Hd c st G all K acc ops:=
 b64 f pat Δ hf (fun g d S w h1 h2 h3 h4 h5=>let ⟨args,ha,hg⟩:=h g d S w h1 h2 h3 h4 h5; ⟨args,ha,hg.mono (fun v w' hv=>⟨hv.1,(hok v S w' hv.2).2.symm,(hok v S w' hv.2).1,hv.2⟩) fun _ _ h=>h⟩) k
theorem az1 {m k : Nat} (hS : Up S w) (hp : TripV S w vp p) (hq : TripV S w vq q) (hm : tl p m) (hn : tl q n) (hmn : 2 * (m + n + 1) + 1 ≤ 3344) (hk : tl (p.cross q).normal k) (hk2 : k ≤ 3344) :
  GivesE prog 85 [vp,vq] w (fun v w'=>Ext w w' ∧ TripV S w' v (p.cross q).normal ∧ ¬ T3.Same p q) fun ch w'=>ch = R5 61 ∧ Ext w w' ∧ T3.Same p q:=by
 by_cases h : T3.Same p q
 ·exact (bb2 hS hp hq hm hn hmn h).mono (fun _ _ h=>h.elim) fun ch w' g=>⟨g.1,g.2,h⟩
 exact Gives.toE ((Q9 hS hp hq hm hn hmn hk hk2 h).mono fun v w' g=>⟨g.1,g.2,h⟩)
theorem dg2 {s : Six6} {k : Nat} (ht : Tab w) (hS : Up S w) (o : u.oneCell' = true) (h : HexP S w u s) (hk : s.Few k) (hk2 : k ≤ 10) (hb : ∀ t ∈ s.list,M9 t = 0) :
  GivesE prog 84 [u] w (fun v' w'=>Ext w w' ∧ TripV S w' v' s.line ∧ s.Ok) fun ch w'=>ch = R5 61 ∧ Ext w w' ∧ ¬ s.Ok:=by
 have S0:=W8 hk.t0 hk.t1
 have S1:=W8 hk.t1 hk.t2
 have S2:=W8 hk.t2 hk.t3
 have S3:=W8 hk.t3 hk.t4
 have S4:=W8 hk.t4 hk.t5
 have S5:=W8 hk.t5 hk.t0
 have M0:=aw0 S0.2 S3.2
 have M1:=aw0 S1.2 S4.2
 have M2:=aw0 S2.2 S5.2
 refine U9 (E:=env) (S0:=S) (G:=(d20 u s)) (l:=[.one (.val u)]) func84 rfl rfl rfl ⟨o,trivial⟩ rfl h ?_
 refine o7 (d29 u 6 (fun x0=>cn5 x0 s.list) (by kernel_rfl) ⟨c8,hS,l8⟩ (fun _ S w _ _ g=>g.seq) ?_)
 intro v0
 refine n9 (.und) rfl (fun _ S w g _ d s=>(kx (ab8 (ht.to d) g s.1 (fc1 (N3 hk.t0 (by omega)) (N3 hk.t1 (by omega)) (N3 hk.t2 (by omega)) (N3 hk.t3 (by omega)) (N3 hk.t4 (by omega)) (N3 hk.t5 (by omega))) hb))) ?_
 refine i1 ?_
 refine a8 6 ?_
 refine a6 1 ?_
 refine s3 u 6 1 9 (by decide) (by decide) (fun _ _ S w _ _ g _=>g.2.ptr) ?_
 refine p7 1 55 9 j5 s.p1 (fun _ g S w _ _ d s=>d.2.el (i:=1) rfl (j8 s 1 : (o8 ((g 1) = n7 u (Int.toNat 1 * 9))).p S w)) ?_
 refine a6 1 ?_
 refine s3 u 6 0 9 (by decide) (by decide) (fun _ _ S w _ _ g _=>g.2.ptr) ?_
 refine p7 4 55 9 j5 s.p0 (fun _ g S w _ _ d s=>d.2.el (i:=0) rfl (j8 s 4 : (o8 ((g 4) = n7 u (Int.toNat 0 * 9))).p S w)) ?_
 refine H5 5 (gd g0) (fun g d=>(j5 (d 5) s.p0).and ((j5 (d 2) s.p1).and g)) (by kernel_rfl) (fun g _=>(by kernel_rfl)) ?_
 intro η_1
 refine n9 (.one (.tp (T3.Same s.p1 s.p0))) rfl (fun _ S w g _ _ d=>(kx (G6 g d.2.1 d.1 hk.t1 hk.t0 (by omega)))) ?_
 refine z7 (p:=T3.Same s.p1 s.p0) (fun e01=>?_) (fun e01=>?_)
 ·exact af6 (fun _ S w _ _ d s=>have h:=s.2.2; (kx ((I0 (e:=61)).mono (fun _ _ h=>h) fun ch w' hp _=>⟨hp.1,d.trans hp.2,fun g=>g.d01 e01⟩)))
 refine i1 ?_
 refine a8 6 ?_
 refine a6 1 ?_
 refine s3 u 6 2 9 (by decide) (by decide) (fun _ _ S w _ _ g _=>g.2.2.ptr) ?_
 refine p7 1 55 9 j5 s.p2 (fun _ g S w _ _ d s=>d.2.2.el (i:=2) rfl (j8 s 1 : (o8 ((g 1) = n7 u (Int.toNat 2 * 9))).p S w)) ?_
 refine a6 1 ?_
 refine s3 u 6 0 9 (by decide) (by decide) (fun _ _ S w _ _ g _=>g.2.2.ptr) ?_
 refine p7 4 55 9 j5 s.p0 (fun _ g S w _ _ d s=>d.2.2.el (i:=0) rfl (j8 s 4 : (o8 ((g 4) = n7 u (Int.toNat 0 * 9))).p S w)) ?_
 refine H5 5 (gd (gd g0)) (fun g d=>(j5 (d 5) s.p0).and ((j5 (d 2) s.p2).and g)) (by kernel_rfl) (fun g _=>(by kernel_rfl)) ?_
 intro η_2
 refine n9 (.one (.tp (T3.Same s.p2 s.p0))) rfl (fun _ S w g _ _ d=>(kx (G6 g d.2.1 d.1 hk.t2 hk.t0 (by omega)))) ?_
 refine z7 (p:=T3.Same s.p2 s.p0) (fun e02=>?_) (fun e02=>?_)
 ·exact af6 (fun _ S w _ _ d s=>have h:=s.2.2; (kx ((I0 (e:=61)).mono (fun _ _ h=>h) fun ch w' hp _=>⟨hp.1,d.trans hp.2,fun g=>g.d02 e02⟩)))
 refine i1 ?_
 refine a8 6 ?_
 refine a6 1 ?_
 refine s3 u 6 2 9 (by decide) (by decide) (fun _ _ S w _ _ g _=>g.2.2.ptr) ?_
 refine p7 1 55 9 j5 s.p2 (fun _ g S w _ _ d s=>d.2.2.el (i:=2) rfl (j8 s 1 : (o8 ((g 1) = n7 u (Int.toNat 2 * 9))).p S w)) ?_
 refine a6 1 ?_
 refine s3 u 6 1 9 (by decide) (by decide) (fun _ _ S w _ _ g _=>g.2.2.ptr) ?_
 refine p7 4 55 9 j5 s.p1 (fun _ g S w _ _ d s=>d.2.2.el (i:=1) rfl (j8 s 4 : (o8 ((g 4) = n7 u (Int.toNat 1 * 9))).p S w)) ?_
 refine H5 5 (gd (gd g0)) (fun g d=>(j5 (d 5) s.p1).and ((j5 (d 2) s.p2).and g)) (by kernel_rfl) (fun g _=>(by kernel_rfl)) ?_
 intro η_3
 refine n9 (.one (.tp (T3.Same s.p2 s.p1))) rfl (fun _ S w g _ _ d=>(kx (G6 g d.2.1 d.1 hk.t2 hk.t1 (by omega)))) ?_
 refine z7 (p:=T3.Same s.p2 s.p1) (fun e12=>?_) (fun e12=>?_)
 ·exact af6 (fun _ S w _ _ d s=>have h:=s.2.2; (kx ((I0 (e:=61)).mono (fun _ _ h=>h) fun ch w' hp _=>⟨hp.1,d.trans hp.2,fun g=>g.d12 e12⟩)))
 refine i1 ?_
 refine a8 6 ?_
 refine a6 1 ?_
 refine s3 u 6 3 9 (by decide) (by decide) (fun _ _ S w _ _ g _=>g.2.2.ptr) ?_
 refine p7 1 55 9 j5 s.p3 (fun _ g S w _ _ d s=>d.2.2.el (i:=3) rfl (j8 s 1 : (o8 ((g 1) = n7 u (Int.toNat 3 * 9))).p S w)) ?_
 refine a6 1 ?_
 refine s3 u 6 0 9 (by decide) (by decide) (fun _ _ S w _ _ g _=>g.2.2.ptr) ?_
 refine p7 4 55 9 j5 s.p0 (fun _ g S w _ _ d s=>d.2.2.el (i:=0) rfl (j8 s 4 : (o8 ((g 4) = n7 u (Int.toNat 0 * 9))).p S w)) ?_
 refine H5 5 (gd (gd g0)) (fun g d=>(j5 (d 5) s.p0).and ((j5 (d 2) s.p3).and g)) (by kernel_rfl) (fun g _=>(by kernel_rfl)) ?_
 intro η_4
 refine n9 (.one (.tp (T3.Same s.p3 s.p0))) rfl (fun _ S w g _ _ d=>(kx (G6 g d.2.1 d.1 hk.t3 hk.t0 (by omega)))) ?_
 refine z7 (p:=T3.Same s.p3 s.p0) (fun e03=>?_) (fun e03=>?_)
 ·exact af6 (fun _ S w _ _ d s=>have h:=s.2.2; (kx ((I0 (e:=61)).mono (fun _ _ h=>h) fun ch w' hp _=>⟨hp.1,d.trans hp.2,fun g=>g.d03 e03⟩)))
 refine i1 ?_
 refine a8 6 ?_
 refine a6 1 ?_
 refine s3 u 6 3 9 (by decide) (by decide) (fun _ _ S w _ _ g _=>g.2.2.ptr) ?_
 refine p7 1 55 9 j5 s.p3 (fun _ g S w _ _ d s=>d.2.2.el (i:=3) rfl (j8 s 1 : (o8 ((g 1) = n7 u (Int.toNat 3 * 9))).p S w)) ?_
 refine a6 1 ?_
 refine s3 u 6 1 9 (by decide) (by decide) (fun _ _ S w _ _ g _=>g.2.2.ptr) ?_
 refine p7 4 55 9 j5 s.p1 (fun _ g S w _ _ d s=>d.2.2.el (i:=1) rfl (j8 s 4 : (o8 ((g 4) = n7 u (Int.toNat 1 * 9))).p S w)) ?_
 refine H5 5 (gd (gd g0)) (fun g d=>(j5 (d 5) s.p1).and ((j5 (d 2) s.p3).and g)) (by kernel_rfl) (fun g _=>(by kernel_rfl)) ?_
 intro η_5
 refine n9 (.one (.tp (T3.Same s.p3 s.p1))) rfl (fun _ S w g _ _ d=>(kx (G6 g d.2.1 d.1 hk.t3 hk.t1 (by omega)))) ?_
 refine z7 (p:=T3.Same s.p3 s.p1) (fun e13=>?_) (fun e13=>?_)
 ·exact af6 (fun _ S w _ _ d s=>have h:=s.2.2; (kx ((I0 (e:=61)).mono (fun _ _ h=>h) fun ch w' hp _=>⟨hp.1,d.trans hp.2,fun g=>g.d13 e13⟩)))
 refine i1 ?_
 refine a8 6 ?_
 refine a6 1 ?_
 refine s3 u 6 3 9 (by decide) (by decide) (fun _ _ S w _ _ g _=>g.2.2.ptr) ?_
 refine p7 1 55 9 j5 s.p3 (fun _ g S w _ _ d s=>d.2.2.el (i:=3) rfl (j8 s 1 : (o8 ((g 1) = n7 u (Int.toNat 3 * 9))).p S w)) ?_
 refine a6 1 ?_
 refine s3 u 6 2 9 (by decide) (by decide) (fun _ _ S w _ _ g _=>g.2.2.ptr) ?_
 refine p7 4 55 9 j5 s.p2 (fun _ g S w _ _ d s=>d.2.2.el (i:=2) rfl (j8 s 4 : (o8 ((g 4) = n7 u (Int.toNat 2 * 9))).p S w)) ?_
 refine H5 5 (gd (gd g0)) (fun g d=>(j5 (d 5) s.p2).and ((j5 (d 2) s.p3).and g)) (by kernel_rfl) (fun g _=>(by kernel_rfl)) ?_
 intro η_6
 refine n9 (.one (.tp (T3.Same s.p3 s.p2))) rfl (fun _ S w g _ _ d=>(kx (G6 g d.2.1 d.1 hk.t3 hk.t2 (by omega)))) ?_
 refine z7 (p:=T3.Same s.p3 s.p2) (fun e23=>?_) (fun e23=>?_)
 ·exact af6 (fun _ S w _ _ d s=>have h:=s.2.2; (kx ((I0 (e:=61)).mono (fun _ _ h=>h) fun ch w' hp _=>⟨hp.1,d.trans hp.2,fun g=>g.d23 e23⟩)))
 refine i1 ?_
 refine a8 6 ?_
 refine a6 1 ?_
 refine s3 u 6 4 9 (by decide) (by decide) (fun _ _ S w _ _ g _=>g.2.2.ptr) ?_
 refine p7 1 55 9 j5 s.p4 (fun _ g S w _ _ d s=>d.2.2.el (i:=4) rfl (j8 s 1 : (o8 ((g 1) = n7 u (Int.toNat 4 * 9))).p S w)) ?_
 refine a6 1 ?_
 refine s3 u 6 0 9 (by decide) (by decide) (fun _ _ S w _ _ g _=>g.2.2.ptr) ?_
 refine p7 4 55 9 j5 s.p0 (fun _ g S w _ _ d s=>d.2.2.el (i:=0) rfl (j8 s 4 : (o8 ((g 4) = n7 u (Int.toNat 0 * 9))).p S w)) ?_
 refine H5 5 (gd (gd g0)) (fun g d=>(j5 (d 5) s.p0).and ((j5 (d 2) s.p4).and g)) (by kernel_rfl) (fun g _=>(by kernel_rfl)) ?_
 intro η_7
 refine n9 (.one (.tp (T3.Same s.p4 s.p0))) rfl (fun _ S w g _ _ d=>(kx (G6 g d.2.1 d.1 hk.t4 hk.t0 (by omega)))) ?_
 refine z7 (p:=T3.Same s.p4 s.p0) (fun e04=>?_) (fun e04=>?_)
 ·exact af6 (fun _ S w _ _ d s=>have h:=s.2.2; (kx ((I0 (e:=61)).mono (fun _ _ h=>h) fun ch w' hp _=>⟨hp.1,d.trans hp.2,fun g=>g.d04 e04⟩)))
 refine i1 ?_
 refine a8 6 ?_
 refine a6 1 ?_
 refine s3 u 6 4 9 (by decide) (by decide) (fun _ _ S w _ _ g _=>g.2.2.ptr) ?_
 refine p7 1 55 9 j5 s.p4 (fun _ g S w _ _ d s=>d.2.2.el (i:=4) rfl (j8 s 1 : (o8 ((g 1) = n7 u (Int.toNat 4 * 9))).p S w)) ?_
 refine a6 1 ?_
 refine s3 u 6 1 9 (by decide) (by decide) (fun _ _ S w _ _ g _=>g.2.2.ptr) ?_
 refine p7 4 55 9 j5 s.p1 (fun _ g S w _ _ d s=>d.2.2.el (i:=1) rfl (j8 s 4 : (o8 ((g 4) = n7 u (Int.toNat 1 * 9))).p S w)) ?_
 refine H5 5 (gd (gd g0)) (fun g d=>(j5 (d 5) s.p1).and ((j5 (d 2) s.p4).and g)) (by kernel_rfl) (fun g _=>(by kernel_rfl)) ?_
 intro η_8
 refine n9 (.one (.tp (T3.Same s.p4 s.p1))) rfl (fun _ S w g _ _ d=>(kx (G6 g d.2.1 d.1 hk.t4 hk.t1 (by omega)))) ?_
 refine z7 (p:=T3.Same s.p4 s.p1) (fun e14=>?_) (fun e14=>?_)
 ·exact af6 (fun _ S w _ _ d s=>have h:=s.2.2; (kx ((I0 (e:=61)).mono (fun _ _ h=>h) fun ch w' hp _=>⟨hp.1,d.trans hp.2,fun g=>g.d14 e14⟩)))
 refine i1 ?_
 refine a8 6 ?_
 refine a6 1 ?_
 refine s3 u 6 4 9 (by decide) (by decide) (fun _ _ S w _ _ g _=>g.2.2.ptr) ?_
 refine p7 1 55 9 j5 s.p4 (fun _ g S w _ _ d s=>d.2.2.el (i:=4) rfl (j8 s 1 : (o8 ((g 1) = n7 u (Int.toNat 4 * 9))).p S w)) ?_
 refine a6 1 ?_
 refine s3 u 6 2 9 (by decide) (by decide) (fun _ _ S w _ _ g _=>g.2.2.ptr) ?_
 refine p7 4 55 9 j5 s.p2 (fun _ g S w _ _ d s=>d.2.2.el (i:=2) rfl (j8 s 4 : (o8 ((g 4) = n7 u (Int.toNat 2 * 9))).p S w)) ?_
 refine H5 5 (gd (gd g0)) (fun g d=>(j5 (d 5) s.p2).and ((j5 (d 2) s.p4).and g)) (by kernel_rfl) (fun g _=>(by kernel_rfl)) ?_
 intro η_9
 refine n9 (.one (.tp (T3.Same s.p4 s.p2))) rfl (fun _ S w g _ _ d=>(kx (G6 g d.2.1 d.1 hk.t4 hk.t2 (by omega)))) ?_
 refine z7 (p:=T3.Same s.p4 s.p2) (fun e24=>?_) (fun e24=>?_)
 ·exact af6 (fun _ S w _ _ d s=>have h:=s.2.2; (kx ((I0 (e:=61)).mono (fun _ _ h=>h) fun ch w' hp _=>⟨hp.1,d.trans hp.2,fun g=>g.d24 e24⟩)))
 refine i1 ?_
 refine a8 6 ?_
 refine a6 1 ?_
 refine s3 u 6 4 9 (by decide) (by decide) (fun _ _ S w _ _ g _=>g.2.2.ptr) ?_
 refine p7 1 55 9 j5 s.p4 (fun _ g S w _ _ d s=>d.2.2.el (i:=4) rfl (j8 s 1 : (o8 ((g 1) = n7 u (Int.toNat 4 * 9))).p S w)) ?_
 refine a6 1 ?_
 refine s3 u 6 3 9 (by decide) (by decide) (fun _ _ S w _ _ g _=>g.2.2.ptr) ?_
 refine p7 4 55 9 j5 s.p3 (fun _ g S w _ _ d s=>d.2.2.el (i:=3) rfl (j8 s 4 : (o8 ((g 4) = n7 u (Int.toNat 3 * 9))).p S w)) ?_
 refine H5 5 (gd (gd g0)) (fun g d=>(j5 (d 5) s.p3).and ((j5 (d 2) s.p4).and g)) (by kernel_rfl) (fun g _=>(by kernel_rfl)) ?_
 intro η_10
 refine n9 (.one (.tp (T3.Same s.p4 s.p3))) rfl (fun _ S w g _ _ d=>(kx (G6 g d.2.1 d.1 hk.t4 hk.t3 (by omega)))) ?_
 refine z7 (p:=T3.Same s.p4 s.p3) (fun e34=>?_) (fun e34=>?_)
 ·exact af6 (fun _ S w _ _ d s=>have h:=s.2.2; (kx ((I0 (e:=61)).mono (fun _ _ h=>h) fun ch w' hp _=>⟨hp.1,d.trans hp.2,fun g=>g.d34 e34⟩)))
 refine i1 ?_
 refine a8 6 ?_
 refine a6 1 ?_
 refine s3 u 6 5 9 (by decide) (by decide) (fun _ _ S w _ _ g _=>g.2.2.ptr) ?_
 refine p7 1 55 9 j5 s.p5 (fun _ g S w _ _ d s=>d.2.2.el (i:=5) rfl (j8 s 1 : (o8 ((g 1) = n7 u (Int.toNat 5 * 9))).p S w)) ?_
 refine a6 1 ?_
 refine s3 u 6 0 9 (by decide) (by decide) (fun _ _ S w _ _ g _=>g.2.2.ptr) ?_
 refine p7 4 55 9 j5 s.p0 (fun _ g S w _ _ d s=>d.2.2.el (i:=0) rfl (j8 s 4 : (o8 ((g 4) = n7 u (Int.toNat 0 * 9))).p S w)) ?_
 refine H5 5 (gd (gd g0)) (fun g d=>(j5 (d 5) s.p0).and ((j5 (d 2) s.p5).and g)) (by kernel_rfl) (fun g _=>(by kernel_rfl)) ?_
 intro η_11
 refine n9 (.one (.tp (T3.Same s.p5 s.p0))) rfl (fun _ S w g _ _ d=>(kx (G6 g d.2.1 d.1 hk.t5 hk.t0 (by omega)))) ?_
 refine z7 (p:=T3.Same s.p5 s.p0) (fun e05=>?_) (fun e05=>?_)
 ·exact af6 (fun _ S w _ _ d s=>have h:=s.2.2; (kx ((I0 (e:=61)).mono (fun _ _ h=>h) fun ch w' hp _=>⟨hp.1,d.trans hp.2,fun g=>g.d05 e05⟩)))
 refine i1 ?_
 refine a8 6 ?_
 refine a6 1 ?_
 refine s3 u 6 5 9 (by decide) (by decide) (fun _ _ S w _ _ g _=>g.2.2.ptr) ?_
 refine p7 1 55 9 j5 s.p5 (fun _ g S w _ _ d s=>d.2.2.el (i:=5) rfl (j8 s 1 : (o8 ((g 1) = n7 u (Int.toNat 5 * 9))).p S w)) ?_
 refine a6 1 ?_
 refine s3 u 6 1 9 (by decide) (by decide) (fun _ _ S w _ _ g _=>g.2.2.ptr) ?_
 refine p7 4 55 9 j5 s.p1 (fun _ g S w _ _ d s=>d.2.2.el (i:=1) rfl (j8 s 4 : (o8 ((g 4) = n7 u (Int.toNat 1 * 9))).p S w)) ?_
 refine H5 5 (gd (gd g0)) (fun g d=>(j5 (d 5) s.p1).and ((j5 (d 2) s.p5).and g)) (by kernel_rfl) (fun g _=>(by kernel_rfl)) ?_
 intro η_12
 refine n9 (.one (.tp (T3.Same s.p5 s.p1))) rfl (fun _ S w g _ _ d=>(kx (G6 g d.2.1 d.1 hk.t5 hk.t1 (by omega)))) ?_
 refine z7 (p:=T3.Same s.p5 s.p1) (fun e15=>?_) (fun e15=>?_)
 ·exact af6 (fun _ S w _ _ d s=>have h:=s.2.2; (kx ((I0 (e:=61)).mono (fun _ _ h=>h) fun ch w' hp _=>⟨hp.1,d.trans hp.2,fun g=>g.d15 e15⟩)))
 refine i1 ?_
 refine a8 6 ?_
 refine a6 1 ?_
 refine s3 u 6 5 9 (by decide) (by decide) (fun _ _ S w _ _ g _=>g.2.2.ptr) ?_
 refine p7 1 55 9 j5 s.p5 (fun _ g S w _ _ d s=>d.2.2.el (i:=5) rfl (j8 s 1 : (o8 ((g 1) = n7 u (Int.toNat 5 * 9))).p S w)) ?_
 refine a6 1 ?_
 refine s3 u 6 2 9 (by decide) (by decide) (fun _ _ S w _ _ g _=>g.2.2.ptr) ?_
 refine p7 4 55 9 j5 s.p2 (fun _ g S w _ _ d s=>d.2.2.el (i:=2) rfl (j8 s 4 : (o8 ((g 4) = n7 u (Int.toNat 2 * 9))).p S w)) ?_
 refine H5 5 (gd (gd g0)) (fun g d=>(j5 (d 5) s.p2).and ((j5 (d 2) s.p5).and g)) (by kernel_rfl) (fun g _=>(by kernel_rfl)) ?_
 intro η_13
 refine n9 (.one (.tp (T3.Same s.p5 s.p2))) rfl (fun _ S w g _ _ d=>(kx (G6 g d.2.1 d.1 hk.t5 hk.t2 (by omega)))) ?_
 refine z7 (p:=T3.Same s.p5 s.p2) (fun e25=>?_) (fun e25=>?_)
 ·exact af6 (fun _ S w _ _ d s=>have h:=s.2.2; (kx ((I0 (e:=61)).mono (fun _ _ h=>h) fun ch w' hp _=>⟨hp.1,d.trans hp.2,fun g=>g.d25 e25⟩)))
 refine i1 ?_
 refine a8 6 ?_
 refine a6 1 ?_
 refine s3 u 6 5 9 (by decide) (by decide) (fun _ _ S w _ _ g _=>g.2.2.ptr) ?_
 refine p7 1 55 9 j5 s.p5 (fun _ g S w _ _ d s=>d.2.2.el (i:=5) rfl (j8 s 1 : (o8 ((g 1) = n7 u (Int.toNat 5 * 9))).p S w)) ?_
 refine a6 1 ?_
 refine s3 u 6 3 9 (by decide) (by decide) (fun _ _ S w _ _ g _=>g.2.2.ptr) ?_
 refine p7 4 55 9 j5 s.p3 (fun _ g S w _ _ d s=>d.2.2.el (i:=3) rfl (j8 s 4 : (o8 ((g 4) = n7 u (Int.toNat 3 * 9))).p S w)) ?_
 refine H5 5 (gd (gd g0)) (fun g d=>(j5 (d 5) s.p3).and ((j5 (d 2) s.p5).and g)) (by kernel_rfl) (fun g _=>(by kernel_rfl)) ?_
 intro η_14
 refine n9 (.one (.tp (T3.Same s.p5 s.p3))) rfl (fun _ S w g _ _ d=>(kx (G6 g d.2.1 d.1 hk.t5 hk.t3 (by omega)))) ?_
 refine z7 (p:=T3.Same s.p5 s.p3) (fun e35=>?_) (fun e35=>?_)
 ·exact af6 (fun _ S w _ _ d s=>have h:=s.2.2; (kx ((I0 (e:=61)).mono (fun _ _ h=>h) fun ch w' hp _=>⟨hp.1,d.trans hp.2,fun g=>g.d35 e35⟩)))
 refine i1 ?_
 refine a8 6 ?_
 refine a6 1 ?_
 refine s3 u 6 5 9 (by decide) (by decide) (fun _ _ S w _ _ g _=>g.2.2.ptr) ?_
 refine p7 1 55 9 j5 s.p5 (fun _ g S w _ _ d s=>d.2.2.el (i:=5) rfl (j8 s 1 : (o8 ((g 1) = n7 u (Int.toNat 5 * 9))).p S w)) ?_
 refine a6 1 ?_
 refine s3 u 6 4 9 (by decide) (by decide) (fun _ _ S w _ _ g _=>g.2.2.ptr) ?_
 refine p7 4 55 9 j5 s.p4 (fun _ g S w _ _ d s=>d.2.2.el (i:=4) rfl (j8 s 4 : (o8 ((g 4) = n7 u (Int.toNat 4 * 9))).p S w)) ?_
 refine H5 5 (gd (gd g0)) (fun g d=>(j5 (d 5) s.p4).and ((j5 (d 2) s.p5).and g)) (by kernel_rfl) (fun g _=>(by kernel_rfl)) ?_
 intro η_15
 refine n9 (.one (.tp (T3.Same s.p5 s.p4))) rfl (fun _ S w g _ _ d=>(kx (G6 g d.2.1 d.1 hk.t5 hk.t4 (by omega)))) ?_
 refine z7 (p:=T3.Same s.p5 s.p4) (fun e45=>?_) (fun e45=>?_)
 ·exact af6 (fun _ S w _ _ d s=>have h:=s.2.2; (kx ((I0 (e:=61)).mono (fun _ _ h=>h) fun ch w' hp _=>⟨hp.1,d.trans hp.2,fun g=>g.d45 e45⟩)))
 have DD : s.Dist:=⟨e01,e02,e03,e04,e05,e12,e13,e14,e15,e23,e24,e25,e34,e35,e45⟩
 have D0 : ¬ T3.Same s.p0 s.p1:=fun e=>e01 (T3.same_symm e)
 have K0 : T3.Like s.l0.normal s.l0:=T3.like_normal D0
 have D1 : ¬ T3.Same s.p1 s.p2:=fun e=>e12 (T3.same_symm e)
 have K1 : T3.Like s.l1.normal s.l1:=T3.like_normal D1
 have D2 : ¬ T3.Same s.p2 s.p3:=fun e=>e23 (T3.same_symm e)
 have K2 : T3.Like s.l2.normal s.l2:=T3.like_normal D2
 have D3 : ¬ T3.Same s.p3 s.p4:=fun e=>e34 (T3.same_symm e)
 have K3 : T3.Like s.l3.normal s.l3:=T3.like_normal D3
 have D4 : ¬ T3.Same s.p4 s.p5:=fun e=>e45 (T3.same_symm e)
 have K4 : T3.Like s.l4.normal s.l4:=T3.like_normal D4
 have D5 : ¬ T3.Same s.p5 s.p0:=e05
 have K5 : T3.Like s.l5.normal s.l5:=T3.like_normal D5
 refine i1 ?_
 refine a8 20 ?_
 refine a6 2 ?_
 refine s3 u 6 0 9 (by decide) (by decide) (fun _ _ S w _ _ g _=>g.2.2.ptr) ?_
 refine p7 2 55 9 j5 s.p0 (fun _ g S w _ _ d s=>d.2.2.el (i:=0) rfl (j8 s 2 : (o8 ((g 2) = n7 u (Int.toNat 0 * 9))).p S w)) ?_
 refine a6 2 ?_
 refine s3 u 6 1 9 (by decide) (by decide) (fun _ _ S w _ _ g _=>g.2.2.ptr) ?_
 refine p7 6 55 9 j5 s.p1 (fun _ g S w _ _ d s=>d.2.2.el (i:=1) rfl (j8 s 6 : (o8 ((g 6) = n7 u (Int.toNat 1 * 9))).p S w)) ?_
 refine f4 9 j5 s.l0.normal (fun _ g S w d _ _ _ t=>(kx (Q9 d (j8 t 3 : (j5 (g 3) s.p0).p S w) (j8 t 7 : (j5 (g 7) s.p1).p S w) hk.t0 hk.t1 (by omega) S0.1 (by omega) D0))) ?_
 refine a6 2 ?_
 refine s3 u 6 3 9 (by decide) (by decide) (fun _ _ S w _ _ g _=>g.2.2.ptr) ?_
 refine p7 11 55 9 j5 s.p3 (fun _ g S w _ _ d s=>d.2.2.el (i:=3) rfl (j8 s 11 : (o8 ((g 11) = n7 u (Int.toNat 3 * 9))).p S w)) ?_
 refine a6 3 ?_
 refine s3 u 6 4 9 (by decide) (by decide) (fun _ _ S w _ _ g _=>g.2.2.ptr) ?_
 refine p7 16 55 9 j5 s.p4 (fun _ g S w _ _ d s=>d.2.2.el (i:=4) rfl (j8 s 16 : (o8 ((g 16) = n7 u (Int.toNat 4 * 9))).p S w)) ?_
 refine f4 9 j5 s.l3.normal (fun _ g S w d _ _ _ t=>(kx (Q9 d (j8 t 12 : (j5 (g 12) s.p3).p S w) (j8 t 17 : (j5 (g 17) s.p4).p S w) hk.t3 hk.t4 (by omega) S3.1 (by omega) D3))) ?_
 refine d44 (fun x0=>.one (.ag 9 x0)) (fun x0=>((j5 x0 s.n0).and (o8 (¬ T3.Same s.l0.normal s.l3.normal)))) (fun _=>(by kernel_rfl)) (fun _ _ _ h=>⟨h.1.ok,rfl⟩) (fun _ d S w t _ m q a=>have h:=q.2.2; (kx ((az1 t (j8 a 8 : (j5 (d 8) s.l0.normal).p S w) (j8 a 18 : (j5 (d 18) s.l3.normal).p S w) S0.1 S3.1 (by omega) M0.1 (by omega)).mono (fun v w' h=>⟨h.1,h.2.1,h.2.2⟩) fun ch w' hp ρ=>⟨hp.1,m.trans hp.2.1,fun g=>g.o0 ((K0.same K3).1 hp.2.2)⟩))) ?_
 refine H5 1 (gd (gd g0)) (fun g d=>((j5 (d 19) s.n0).and (o8 (¬ T3.Same s.l0.normal s.l3.normal))).and g) (by kernel_rfl) (fun g _=>(by kernel_rfl)) ?_
 intro η_16
 refine o7 (cf4 (p:=¬ T3.Same s.l0.normal s.l3.normal) (fun S w _ g=>g.1.2) ?_)
 intro P0
 have O0 : ¬ T3.Same s.l0 s.l3:=fun e=>P0 ((K0.same K3).2 e)
 have N0 : T3.Like s.n0 s.m0:=(T3.like_normal P0).trans (K0.cross K3)
 refine i1 ?_
 refine a8 20 ?_
 refine a6 2 ?_
 refine s3 u 6 1 9 (by decide) (by decide) (fun _ _ S w _ _ g _=>g.2.ptr) ?_
 refine p7 2 55 9 j5 s.p1 (fun _ g S w _ _ d s=>d.2.el (i:=1) rfl (j8 s 2 : (o8 ((g 2) = n7 u (Int.toNat 1 * 9))).p S w)) ?_
 refine a6 2 ?_
 refine s3 u 6 2 9 (by decide) (by decide) (fun _ _ S w _ _ g _=>g.2.ptr) ?_
 refine p7 6 55 9 j5 s.p2 (fun _ g S w _ _ d s=>d.2.el (i:=2) rfl (j8 s 6 : (o8 ((g 6) = n7 u (Int.toNat 2 * 9))).p S w)) ?_
 refine f4 9 j5 s.l1.normal (fun _ g S w d _ _ _ t=>(kx (Q9 d (j8 t 3 : (j5 (g 3) s.p1).p S w) (j8 t 7 : (j5 (g 7) s.p2).p S w) hk.t1 hk.t2 (by omega) S1.1 (by omega) D1))) ?_
 refine a6 2 ?_
 refine s3 u 6 4 9 (by decide) (by decide) (fun _ _ S w _ _ g _=>g.2.ptr) ?_
 refine p7 11 55 9 j5 s.p4 (fun _ g S w _ _ d s=>d.2.el (i:=4) rfl (j8 s 11 : (o8 ((g 11) = n7 u (Int.toNat 4 * 9))).p S w)) ?_
 refine a6 3 ?_
 refine s3 u 6 5 9 (by decide) (by decide) (fun _ _ S w _ _ g _=>g.2.ptr) ?_
 refine p7 16 55 9 j5 s.p5 (fun _ g S w _ _ d s=>d.2.el (i:=5) rfl (j8 s 16 : (o8 ((g 16) = n7 u (Int.toNat 5 * 9))).p S w)) ?_
 refine f4 9 j5 s.l4.normal (fun _ g S w d _ _ _ t=>(kx (Q9 d (j8 t 12 : (j5 (g 12) s.p4).p S w) (j8 t 17 : (j5 (g 17) s.p5).p S w) hk.t4 hk.t5 (by omega) S4.1 (by omega) D4))) ?_
 refine d44 (fun x0=>.one (.ag 9 x0)) (fun x0=>((j5 x0 s.n1).and (o8 (¬ T3.Same s.l1.normal s.l4.normal)))) (fun _=>(by kernel_rfl)) (fun _ _ _ h=>⟨h.1.ok,rfl⟩) (fun _ d S w t _ m q a=>have h:=q.2; (kx ((az1 t (j8 a 8 : (j5 (d 8) s.l1.normal).p S w) (j8 a 18 : (j5 (d 18) s.l4.normal).p S w) S1.1 S4.1 (by omega) M1.1 (by omega)).mono (fun v w' h=>⟨h.1,h.2.1,h.2.2⟩) fun ch w' hp ρ=>⟨hp.1,m.trans hp.2.1,fun g=>g.o1 ((K1.same K4).1 hp.2.2)⟩))) ?_
 refine b6 1 (fun g d=>((j5 (d 19) s.n1).and (o8 (¬ T3.Same s.l1.normal s.l4.normal))).and g) (fun g _=>(by kernel_rfl)) ?_
 intro η_17
 refine o7 (cf4 (p:=¬ T3.Same s.l1.normal s.l4.normal) (fun S w _ g=>g.1.2) ?_)
 intro P1
 have O1 : ¬ T3.Same s.l1 s.l4:=fun e=>P1 ((K1.same K4).2 e)
 have N1 : T3.Like s.n1 s.m1:=(T3.like_normal P1).trans (K1.cross K4)
 refine i1 ?_
 refine a8 20 ?_
 refine a6 2 ?_
 refine s3 u 6 2 9 (by decide) (by decide) (fun _ _ S w _ _ g _=>g.2.2.ptr) ?_
 refine p7 2 55 9 j5 s.p2 (fun _ g S w _ _ d s=>d.2.2.el (i:=2) rfl (j8 s 2 : (o8 ((g 2) = n7 u (Int.toNat 2 * 9))).p S w)) ?_
 refine a6 2 ?_
 refine s3 u 6 3 9 (by decide) (by decide) (fun _ _ S w _ _ g _=>g.2.2.ptr) ?_
 refine p7 6 55 9 j5 s.p3 (fun _ g S w _ _ d s=>d.2.2.el (i:=3) rfl (j8 s 6 : (o8 ((g 6) = n7 u (Int.toNat 3 * 9))).p S w)) ?_
 refine f4 9 j5 s.l2.normal (fun _ g S w d _ _ _ t=>(kx (Q9 d (j8 t 3 : (j5 (g 3) s.p2).p S w) (j8 t 7 : (j5 (g 7) s.p3).p S w) hk.t2 hk.t3 (by omega) S2.1 (by omega) D2))) ?_
 refine a6 2 ?_
 refine s3 u 6 5 9 (by decide) (by decide) (fun _ _ S w _ _ g _=>g.2.2.ptr) ?_
 refine p7 11 55 9 j5 s.p5 (fun _ g S w _ _ d s=>d.2.2.el (i:=5) rfl (j8 s 11 : (o8 ((g 11) = n7 u (Int.toNat 5 * 9))).p S w)) ?_
 refine a6 3 ?_
 refine s3 u 6 0 9 (by decide) (by decide) (fun _ _ S w _ _ g _=>g.2.2.ptr) ?_
 refine p7 16 55 9 j5 s.p0 (fun _ g S w _ _ d s=>d.2.2.el (i:=0) rfl (j8 s 16 : (o8 ((g 16) = n7 u (Int.toNat 0 * 9))).p S w)) ?_
 refine f4 9 j5 s.l5.normal (fun _ g S w d _ _ _ t=>(kx (Q9 d (j8 t 12 : (j5 (g 12) s.p5).p S w) (j8 t 17 : (j5 (g 17) s.p0).p S w) hk.t5 hk.t0 (by omega) S5.1 (by omega) D5))) ?_
 refine d44 (fun x0=>.one (.ag 9 x0)) (fun x0=>((j5 x0 s.n2).and (o8 (¬ T3.Same s.l2.normal s.l5.normal)))) (fun _=>(by kernel_rfl)) (fun _ _ _ h=>⟨h.1.ok,rfl⟩) (fun _ d S w t _ m q a=>have h:=q.2.2; (kx ((az1 t (j8 a 8 : (j5 (d 8) s.l2.normal).p S w) (j8 a 18 : (j5 (d 18) s.l5.normal).p S w) S2.1 S5.1 (by omega) M2.1 (by omega)).mono (fun v w' h=>⟨h.1,h.2.1,h.2.2⟩) fun ch w' hp ρ=>⟨hp.1,m.trans hp.2.1,fun g=>g.o2 ((K2.same K5).1 hp.2.2)⟩))) ?_
 refine b6 1 (fun g d=>((j5 (d 19) s.n2).and (o8 (¬ T3.Same s.l2.normal s.l5.normal))).and g) (fun g _=>(by kernel_rfl)) ?_
 intro η_18
 refine o7 (cf4 (p:=¬ T3.Same s.l2.normal s.l5.normal) (fun S w _ g=>g.1.2) ?_)
 intro P2
 have O2 : ¬ T3.Same s.l2 s.l5:=fun e=>P2 ((K2.same K5).2 e)
 have N2 : T3.Like s.n2 s.m2:=(T3.like_normal P2).trans (K2.cross K5)
 refine i1 ?_
 refine n9 (.one (.tp (T3.Flat s.n0 s.n1 s.n2))) rfl (fun _ S w g _ _ d=>(kx (bv4 g d.2.2.1.1 d.2.1.1 d.1.1 M0.1 M1.1 M2.1 (by omega)))) ?_
 refine z7 (p:=¬ T3.Flat s.n0 s.n1 s.n2) (fun nf=>?_) (fun nf=>?_)
 ·exact af6 (fun _ S w _ _ d s=>have h:=s.2.2.2; (kx ((I0 (e:=61)).mono (fun _ _ h=>h) fun ch w' hp _=>⟨hp.1,d.trans hp.2,fun g=>nf ((N0.flat N1 N2).2 g.fl)⟩)))
 have fl : T3.Flat s.m0 s.m1 s.m2:=(N0.flat N1 N2).1 (Classical.not_not.1 nf)
 refine n9 (.one (.tp (T3.Same s.n0 s.n1))) rfl (fun _ S w g _ _ d=>(kx (G6 g d.2.2.1.1 d.2.1.1 M0.1 M1.1 (by omega)))) ?_
 refine z7 (p:=T3.Same s.n0 s.n1) (fun hsm=>?_) (fun hsm=>?_)
 ·by_cases n2 : T3.Same s.n0 s.n2
  ·exact af6 (fun _ S w d _ s t=>have h:=t.2.2.2; (kx ((bb2 d t.2.2.1.1 t.1.1 M0.1 M2.1 (by omega) n2).mono (fun _ _ h=>h) fun ch w' hp _=>⟨hp.1,s.trans hp.2,fun g=>g.ns ⟨(N0.same N1).1 hsm,(N0.same N2).1 n2⟩⟩)))
  refine o6 9 j5 ((s.n0.cross s.n2).normal) (fun _ S w g _ _ d=>(kx (Q9 g d.2.2.1.1 d.1.1 M0.1 M2.1 (by omega) (bf7 M0.2 M2.2) (by omega) n2))) ?_
  intro r
  exact c67 r ⟨c8,hS,l8⟩ (by kernel_rfl) rfl (by kernel_rfl) (fun _=>(by kernel_rfl)) (fun S w d s t=>⟨s,by unfold Six6.line; rw [if_pos hsm]; exact t.1.mono fun k _ hk=>d k hk,Six6.ok_iff.2 ⟨DD,O0,O1,O2,fl,fun g=>n2 ((N0.same N2).2 g.2)⟩⟩)
 refine o6 9 j5 ((s.n0.cross s.n1).normal) (fun _ S w g _ _ d=>(kx (Q9 g d.2.2.1.1 d.2.1.1 M0.1 M1.1 (by omega) (bf7 M0.2 M1.2) (by omega) hsm))) ?_
 intro r
 exact c67 r ⟨c8,hS,l8⟩ (by kernel_rfl) rfl (by kernel_rfl) (fun _=>(by kernel_rfl)) (fun S w d s t=>⟨s,by unfold Six6.line; rw [if_neg hsm]; exact t.1.mono fun k _ hk=>d k hk,Six6.ok_iff.2 ⟨DD,O0,O1,O2,fl,fun g=>hsm ((N0.same N1).2 g.1)⟩⟩)
open Classical in
noncomputable def Six6.hexE (s : Six6) : Int:=if s.Ok then 0 else 61
variable {s : Six6}
theorem dp4 (h : (∃ x,v = .tuple #[x,.int .i64 0] ∧ TripV S w x s.line ∧ s.Ok) ∨ (v = .tuple #[.agg aj2.toArray,.int .i64 61] ∧ ¬ s.Ok)) : (W6 v (if s.hexE = 0 then s.line else ⟨0,0,0⟩) s.hexE).p S w:=by
 rcases h with ⟨x,rfl,hx,g⟩ | ⟨rfl,g⟩
 ·have e : s.hexE = 0:=if_pos g
  rw [e]
  exact ⟨rfl,hx⟩
 have e : s.hexE = 61:=if_neg g
 rw [e]
 exact ⟨rfl,bi2⟩
theorem dk8 {k : Nat} (ht : Tab w) (hS : Up S w) (h : HexV S w v s) (hk : s.Few k) (hk2 : k ≤ 10) (hb : ∀ t ∈ s.list,M9 t = 0) :
  Gives prog 26 [v] w fun v' w'=>Ext w w' ∧ (W6 v' (if s.hexE = 0 then s.line else ⟨0,0,0⟩) s.hexE).p S w':=by
 refine n4 (E:=env) (S0:=S) (G:=(fe0 v s)) (l:=[.one (.ag 54 v)]) func26 rfl rfl rfl ⟨h.ok,trivial⟩ rfl h ?_
 refine o7 (N9 0 70 ([.ag 54 v]) (fun u1=>?_))
 refine ah1 (fun x0=>pr (.ag 9 (N6 x0)) (.int .i64 s.hexE)) (fun x0=>W6 x0 (if s.hexE = 0 then s.line else ⟨0,0,0⟩) s.hexE) (fun _ _ _ h=>a19 h) (fun _ S w g _ d m=>have h:=m.2; (kx ((ap6 (F:=84) (cap:=[u1]) (t:=s.line) (E:=61) (Y:=s.Ok) (Z:=¬ s.Ok) g fun S' w' hS' k' _ hs'=>dg2 (ht.to (d.trans k')) hS' (J1 m.1) ((d20 u1 s).keep ((d20 u1 s).mono (c44 m.1 h) hs') (.of k')) hk hk2 hb).mono fun v' w' h=>⟨h.1,dp4 h.2⟩))) ?_
 intro r
 exact j9 (.tuple #[N6 r,.int .i64 s.hexE]) rfl (fun S w g d s=>⟨d,rfl,s.1.2.mono fun k _ hk=>g k hk⟩)
def ay1 (k : C6) (p l : T3) : Prop:=¬ k.mat.det = 0 ∧ k.val p = 0 ∧ p.dot l = 0
theorem ci3 {u0 u1 u2 : Value} {k : C6} {m : Nat} (ht : Tab w) (hS : Up S w) (o0 : u0.oneCell' = true) (o1 : u1.oneCell' = true) (o2 : u2.oneCell' = true) (h0 : (cv8 u0 k).p S w) (h1 : (C0 u1 p).p S w) (h2 : (C0 u2 l).p S w) (hl : cl k n) (hm : tl p m) (hm2 : tl l m) (hn : n ≤ 20) (hmm : m ≤ 20)
  (e1 : as9 k = 0) (e2 : M9 p = 0) (e3 : M9 l = 0) (e : ¬ ay1 k p l) : Pan prog 54 [u0,u1,u2] w (R5 61):=by
 refine U9 (E:=env) (S0:=S) (G:=((cv8 u0 k).and ((C0 u1 p).and (C0 u2 l)))) (l:=[.one (.val u0),.one (.val u1),.one (.val u2)]) func54 rfl rfl rfl ⟨o0,o1,o2,trivial⟩ rfl ⟨h0,h1,h2⟩ ?_
 refine o7 (r8 u0 60 18 true (fun x0=>.one (.ag 18 x0)) (fun x0=>al3 x0 k) (fun _ S w _ _ g=>let ⟨y,e1,e2,e3⟩:=g.1; ⟨S,y,e1,e2,e3⟩) ?_)
 intro x0
 refine n9 (.und) rfl (fun _ S w g _ d s=>(kx (bq5 (ht.to d) g s.1 hl (by omega) e1))) ?_
 refine o7 (r8 u1 55 9 true (fun x0=>.one (.ag 9 x0)) (fun x0=>j5 x0 p) (fun _ S w _ _ g=>let ⟨y,e1,e2,e3⟩:=g.2.2.1; ⟨S,y,e1,e2,e3⟩) ?_)
 intro x1
 refine o7 (r8 u2 55 9 true (fun x0=>.one (.ag 9 x0)) (fun x0=>j5 x0 l) (fun _ S w _ _ g=>let ⟨y,e1,e2,e3⟩:=g.2.2.2.2; ⟨S,y,e1,e2,e3⟩) ?_)
 intro x2
 refine ag7 (.und) rfl (fun _ S w g d _ s t=>(kx (ab8 (ht.to s) (A4 g) (Q5 1 55 [x1,x2] d (by kernel_rfl) (ce3 t.2.1 t.1) (show 2 ≤ maxLen by decide)) (be1 (N3 hm (by omega)) (N3 hm2 (by omega))) (be1 e2 e3)))) ?_
 refine o7 (r8 u0 60 18 true (fun x0=>.one (.ag 18 x0)) (fun x0=>al3 x0 k) (fun _ S w _ _ g=>let ⟨y,e1,e2,e3⟩:=g.2.2.2.1; ⟨S,y,e1,e2,e3⟩) ?_)
 intro y0
 by_cases e4 : k.mat.det = 0
 ·refine n9 (.one (.bb false)) rfl (fun _ S w d _ _ s=>(kx (gK (a88 d s.1 hl (by omega)) (by rw [j2 fun g=>g e4]; rfl)))) ?_
  exact af6 (fun _ S w _ _ g _=>(kx (ap3 (I0 (e:=61)) g)))
 refine n9 (.one (.bb true)) rfl (fun _ S w g _ _ d=>(kx (gK (a88 g d.1 hl (by omega)) (by rw [j6 e4]; rfl)))) ?_
 refine o7 (r8 u0 60 18 true (fun x0=>.one (.ag 18 x0)) (fun x0=>al3 x0 k) (fun _ S w _ _ g=>let ⟨y,e1,e2,e3⟩:=g.2.2.2.2.1; ⟨S,y,e1,e2,e3⟩) ?_)
 intro z0
 refine o7 (r8 u1 55 9 true (fun x0=>.one (.ag 9 x0)) (fun x0=>j5 x0 p) (fun _ S w _ _ g=>let ⟨y,e1,e2,e3⟩:=g.2.2.2.2.2.2.1; ⟨S,y,e1,e2,e3⟩) ?_)
 intro z1
 refine o6 3 n5 (k.val p) (fun _ S w g _ _ d=>(kx (dv1 g d.2.1 d.1 hl hm (by omega)))) ?_
 intro z2
 by_cases e5 : k.val p = 0
 ·refine n9 (.one (.bb true)) rfl (fun _ S w g _ _ d=>(kx (gK (D9 g d.1) (by rw [j6 e5]; rfl)))) ?_
  refine o7 (r8 u1 55 9 true (fun x0=>.one (.ag 9 x0)) (fun x0=>j5 x0 p) (fun _ S w _ _ g=>let ⟨y,e1,e2,e3⟩:=g.2.2.2.2.2.2.2.2.1; ⟨S,y,e1,e2,e3⟩) ?_)
  intro t1
  refine o7 (r8 u2 55 9 true (fun x0=>.one (.ag 9 x0)) (fun x0=>j5 x0 l) (fun _ S w _ _ g=>let ⟨y,e1,e2,e3⟩:=g.2.2.2.2.2.2.2.2.2.2; ⟨S,y,e1,e2,e3⟩) ?_)
  intro t2
  refine o6 3 n5 (p.dot l) (fun _ S w g _ _ d=>(kx (al5 g d.2.1 d.1 hm hm2 (by omega)))) ?_
  intro t3
  refine n9 (.one (.bb false)) rfl (fun _ S w d _ _ s=>(kx (gK (D9 d s.1) (by rw [j2 fun g=>e ⟨e4,e5,g⟩]; rfl)))) ?_
  exact af6 (fun _ S w _ _ g _=>(kx (ap3 (I0 (e:=61)) g)))
 refine n9 (.one (.bb false)) rfl (fun _ S w g _ _ d=>(kx (gK (D9 g d.1) (by rw [j2 e5]; rfl)))) ?_
 exact af6 (fun _ S w _ _ g _=>(kx (ap3 (I0 (e:=61)) g)))
open Classical in
noncomputable def ax4 (k : C6) (p l : T3) : Int:=if ay1 k p l then 0 else 61
theorem dw5 {k : C6} (h : ax4 k p l = 0) : ay1 k p l:=by
 unfold ax4 at h
 split at h
 ·assumption
 cases h
theorem dx9 {k : C6} (h : ¬ ax4 k p l = 0) : (61 : Int) = ax4 k p l:=by
 unfold ax4 at h ⊢
 split
 ·rename_i g; rw [if_pos g] at h; exact absurd rfl h
 rfl
theorem av3 {k : C6} {m r : Nat} (ht : Tab w) (hS : Up S w) (h : ConV S w v k) (hp : TripV S w vp p) (hv : TripV S w vl l) (hl : cl k n) (hm : tl p m) (hm2 : tl l m) (hn : n ≤ 20) (hmm : m ≤ 20) (hR : ay1 k p l → tl (am3 k p (m6 l p)) r) (hr2 : r ≤ 3344)
  (e1 : as9 k = 0) (e2 : M9 p = 0) (e3 : M9 l = 0) :
  Gives prog 16 [v,vp,vl] w fun v' w'=>Ext w w' ∧ (W6 v' (if ax4 k p l = 0 then am3 k p (m6 l p) else ⟨0,0,0⟩) (ax4 k p l)).p S w':=by
 refine n4 (E:=env) (S0:=S) (G:=((al3 v k).and ((j5 vp p).and (j5 vl l)))) (l:=[.one (.ag 18 v),.one (.ag 9 vp),.one (.ag 9 vl)]) func16 rfl rfl rfl ⟨h.ok,hp.ok,hv.ok,trivial⟩ rfl ⟨h,hp,hv⟩ ?_
 refine o7 (N9 0 60 ([.ag 18 v]) (fun u0=>?_))
 refine o7 (N9 1 55 ([.ag 9 vp]) (fun u1=>?_))
 refine o7 (N9 2 55 ([.ag 9 vl]) (fun u2=>?_))
 refine ah1 (fun x0=>pr (.ag 9 (N6 x0)) (.int .i64 (ax4 k p l))) (fun x0=>W6 x0 (if ax4 k p l = 0 then am3 k p (m6 l p) else ⟨0,0,0⟩) (ax4 k p l)) (fun _ _ _ h=>a19 h) (fun _ S w d _ s m=>have h:=m.2.2.2.1; (kx (ff6 54 [u0,u1,u2] (t:=am3 k p (m6 l p)) (E:=ax4 k p l) d (fun e S' w' hS' k' _ hs'=>(fun g=>cd8 (ht.to (s.trans k')) hS' (J1 m.2.2.1) (J1 m.2.1) (J1 m.1) ((cv8 u0 k).at' (ct2 (F:=fun x=>al3 x k) m.2.2.1 h.lies h) hs' k') ((C0 u1 p).at' (J7 m.2.1 m.2.2.2.2.1) hs' k') ((C0 u2 l).at' (J7 m.1 m.2.2.2.2.2) hs' k') hl hm hm2 hn hmm (hR g) hr2 e1 e2 e3 g.1 g.2.1 g.2.2) (dw5 e)) (fun e S' w' hS' k' _ hs'=>dx9 e ▸ ci3 (ht.to (s.trans k')) hS' (J1 m.2.2.1) (J1 m.2.1) (J1 m.1) ((cv8 u0 k).at' (ct2 (F:=fun x=>al3 x k) m.2.2.1 h.lies h) hs' k') ((C0 u1 p).at' (J7 m.2.1 m.2.2.2.2.1) hs' k') ((C0 u2 l).at' (J7 m.1 m.2.2.2.2.2) hs' k') hl hm hm2 hn hmm e1 e2 e3 fun g=>e (if_pos g))))) ?_
 intro r
 exact j9 (.tuple #[N6 r,.int .i64 (ax4 k p l)]) rfl (fun S w g d s=>⟨d,rfl,s.1.2.mono fun k _ hk=>g k hk⟩)
noncomputable def be2 (f : Nat → Int) : C6:=⟨((r7 (f 0) : Int) : Rat),((r7 (f 1) : Int) : Rat),((r7 (f 2) : Int) : Rat),((r7 (f 3) : Int) : Rat),((r7 (f 4) : Int) : Rat),((r7 (f 5) : Int) : Rat)⟩
open Classical in
noncomputable def ae5 (f : Nat → Int) : C6:=if as9 (be2 f) = 0 then be2 f else { be2 f with a:=1 }
theorem b04 (f : Nat → Int) : C6.ci (be2 f) 3:=by
 have h:=fun i=>Y8 (f i)
 have h0:=h 0
 have h1:=h 1
 have h2:=h 2
 have h3:=h 3
 have h4:=h 4
 have h5:=h 5
 exact ⟨_,_,_,_,_,_,rfl,by omega,by omega,by omega,by omega,by omega,by omega⟩
theorem ca6 (f : Nat → Int) : C6.ci (ae5 f) 3:=by
 unfold ae5
 split
 ·exact b04 f
 obtain ⟨a,b,c,g,h,i,e,h1,h2,h3,h4,h5,h6⟩:=b04 f
 exact ⟨1,b,c,g,h,i,by rw [e]; rfl,by decide,h2,h3,h4,h5,h6⟩
theorem b08 {k : C6} (h : C6.ci k B) (hB : B < 1000000000) : cl k 1:=C6.cl_of fun x hx=>by
 obtain ⟨z,rfl,hz⟩:=C6.ci_list h x hx
 have e : zl z ≤ 1:=G9 (k:=1) (by show Int.natAbs _ < _; omega)
 exact ⟨e,Nat.le_trans (G9 (k:=1) (show 1 < 1000000000 ^ 1 by decide)) (by omega)⟩
theorem db6 (f : Nat → Int) : as9 (ae5 f) = 0:=by
 unfold ae5
 split
 ·assumption
 rename_i h
 refine b18 (n:=1) (b08 (B:=3) ?_ (by decide)) (by decide) fun g=>g ⟨1,by simp [C6.list],by decide⟩
 obtain ⟨a,b,c,g,h,i,e,h1,h2,h3,h4,h5,h6⟩:=b04 f
 exact ⟨1,b,c,g,h,i,by rw [e]; rfl,by decide,h2,h3,h4,h5,h6⟩
theorem c23 (f : Nat → Int) : cl (ae5 f) 1:=b08 (ca6 f) (by decide)
def C6.movM (k : C6) (m : M3) : M3:=m.adj.turned.after (k.mat.after m.adj)
def C6.moved (k : C6) (m : M3) : C6:=⟨(1 / 2) * (k.movM m).a.x,(1 / 2) * (k.movM m).b.y,(1 / 2) * (k.movM m).c.z,(k.movM m).b.z,(k.movM m).a.z,(k.movM m).a.y⟩
theorem dn6 {k : C6} {b : M3} : (b.turned.after (k.mat.after b)) = ⟨⟨k.bl b.turned.a b.turned.a,k.bl b.turned.b b.turned.a,k.bl b.turned.c b.turned.a⟩,⟨k.bl b.turned.a b.turned.b,k.bl b.turned.b b.turned.b,k.bl b.turned.c b.turned.b⟩,⟨k.bl b.turned.a b.turned.c,k.bl b.turned.b b.turned.c,k.bl b.turned.c b.turned.c⟩⟩:=by
 simp only [M3.after,M3.turned,M3.apply,C6.bl,T3.dot,M3.mk.injEq,T3.mk.injEq]
 refine ⟨⟨?_,?_,?_⟩,⟨?_,?_,?_⟩,?_,?_,?_⟩ <;> grind
theorem C6.mat_of (x y z f g h : Rat) : (⟨1 / 2 * x,1 / 2 * y,1 / 2 * z,f,g,h⟩ : C6).mat = ⟨⟨x,h,g⟩,⟨h,y,f⟩,⟨g,f,z⟩⟩:=by
 have e : ∀ x : Rat,2 * (1 / 2 * x) = x:=fun x=>by grind
 simp only [C6.mat,e]
theorem C6.mat_moved (k : C6) (m : M3) : (k.moved m).mat = k.movM m:=by
 unfold C6.moved
 rw [C6.mat_of]
 unfold C6.movM
 rw [dn6]
 simp only [C6.bl_comm k m.adj.turned.b m.adj.turned.a,C6.bl_comm k m.adj.turned.c m.adj.turned.a,C6.bl_comm k m.adj.turned.c m.adj.turned.b]
theorem C6.moved_det {k : C6} (hk : k.mat.det ≠ 0) (hm : m.det ≠ 0) : (k.moved m).mat.det ≠ 0:=by
 rw [C6.mat_moved]
 unfold C6.movM
 rw [bq9,bq9,M3.det_turned,M3.det_adj]
 exact a79 (a79 hm hm) (a79 hk (a79 hm hm))
variable {k K0 : C6}
theorem b94 (h : k.mat.det ≠ 0) : ¬ ah4 k.list:=by
 intro g
 have z : ∀ x ∈ k.list,x = 0:=fun x hx=>Classical.byContradiction fun e=>g ⟨x,hx,e⟩
 have ha:=z k.a (by simp [C6.list])
 have hb:=z k.b (by simp [C6.list])
 have hc:=z k.c (by simp [C6.list])
 have hf:=z k.f (by simp [C6.list])
 have hg:=z k.g (by simp [C6.list])
 have hh:=z k.h (by simp [C6.list])
 refine h ?_
 simp only [C6.mat,M3.det,T3.dot,T3.cross,ha,hb,hc,hf,hg,hh]
 grind
def bo8 : C6:=⟨1,0,0,-1,0,0⟩
theorem di9 : bo8.mat.det ≠ 0:=by
 have e : bo8.mat.det = -2:=by
  simp only [bo8,C6.mat,M3.det,T3.dot,T3.cross]
  grind
 rw [e]
 decide
theorem bx2 (h : z.natAbs < 1000000000) : rl (1 / 2 * (z : Rat)) 1:=by
 have e : (1 / 2 * (z : Rat)) = (z : Rat) / ((2 : Int) : Rat):=by
  show 1 / 2 * (z : Rat) = (z : Rat) / (2 : Rat)
  grind
 rw [e]
 exact a58 (G9 (k:=1) (by show Int.natAbs _ < _; omega)) (G9 (k:=1) (by decide)) (by decide)
theorem ct4 (hk : C6.ci k B) (hm : mi m C) : mi (k.movM m) (3 * (2 * (C * C) * (3 * (2 * B * (2 * (C * C)))))):=b50 (ag1 (c81 hm)) (b50 (C6.mi_mat hk) (c81 hm))
theorem db5 (hk : C6.ci k B) (hm : mi m C) (h : 3 * (2 * (C * C) * (3 * (2 * B * (2 * (C * C))))) < 1000000000) : cl (k.moved m) 1:=by
 obtain ⟨⟨a,b,c,e1,h1,h2,h3⟩,⟨a',b',c',e2,h1',h2',h3'⟩,⟨a2,b2,c2,e3,g1,g2,g3⟩⟩:=ct4 hk hm
 have w : ∀ {z : Int},z.natAbs ≤ 3 * (2 * (C * C) * (3 * (2 * B * (2 * (C * C))))) → rl (z : Rat) 1:=fun {z} hz=>by
  have e : zl z ≤ 1:=G9 (k:=1) (by show Int.natAbs _ < _; omega)
  exact ⟨e,Nat.le_trans (G9 (k:=1) (show 1 < 1000000000 ^ 1 by decide)) (by omega)⟩
 unfold C6.moved
 rw [e1,e2,e3]
 exact ⟨bx2 (by omega),bx2 (by omega),bx2 (by omega),w h3',w h3,w h2⟩
theorem cj9 : C6.ci bo8 1:=⟨1,0,0,-1,0,0,rfl,by decide,by decide,by decide,by decide,by decide,by decide⟩
theorem QMapC.keep {w' : World} (h : QMapC S w m a1 a2 a3 b1 b2 b3 c1 c2 c3) (k : Keeps S w w') : QMapC S w' m a1 a2 a3 b1 b2 b3 c1 c2 c3:=⟨h.a1.keep k,h.a2.keep k,h.a3.keep k,h.b1.keep k,h.b2.keep k,h.b3.keep k,h.c1.keep k,h.c2.keep k,h.c3.keep k⟩
theorem QMapC.mono {S' : Nat → Prop} (h : QMapC S w m a1 a2 a3 b1 b2 b3 c1 c2 c3) (k : ∀ i,i < w.heap.size → S i → S' i) : QMapC S' w m a1 a2 a3 b1 b2 b3 c1 c2 c3:=⟨h.a1.mono k,h.a2.mono k,h.a3.mono k,h.b1.mono k,h.b2.mono k,h.b3.mono k,h.c1.mono k,h.c2.mono k,h.c3.mono k⟩
theorem QMapC.qmap (h : QMapC S w m a1 a2 a3 b1 b2 b3 c1 c2 c3) : QMapV S w (b19 a1 a2 a3 b1 b2 b3 c1 c2 c3) m:=⟨_,_,_,_,_,_,_,_,_,rfl,h⟩
abbrev a77 (v : Value) (m : M3) : Gh:=⟨fun S w=>v = (SV.agg [.ag 4 (cel v 0 4),.ag 4 (cel v 4 4),.ag 4 (cel v 8 4),.ag 4 (cel v 12 4),.ag 4 (cel v 16 4),.ag 4 (cel v 20 4),.ag 4 (cel v 24 4),.ag 4 (cel v 28 4),.ag 4 (cel v 32 4)]).den (fun _=>0) ∧ QMapC S w m (cel v 0 4) (cel v 4 4) (cel v 8 4) (cel v 12 4) (cel v 16 4) (cel v 20 4) (cel v 24 4) (cel v 28 4) (cel v 32 4),fun h k=>⟨h.1,h.2.keep k⟩,fun h k=>⟨h.1,h.2.mono k⟩⟩
theorem br6 (h : (a77 v m).p S w) : (SV.agg [.ag 4 (cel v 0 4),.ag 4 (cel v 4 4),.ag 4 (cel v 8 4),.ag 4 (cel v 12 4),.ag 4 (cel v 16 4),.ag 4 (cel v 20 4),.ag 4 (cel v 24 4),.ag 4 (cel v 28 4),.ag 4 (cel v 32 4)]).Ok 0 ∧ (SV.agg [.ag 4 (cel v 0 4),.ag 4 (cel v 4 4),.ag 4 (cel v 8 4),.ag 4 (cel v 12 4),.ag 4 (cel v 16 4),.ag 4 (cel v 20 4),.ag 4 (cel v 24 4),.ag 4 (cel v 28 4),.ag 4 (cel v 32 4)]).den (fun _=>0) = v:=⟨h.2.ok 0,h.1.symm⟩
theorem du3 (h : QMapV S w v m) : (a77 v m).p S w:=by
 obtain ⟨a1,a2,a3,b1,b2,b3,c1,c2,c3,hv,hm⟩:=h
 have hl : ∀ x ∈ [a1,a2,a3,b1,b2,b3,c1,c2,c3],P6 true 4 x:=by
  intro x hx
  simp only [List.mem_cons,List.not_mem_nil,or_false] at hx
  rcases hx with rfl | rfl | rfl | rfl | rfl | rfl | rfl | rfl | rfl
  ·exact hm.a1.lies
  ·exact hm.a2.lies
  ·exact hm.a3.lies
  ·exact hm.b1.lies
  ·exact hm.b2.lies
  ·exact hm.b3.lies
  ·exact hm.c1.lies
  ·exact hm.c2.lies
  exact hm.c3.lies
 have hc : v.cells.toList = A7 [a1,a2,a3,b1,b2,b3,c1,c2,c3]:=by rw [hv]; simp [b19,A7,SV.den,d6,Ch.cells,Value.cells]
 have e0 : cel v 0 4 = a1:=X6 (g:=true) (i:=0) hc hl rfl
 have e1 : cel v 4 4 = a2:=X6 (g:=true) (i:=1) hc hl rfl
 have e2 : cel v 8 4 = a3:=X6 (g:=true) (i:=2) hc hl rfl
 have e3 : cel v 12 4 = b1:=X6 (g:=true) (i:=3) hc hl rfl
 have e4 : cel v 16 4 = b2:=X6 (g:=true) (i:=4) hc hl rfl
 have e5 : cel v 20 4 = b3:=X6 (g:=true) (i:=5) hc hl rfl
 have e6 : cel v 24 4 = c1:=X6 (g:=true) (i:=6) hc hl rfl
 have e7 : cel v 28 4 = c2:=X6 (g:=true) (i:=7) hc hl rfl
 have e8 : cel v 32 4 = c3:=X6 (g:=true) (i:=8) hc hl rfl
 show v = _ ∧ _
 rw [e0,e1,e2,e3,e4,e5,e6,e7,e8]
 exact ⟨hv,hm⟩
theorem dg4 : rl (1 / 2 : Rat) 1:=I9 (by decide +kernel) (by decide +kernel)
theorem dn8 (hS : Up S w) : Gives prog 45 [.int .i64 1,.int .i64 2] w fun v' w'=>Ext w w' ∧ QV S w' v' (1 / 2 : Rat):=
 (cr4 (a:=1) (b:=2) hS (by decide) (by decide) (by decide) (by decide) (by decide) (Nat.le_trans (G9 (k:=1) (by decide)) (by decide)) (Nat.le_trans (G9 (k:=1) (by decide)) (by decide))).mono fun v' w' h=>⟨h.1,by have h2:=h.2; rwa [show mkRat (1 * (2 : Int).sign) (2 : Int).natAbs = (1 / 2 : Rat) by decide +kernel] at h2⟩
theorem cm4 (hS : Up S w) (h : QConV S w v k) (hl : cl k n) (hn : n ≤ 100000) : Gives prog 48 [v] w fun v' w'=>Ext w w' ∧ QMapV S w' v' k.mat:=by
 obtain ⟨c1,c2,c3,c4,c5,c6,rfl,hk⟩:=h
 refine n4 (E:=env) (S0:=S) (G:=(bu6 k c1 c2 c3 c4 c5 c6)) (l:=[.agg [.ag 4 c1,.ag 4 c2,.ag 4 c3,.ag 4 c4,.ag 4 c5,.ag 4 c6]]) func48 rfl rfl rfl ⟨hk.ok _,trivial⟩ rfl hk ?_
 refine o6 4 qG (2 : Rat) (fun _ S w g _ _ _=>(kx (J2 (a:=2) g (by decide) (by decide)))) ?_
 intro two
 refine a8 27 ?_
 refine a6 3 ?_
 refine f4 4 qG (2 * k.a) (fun _ _ S w g _ _ d _=>(kx (s8 g d.1 d.2.c1 (E7 az5 (by decide)) (f5 hl.1)))) ?_
 refine a6 10 ?_
 refine f4 4 qG (2 * k.b) (fun _ _ S w g _ _ d _=>(kx (s8 g d.1 d.2.c2 (E7 az5 (by decide)) (f5 hl.2.1)))) ?_
 refine a6 10 ?_
 refine f4 4 qG (2 * k.c) (fun _ _ S w g _ _ d _=>(kx (s8 g d.1 d.2.c3 (E7 az5 (by decide)) (f5 hl.2.2.1)))) ?_
 refine a6 1 ?_
 refine b6 7 (fun g d=>(qG (d 25) (2 * k.c)).and ((qG (d 14) (2 * k.b)).and ((qG (d 3) (2 * k.a)).and g))) (fun g _=>(by kernel_rfl)) ?_
 intro η_1
 exact j9 (b19 (η_1 3) c6 c5 c6 (η_1 14) c4 c5 c4 (η_1 25)) rfl (fun S w g d s=>have hk:=s.2.2.2.2; ⟨d,(QMapC.mono (m:=k.mat) ⟨s.2.2.1,hk.c6,hk.c5,hk.c6,s.2.1,hk.c4,hk.c5,hk.c4,s.1⟩ fun k _ hk=>g k hk).qmap⟩)
theorem bm8 {m : Nat} (hS : Up S w) (h : QConV S w v k) (hp : QTripV S w vp p) (hl : cl k n) (hm : tl p m) (hn : n + m ≤ 10000) : Gives prog 14 [v,vp] w fun v' w'=>Ext w w' ∧ QTripV S w' v' (k.mat.apply p):=by
 refine n4 (E:=env) (S0:=S) (G:=((au1 v k).and (l7 vp p))) (l:=[.one (.ag 24 v),.one (.ag 12 vp)]) func14 rfl rfl rfl ⟨h.ok,hp.ok,trivial⟩ rfl ⟨h,hp⟩ ?_
 refine a8 3 ?_
 refine a6 1 ?_
 refine f4 36 ax6 k.mat (fun _ _ S w g _ _ d _=>(kx (cm4 g d.1 hl (by omega)))) ?_
 refine a6 1 ?_
 refine b6 1 (fun g d=>(ax6 (d 1) k.mat).and g) (fun g _=>(by kernel_rfl)) ?_
 intro η_1
 refine o6 12 l7 (k.mat.apply p) (fun _ S w g _ _ d=>(kx (M4 g d.1 d.2.2 (aa2 hl) hm (by omega)))) ?_
 intro r
 exact j9 r rfl (fun S w g d s=>⟨d,s.1.mono fun k _ hk=>g k hk⟩)
theorem ag2 (hS : Up S w) (h : QConV S w v k) (hl : cl k n) (hn : n ≤ 10000) : Gives prog 19 [v] w fun v' w'=>v' = .bool (tst (¬ k.mat.det = 0)) ∧ Ext w w':=by
 refine n4 (E:=env) (S0:=S) (G:=(au1 v k)) (l:=[.one (.ag 24 v)]) func19 rfl rfl rfl ⟨h.ok,trivial⟩ rfl h ?_
 refine o6 36 ax6 k.mat (fun _ S w g _ _ d=>(kx (cm4 g d hl (by omega)))) ?_
 intro x
 refine o6 4 qG k.mat.det (fun _ S w g _ _ d=>(kx (c58 g d.1 (aa2 hl) (by omega)))) ?_
 intro y
 refine n9 (.one (.int .i64 k.mat.det.num.sign)) rfl (fun _ S w _ _ _ g=>(kx (ap0 g.1))) ?_
 exact j9 (.bool (tst (¬ k.mat.det.num.sign = 0))) rfl (fun S w _ g _=>⟨by rw [av9],g⟩)
theorem dp9 (hS : Up S w) (hv : QMapV S w v m) (hl : ml m n) (hn : n ≤ 10000) : Gives prog 47 [v] w fun v' w'=>Ext w w' ∧ QMapV S w' v' m.adj:=by
 obtain ⟨a1,a2,a3,b1,b2,b3,c1,c2,c3,rfl,hm⟩:=hv
 refine n4 (E:=env) (S0:=S) (G:=(ch6 m a1 a2 a3 b1 b2 b3 c1 c2 c3)) (l:=[.agg [.ag 4 a1,.ag 4 a2,.ag 4 a3,.ag 4 b1,.ag 4 b2,.ag 4 b3,.ag 4 c1,.ag 4 c2,.ag 4 c3]]) func47 rfl rfl rfl ⟨hm.ok _,trivial⟩ rfl hm ?_
 refine i1 ?_
 refine a8 12 ?_
 refine a6 10 ?_
 refine h_1 (fun x0=>.agg [.ag 4 (cel x0 0 4),.ag 4 (cel x0 4 4),.ag 4 (cel x0 8 4)]) (fun x0=>ae0 x0 (m.b.cross m.c)) (fun _=>(by kernel_rfl)) (fun _ _ _ h=>aa7 h) (fun _ _ S w g _ _ d _=>(kx ((E8 g ⟨_,_,_,rfl,d.b1,d.b2,d.b3⟩ ⟨_,_,_,rfl,d.c1,d.c2,d.c3⟩ hl.2.1 hl.2.2 (by omega)).mono fun v' w' h=>⟨h.1,bn5 h.2⟩))) ?_
 refine a6 1 ?_
 refine b6 1 (fun g d=>(ae0 (d 10) (m.b.cross m.c)).and g) (fun g _=>(by kernel_rfl)) ?_
 intro η_1
 refine i1 ?_
 refine a8 6 ?_
 refine a6 6 ?_
 refine b6 0 (fun g _=>g) (fun g _=>(by kernel_rfl)) ?_
 intro η_2
 refine i1 ?_
 refine a8 6 ?_
 refine a6 6 ?_
 refine b6 0 (fun g _=>g) (fun g _=>(by kernel_rfl)) ?_
 intro η_3
 refine i1 ?_
 refine a8 6 ?_
 refine a6 6 ?_
 refine b6 0 (fun g _=>g) (fun g _=>(by kernel_rfl)) ?_
 intro η_4
 refine i1 ?_
 refine a8 12 ?_
 refine a6 10 ?_
 refine h_1 (fun x0=>.agg [.ag 4 (cel x0 0 4),.ag 4 (cel x0 4 4),.ag 4 (cel x0 8 4)]) (fun x0=>ae0 x0 (m.c.cross m.a)) (fun _=>(by kernel_rfl)) (fun _ _ _ h=>aa7 h) (fun _ _ S w g _ _ d _=>(kx ((E8 g ⟨_,_,_,rfl,d.2.c1,d.2.c2,d.2.c3⟩ ⟨_,_,_,rfl,d.2.a1,d.2.a2,d.2.a3⟩ hl.2.2 hl.1 (by omega)).mono fun v' w' h=>⟨h.1,bn5 h.2⟩))) ?_
 refine a6 1 ?_
 refine b6 1 (fun g d=>(ae0 (d 10) (m.c.cross m.a)).and g) (fun g _=>(by kernel_rfl)) ?_
 intro η_5
 refine i1 ?_
 refine a8 6 ?_
 refine a6 6 ?_
 refine b6 0 (fun g _=>g) (fun g _=>(by kernel_rfl)) ?_
 intro η_6
 refine i1 ?_
 refine a8 6 ?_
 refine a6 6 ?_
 refine b6 0 (fun g _=>g) (fun g _=>(by kernel_rfl)) ?_
 intro η_7
 refine i1 ?_
 refine a8 6 ?_
 refine a6 6 ?_
 refine b6 0 (fun g _=>g) (fun g _=>(by kernel_rfl)) ?_
 intro η_8
 refine i1 ?_
 refine a8 12 ?_
 refine a6 10 ?_
 refine h_1 (fun x0=>.agg [.ag 4 (cel x0 0 4),.ag 4 (cel x0 4 4),.ag 4 (cel x0 8 4)]) (fun x0=>ae0 x0 (m.a.cross m.b)) (fun _=>(by kernel_rfl)) (fun _ _ _ h=>aa7 h) (fun _ _ S w g _ _ d _=>have hm:=d.2.2; (kx ((E8 g ⟨_,_,_,rfl,hm.a1,hm.a2,hm.a3⟩ ⟨_,_,_,rfl,hm.b1,hm.b2,hm.b3⟩ hl.1 hl.2.1 (by omega)).mono fun v' w' h=>⟨h.1,bn5 h.2⟩))) ?_
 refine a6 1 ?_
 refine b6 1 (fun g d=>(ae0 (d 10) (m.a.cross m.b)).and g) (fun g _=>(by kernel_rfl)) ?_
 intro η_9
 refine i1 ?_
 refine a8 6 ?_
 refine a6 6 ?_
 refine b6 0 (fun g _=>g) (fun g _=>(by kernel_rfl)) ?_
 intro η_10
 refine i1 ?_
 refine a8 6 ?_
 refine a6 6 ?_
 refine b6 0 (fun g _=>g) (fun g _=>(by kernel_rfl)) ?_
 intro η_11
 refine i1 ?_
 refine a8 6 ?_
 refine a6 6 ?_
 refine b6 0 (fun g _=>g) (fun g _=>(by kernel_rfl)) ?_
 intro η_12
 refine i1 ?_
 exact j9 (b19 (cel (η_1 10) 0 4) (cel (η_5 10) 0 4) (cel (η_9 10) 0 4) (cel (η_1 10) 4 4) (cel (η_5 10) 4 4) (cel (η_9 10) 4 4) (cel (η_1 10) 8 4) (cel (η_5 10) 8 4) (cel (η_9 10) 8 4)) rfl (fun S w g d s=>⟨d,(QMapC.mono (m:=m.adj) ⟨s.2.2.1.2.1,s.2.1.2.1,s.1.2.1,s.2.2.1.2.2.1,s.2.1.2.2.1,s.1.2.2.1,s.2.2.1.2.2.2,s.2.1.2.2.2,s.1.2.2.2⟩ fun k _ hk=>g k hk).qmap⟩)
theorem b80 {x : M3} {k : Nat} (hS : Up S w) (hv : QMapV S w v m) (hu : QMapV S w u x) (hl : ml m n) (hk : ml x k) (hn : n + k ≤ 10000) : Gives prog 49 [v,u] w fun v' w'=>Ext w w' ∧ QMapV S w' v' (m.after x):=by
 obtain ⟨a1,a2,a3,b1,b2,b3,c1,c2,c3,rfl,hm⟩:=hv
 obtain ⟨d1,d2,d3,e1,e2,e3,f1,f2,f3,rfl,hx⟩:=hu
 refine n4 (E:=env) (S0:=S) (G:=((ch6 m a1 a2 a3 b1 b2 b3 c1 c2 c3).and (ch6 x d1 d2 d3 e1 e2 e3 f1 f2 f3))) (l:=[.agg [.ag 4 a1,.ag 4 a2,.ag 4 a3,.ag 4 b1,.ag 4 b2,.ag 4 b3,.ag 4 c1,.ag 4 c2,.ag 4 c3],.agg [.ag 4 d1,.ag 4 d2,.ag 4 d3,.ag 4 e1,.ag 4 e2,.ag 4 e3,.ag 4 f1,.ag 4 f2,.ag 4 f3]]) func49 rfl rfl rfl ⟨hm.ok _,hx.ok _,trivial⟩ rfl ⟨hm,hx⟩ ?_
 refine i1 ?_
 refine a8 20 ?_
 refine a6 18 ?_
 refine f4 4 qG (m.a.dot ⟨x.a.x,x.b.x,x.c.x⟩) (fun _ _ S w g _ _ d _=>(kx (S7 g ⟨_,_,_,rfl,d.1.a1,d.1.a2,d.1.a3⟩ ⟨_,_,_,rfl,d.2.a1,d.2.b1,d.2.c1⟩ hl.1 ⟨hk.1.1,hk.2.1.1,hk.2.2.1⟩ (by omega)))) ?_
 refine a6 1 ?_
 refine b6 1 (fun g d=>(qG (d 18) (m.a.dot ⟨x.a.x,x.b.x,x.c.x⟩)).and g) (fun g _=>(by kernel_rfl)) ?_
 intro η_1
 refine i1 ?_
 refine a8 20 ?_
 refine a6 18 ?_
 refine f4 4 qG (m.a.dot ⟨x.a.y,x.b.y,x.c.y⟩) (fun _ _ S w g _ _ d _=>(kx (S7 g ⟨_,_,_,rfl,d.2.1.a1,d.2.1.a2,d.2.1.a3⟩ ⟨_,_,_,rfl,d.2.2.a2,d.2.2.b2,d.2.2.c2⟩ hl.1 ⟨hk.1.2.1,hk.2.1.2.1,hk.2.2.2.1⟩ (by omega)))) ?_
 refine a6 1 ?_
 refine b6 1 (fun g d=>(qG (d 18) (m.a.dot ⟨x.a.y,x.b.y,x.c.y⟩)).and g) (fun g _=>(by kernel_rfl)) ?_
 intro η_2
 refine i1 ?_
 refine a8 20 ?_
 refine a6 18 ?_
 refine f4 4 qG (m.a.dot ⟨x.a.z,x.b.z,x.c.z⟩) (fun _ _ S w g _ _ d _=>(kx (S7 g ⟨_,_,_,rfl,d.2.2.1.a1,d.2.2.1.a2,d.2.2.1.a3⟩ ⟨_,_,_,rfl,d.2.2.2.a3,d.2.2.2.b3,d.2.2.2.c3⟩ hl.1 ⟨hk.1.2.2,hk.2.1.2.2,hk.2.2.2.2⟩ (by omega)))) ?_
 refine a6 1 ?_
 refine b6 1 (fun g d=>(qG (d 18) (m.a.dot ⟨x.a.z,x.b.z,x.c.z⟩)).and g) (fun g _=>(by kernel_rfl)) ?_
 intro η_3
 refine i1 ?_
 refine a8 20 ?_
 refine a6 18 ?_
 refine f4 4 qG (m.b.dot ⟨x.a.x,x.b.x,x.c.x⟩) (fun _ _ S w g _ _ d _=>have hm:=d.2.2.2.1; have hx:=d.2.2.2.2; (kx (S7 g ⟨_,_,_,rfl,hm.b1,hm.b2,hm.b3⟩ ⟨_,_,_,rfl,hx.a1,hx.b1,hx.c1⟩ hl.2.1 ⟨hk.1.1,hk.2.1.1,hk.2.2.1⟩ (by omega)))) ?_
 refine a6 1 ?_
 refine b6 1 (fun g d=>(qG (d 18) (m.b.dot ⟨x.a.x,x.b.x,x.c.x⟩)).and g) (fun g _=>(by kernel_rfl)) ?_
 intro η_4
 refine i1 ?_
 refine a8 20 ?_
 refine a6 18 ?_
 refine f4 4 qG (m.b.dot ⟨x.a.y,x.b.y,x.c.y⟩) (fun _ _ S w g _ _ d _=>have hm:=d.2.2.2.2.1; have hx:=d.2.2.2.2.2; (kx (S7 g ⟨_,_,_,rfl,hm.b1,hm.b2,hm.b3⟩ ⟨_,_,_,rfl,hx.a2,hx.b2,hx.c2⟩ hl.2.1 ⟨hk.1.2.1,hk.2.1.2.1,hk.2.2.2.1⟩ (by omega)))) ?_
 refine a6 1 ?_
 refine b6 1 (fun g d=>(qG (d 18) (m.b.dot ⟨x.a.y,x.b.y,x.c.y⟩)).and g) (fun g _=>(by kernel_rfl)) ?_
 intro η_5
 refine i1 ?_
 refine a8 20 ?_
 refine a6 18 ?_
 refine f4 4 qG (m.b.dot ⟨x.a.z,x.b.z,x.c.z⟩) (fun _ _ S w g _ _ d _=>have hm:=d.2.2.2.2.2.1; have hx:=d.2.2.2.2.2.2; (kx (S7 g ⟨_,_,_,rfl,hm.b1,hm.b2,hm.b3⟩ ⟨_,_,_,rfl,hx.a3,hx.b3,hx.c3⟩ hl.2.1 ⟨hk.1.2.2,hk.2.1.2.2,hk.2.2.2.2⟩ (by omega)))) ?_
 refine a6 1 ?_
 refine b6 1 (fun g d=>(qG (d 18) (m.b.dot ⟨x.a.z,x.b.z,x.c.z⟩)).and g) (fun g _=>(by kernel_rfl)) ?_
 intro η_6
 refine i1 ?_
 refine a8 20 ?_
 refine a6 18 ?_
 refine f4 4 qG (m.c.dot ⟨x.a.x,x.b.x,x.c.x⟩) (fun _ _ S w g _ _ d _=>have hm:=d.2.2.2.2.2.2.1; have hx:=d.2.2.2.2.2.2.2; (kx (S7 g ⟨_,_,_,rfl,hm.c1,hm.c2,hm.c3⟩ ⟨_,_,_,rfl,hx.a1,hx.b1,hx.c1⟩ hl.2.2 ⟨hk.1.1,hk.2.1.1,hk.2.2.1⟩ (by omega)))) ?_
 refine a6 1 ?_
 refine b6 1 (fun g d=>(qG (d 18) (m.c.dot ⟨x.a.x,x.b.x,x.c.x⟩)).and g) (fun g _=>(by kernel_rfl)) ?_
 intro η_7
 refine i1 ?_
 refine a8 20 ?_
 refine a6 18 ?_
 refine f4 4 qG (m.c.dot ⟨x.a.y,x.b.y,x.c.y⟩) (fun _ _ S w g _ _ d _=>have hm:=d.2.2.2.2.2.2.2.1; have hx:=d.2.2.2.2.2.2.2.2; (kx (S7 g ⟨_,_,_,rfl,hm.c1,hm.c2,hm.c3⟩ ⟨_,_,_,rfl,hx.a2,hx.b2,hx.c2⟩ hl.2.2 ⟨hk.1.2.1,hk.2.1.2.1,hk.2.2.2.1⟩ (by omega)))) ?_
 refine a6 1 ?_
 refine b6 1 (fun g d=>(qG (d 18) (m.c.dot ⟨x.a.y,x.b.y,x.c.y⟩)).and g) (fun g _=>(by kernel_rfl)) ?_
 intro η_8
 refine i1 ?_
 refine a8 20 ?_
 refine a6 18 ?_
 refine f4 4 qG (m.c.dot ⟨x.a.z,x.b.z,x.c.z⟩) (fun _ _ S w g _ _ d _=>have hm:=d.2.2.2.2.2.2.2.2.1; have hx:=d.2.2.2.2.2.2.2.2.2; (kx (S7 g ⟨_,_,_,rfl,hm.c1,hm.c2,hm.c3⟩ ⟨_,_,_,rfl,hx.a3,hx.b3,hx.c3⟩ hl.2.2 ⟨hk.1.2.2,hk.2.1.2.2,hk.2.2.2.2⟩ (by omega)))) ?_
 refine a6 1 ?_
 refine b6 1 (fun g d=>(qG (d 18) (m.c.dot ⟨x.a.z,x.b.z,x.c.z⟩)).and g) (fun g _=>(by kernel_rfl)) ?_
 intro η_9
 refine i1 ?_
 exact j9 (b19 (η_1 18) (η_2 18) (η_3 18) (η_4 18) (η_5 18) (η_6 18) (η_7 18) (η_8 18) (η_9 18)) rfl (fun S w g d s=>⟨d,(QMapC.mono (m:=m.after x) ⟨s.2.2.2.2.2.2.2.2.1,s.2.2.2.2.2.2.2.1,s.2.2.2.2.2.2.1,s.2.2.2.2.2.1,s.2.2.2.2.1,s.2.2.2.1,s.2.2.1,s.2.1,s.1⟩ fun k _ hk=>g k hk).qmap⟩)
theorem da6 {l : Nat} (hS : Up S w) (h : QConV S w v k) (hu : QMapV S w u m) (hl : cl k n) (hk : ml m l) (hn : n + l ≤ 100) : Gives prog 7 [v,u] w fun v' w'=>Ext w w' ∧ QConV S w' v' (k.moved m):=by
 have A : ml m.adj (4 * l + 1):=d80 hk
 have B : ml m.adj.turned (4 * l + 1):=⟨⟨A.1.1,A.2.1.1,A.2.2.1⟩,⟨A.1.2.1,A.2.1.2.1,A.2.2.2.1⟩,⟨A.1.2.2,A.2.1.2.2,A.2.2.2.2⟩⟩
 have C:=b56 (aa2 hl) A
 have D:=b56 B C
 refine n4 (E:=env) (S0:=S) (G:=((au1 v k).and (ax6 u m))) (l:=[.one (.ag 24 v),.one (.ag 36 u)]) func7 rfl rfl rfl ⟨h.ok,hu.ok,trivial⟩ rfl ⟨h,hu⟩ ?_
 refine a8 6 ?_
 refine a6 1 ?_
 refine h_1 (fun x0=>.agg [.ag 4 (cel x0 0 4),.ag 4 (cel x0 4 4),.ag 4 (cel x0 8 4),.ag 4 (cel x0 12 4),.ag 4 (cel x0 16 4),.ag 4 (cel x0 20 4),.ag 4 (cel x0 24 4),.ag 4 (cel x0 28 4),.ag 4 (cel x0 32 4)]) (fun x0=>a77 x0 m.adj) (fun _=>(by kernel_rfl)) (fun _ _ _ h=>br6 h) (fun _ _ S w g _ _ d _=>have h:=d.1; (kx ((dp9 g d.2 hk (by omega)).mono fun v' w' h=>⟨h.1,du3 h.2⟩))) ?_
 refine a6 1 ?_
 refine f4 36 ax6 k.mat (fun _ _ S w g _ _ d _=>(kx (cm4 g d.1 hl (by omega)))) ?_
 refine a6 2 ?_
 refine b6 3 (fun g d=>(ax6 (d 3) k.mat).and ((a77 (d 1) m.adj).and g)) (fun g _=>(by kernel_rfl)) ?_
 intro η_1
 refine i1 ?_
 refine a8 8 ?_
 refine a6 8 ?_
 refine b6 0 (fun g _=>g) (fun g _=>(by kernel_rfl)) ?_
 intro η_2
 refine i1 ?_
 refine a8 8 ?_
 refine a6 8 ?_
 refine b6 0 (fun g _=>g) (fun g _=>(by kernel_rfl)) ?_
 intro η_3
 refine i1 ?_
 refine a8 8 ?_
 refine a6 8 ?_
 refine b6 0 (fun g _=>g) (fun g _=>(by kernel_rfl)) ?_
 intro η_4
 refine i1 ?_
 refine a8 8 ?_
 refine a6 8 ?_
 refine b6 0 (fun g _=>g) (fun g _=>(by kernel_rfl)) ?_
 intro η_5
 refine i1 ?_
 refine a8 8 ?_
 refine a6 8 ?_
 refine b6 0 (fun g _=>g) (fun g _=>(by kernel_rfl)) ?_
 intro η_6
 refine i1 ?_
 refine a8 8 ?_
 refine a6 8 ?_
 refine b6 0 (fun g _=>g) (fun g _=>(by kernel_rfl)) ?_
 intro η_7
 refine i1 ?_
 refine a8 8 ?_
 refine a6 8 ?_
 refine b6 0 (fun g _=>g) (fun g _=>(by kernel_rfl)) ?_
 intro η_8
 refine i1 ?_
 refine a8 8 ?_
 refine a6 8 ?_
 refine b6 0 (fun g _=>g) (fun g _=>(by kernel_rfl)) ?_
 intro η_9
 refine i1 ?_
 refine a8 8 ?_
 refine a6 8 ?_
 refine b6 0 (fun g _=>g) (fun g _=>(by kernel_rfl)) ?_
 intro η_10
 refine i1 ?_
 refine a8 6 ?_
 refine a6 3 ?_
 refine f4 36 ax6 (k.mat.after m.adj) (fun _ _ S w g _ _ d _=>(kx (b80 g d.1 ⟨_,_,_,_,_,_,_,_,_,rfl,d.2.1.2⟩ (aa2 hl) A (by omega)))) ?_
 refine h_1 (fun x0=>.agg [.ag 4 (cel x0 0 4),.ag 4 (cel x0 4 4),.ag 4 (cel x0 8 4),.ag 4 (cel x0 12 4),.ag 4 (cel x0 16 4),.ag 4 (cel x0 20 4),.ag 4 (cel x0 24 4),.ag 4 (cel x0 28 4),.ag 4 (cel x0 32 4)]) (fun x0=>a77 x0 (k.movM m)) (fun _=>(by kernel_rfl)) (fun _ _ _ h=>br6 h) (fun _ g S w d _ _ s t=>have b:=s.2.1; have h:=s.2.2.1; (kx ((b80 (m:=m.adj.turned) d ⟨_,_,_,_,_,_,_,_,_,rfl,⟨b.2.a1,b.2.b1,b.2.c1,b.2.a2,b.2.b2,b.2.c2,b.2.a3,b.2.b3,b.2.c3⟩⟩ (j8 t 3 : (ax6 (g 3) (k.mat.after m.adj)).p S w) B C (by omega)).mono fun v' w' h=>⟨h.1,du3 h.2⟩))) ?_
 refine a6 1 ?_
 refine b6 3 (fun g d=>(a77 (d 4) (k.movM m)).and ((ax6 (d 3) (k.mat.after m.adj)).and g)) (fun g _=>(by kernel_rfl)) ?_
 intro η_11
 refine o6 4 qG (1 / 2 : Rat) (fun _ S w g _ _ _=>(kx (dn8 g))) ?_
 intro hv
 refine a8 24 ?_
 refine a6 4 ?_
 refine f4 4 qG (1 / 2 * (k.movM m).a.x) (fun _ _ S w g _ _ d _=>(kx (s8 g d.1 d.2.1.2.a1 (E7 dg4 (by decide)) (f5 D.1.1)))) ?_
 refine a6 4 ?_
 refine f4 4 qG (1 / 2 * (k.movM m).b.y) (fun _ _ S w g _ _ d _=>(kx (s8 g d.1 d.2.1.2.b2 (E7 dg4 (by decide)) (f5 D.2.1.2.1)))) ?_
 refine a6 4 ?_
 refine f4 4 qG (1 / 2 * (k.movM m).c.z) (fun _ _ S w g _ _ d _=>(kx (s8 g d.1 d.2.1.2.c3 (E7 dg4 (by decide)) (f5 D.2.2.2.2)))) ?_
 refine a6 9 ?_
 refine b6 7 (fun g d=>(qG (d 14) (1 / 2 * (k.movM m).c.z)).and ((qG (d 9) (1 / 2 * (k.movM m).b.y)).and ((qG (d 4) (1 / 2 * (k.movM m).a.x)).and g))) (fun g _=>(by kernel_rfl)) ?_
 intro η_12
 exact j9 (df3 (η_12 4) (η_12 9) (η_12 14) (cel (η_11 4) 20 4) (cel (η_11 4) 8 4) (cel (η_11 4) 4 4)) rfl (fun S w g d s=>have z:=s.2.2.2.2.1; ⟨d,_,_,_,_,_,_,rfl,QConC.mono (k:=k.moved m) ⟨s.2.2.1,s.2.1,s.1,z.2.b3,z.2.a3,z.2.a2⟩ fun k _ hk=>g k hk⟩)
open Classical in
noncomputable def rq (l p : T3) : Nat → T3
 | 0=>p
 | i + 1=>if T3.Same (rq l p i) p ∧ ¬ (l.cross (F8 i)).None ∧ ¬ T3.Same (l.cross (F8 i)) p then l.cross (F8 i) else rq l p i
theorem cv9 (p : T3) : T3.Same p p:=by refine ⟨?_,?_,?_⟩ <;> simp only [T3.cross] <;> grind
theorem by8 (h : T3.Same (rq l p i) p) (g : ak0 l p i) : rq l p (i + 1) = l.cross (F8 i):=if_pos ⟨h,bk9.1 g⟩
theorem c65 (g : ¬ ak0 l p i) : rq l p (i + 1) = rq l p i:=if_neg fun h=>g (bk9.2 h.2)
theorem bv9 (h : ¬ T3.Same (rq l p i) p) : rq l p (i + 1) = rq l p i:=if_neg fun g=>h g.1
theorem fd3 (hl : ¬ l.None) (hp : ¬ p.None) : rq l p 3 = l.cross (F8 (pick l p)):=by
 have g:=bb7 hl hp
 have n : ∀ {i : Nat},ak0 l p i → ¬ T3.Same (l.cross (F8 i)) p:=fun g=>(bk9.1 g).2
 have s0 : T3.Same (rq l p 0) p:=cv9 p
 unfold pick at g ⊢
 by_cases g0 : ak0 l p 0
 ·rw [if_pos g0]
  have e1:=by8 s0 g0
  have e2 : rq l p 2 = rq l p 1:=bv9 (by rw [e1]; exact n g0)
  have e3 : rq l p 3 = rq l p 2:=bv9 (by rw [e2,e1]; exact n g0)
  rw [e3,e2,e1]
 rw [if_neg g0] at g ⊢
 have e1 : rq l p 1 = rq l p 0:=c65 g0
 have s1 : T3.Same (rq l p 1) p:=by rw [e1]; exact s0
 by_cases g1 : ak0 l p 1
 ·rw [if_pos g1]
  have e2:=by8 s1 g1
  have e3 : rq l p 3 = rq l p 2:=bv9 (by rw [e2]; exact n g1)
  rw [e3,e2]
 rw [if_neg g1] at g ⊢
 have e2 : rq l p 2 = rq l p 1:=c65 g1
 exact by8 (by rw [e2]; exact s1) g
theorem ao3 (i : Nat) : tl (F8 i) 1:=by unfold F8; split <;> exact ⟨I9 (by decide) (by decide),I9 (by decide) (by decide),I9 (by decide) (by decide)⟩
theorem dt3 {m : Nat} (hl : tl l m) (hp : tl p m) : ∀ i,tl (rq l p i) (2 * (m + 1) + 1)
 | 0=>N3 hp (by omega)
 | i + 1=>by
  unfold rq
  split
  ·exact q7 hl (ao3 i)
  exact dt3 hl hp i
theorem bt8 {m : Nat} (hS : Up S w) (h : QConV S w v k) (hp : QTripV S w vp p) (hv : QTripV S w vl l) (hl : cl k n) (hm : tl p m) (hm2 : tl l m) (hn : n + m ≤ 100) :
  Gives prog 24 [v,vp,vl] w fun v' w'=>Ext w w' ∧ QTripV S w' v' (k.sec p (rq l p 3)):=by
 have Q:=dt3 hm2 hm
 have M:=aa2 hl
 have B1:=az9 (Q7 M hm) (Q 3)
 have B2:=az9 (Q7 M (Q 3)) (Q 3)
 have B3 : rl (2 * k.bl p (rq l p 3)) (1 + (3 * ((3 * ((n + 1) + m) + 2) + (2 * (m + 1) + 1)) + 2)):=r5 az5 B1
 obtain ⟨a1,a2,a3,rfl,ha1,ha2,ha3⟩:=hp
 refine n4 (E:=env) (S0:=S) (G:=((au1 v k).and ((l7 vl l).and ((qG a1 p.x).and ((qG a2 p.y).and (qG a3 p.z)))))) (l:=[.one (.ag 24 v),.agg [.ag 4 a1,.ag 4 a2,.ag 4 a3],.one (.ag 12 vl)]) func24 rfl rfl rfl ⟨h.ok,I1 ⟨ha1.okc,ha2.okc,ha3.okc,trivial⟩,hv.ok,trivial⟩ rfl ⟨h,hv,ha1,ha2,ha3⟩ ?_
 refine i1 ?_
 refine o6 4 qG (0 : Rat) (fun _ S w g _ _ _=>(kx (Z5 g))) ?_
 intro w00
 refine i1 ?_
 refine o6 4 qG (0 : Rat) (fun _ S w g _ _ _=>(kx (Z5 g))) ?_
 intro w01
 refine i1 ?_
 refine o6 4 qG (0 : Rat) (fun _ S w g _ _ _=>(kx (Z5 g))) ?_
 intro w02
 refine i1 ?_
 refine o6 4 qG (1 : Rat) (fun _ S w g _ _ _=>(kx (ak3 g))) ?_
 intro y0
 refine ah1 (fun x0=>.agg [.ag 4 (cel x0 0 4),.ag 4 (cel x0 4 4),.ag 4 (cel x0 8 4)]) (fun x0=>ae0 x0 (l.cross (F8 0))) (fun _ _ _ h=>aa7 h) (fun _ S w g _ _ d=>have h:=d.2.2.2.2.1; (kx ((E8 (q:=F8 0) g d.2.2.2.2.2.1 ⟨y0,w01,w02,rfl,d.1,d.2.2.1,d.2.1⟩ hm2 (ao3 _) (by omega)).mono fun v' w' h=>⟨h.1,bn5 h.2⟩))) ?_
 intro v0
 refine n9 (.one (.tp (T3.Same (rq l p 0) p))) rfl (fun _ S w g _ _ d=>have ha2:=d.2.2.2.2.2.2.2.2.1; have ha3:=d.2.2.2.2.2.2.2.2.2; (kx (H3 g ⟨_,_,_,rfl,d.2.2.2.2.2.2.2.1,ha2,ha3⟩ ⟨_,_,_,rfl,d.2.2.2.2.2.2.2.1,ha2,ha3⟩ (Q 0) hm (by omega)))) ?_
 refine ac3 (ι:=Value × Value × Value) 0 1 [(34,48)] (fun X1=>[]) (fun X1=>[(4,.blk 39 [.ag 4 X1.1,.ag 4 X1.2.1,.ag 4 X1.2.2])]) (fun X1 g=>(qG X1.1 (rq l p 1).x).and ((qG X1.2.1 (rq l p 1).y).and ((qG X1.2.2 (rq l p 1).z).and g))) (fun X1=>True) ⟨c8,hS,l8⟩ (by kernel_rfl) (by kernel_rfl) (fun hso0=>?_) (fun X1 hX1=>?_)
 ·refine O8 (p:=T3.Same (rq l p 0) p) 37 (fun s=>?_) (fun s=>?_)
  ·refine n9 (.one (.tp (l.cross (F8 0)).None)) rfl (fun _ S w g _ _ d=>(kx (M8 g ⟨_,_,_,rfl,d.1.2.1,d.1.2.2.1,d.1.2.2.2⟩))) ?_
   refine O8 (p:=¬ (l.cross (F8 0)).None) 42 (fun nn=>?_) (fun nn=>?_)
   ·refine n9 (.one (.tp (T3.Same (l.cross (F8 0)) p))) rfl (fun _ S w g _ _ d=>(kx (H3 g ⟨_,_,_,rfl,d.1.2.1,d.1.2.2.1,d.1.2.2.2⟩ ⟨_,_,_,rfl,d.2.2.2.2.2.2.2.1,d.2.2.2.2.2.2.2.2.1,d.2.2.2.2.2.2.2.2.2⟩ (q7 hm2 (ao3 _)) hm (by omega)))) ?_
    refine z7 (p:=¬ T3.Same (l.cross (F8 0)) p) (fun g=>?_) (fun g=>?_)
    ·have E : l.cross (F8 0) = rq l p 1:=(if_pos ⟨s,nn,g⟩).symm
     exact x7 (cel v0 0 4,cel v0 4 4,cel v0 8 4) hso0 trivial (fun S w _ g=>⟨I4 trivial,E6 ⟨I2 ⟨g.1.2.1.okc,g.1.2.2.1.okc,g.1.2.2.2.okc,trivial⟩,trivial⟩⟩) (fun S w _ g=>have x0:=g.1; ⟨(E ▸ x0.2.1),(E ▸ x0.2.2.1),(E ▸ x0.2.2.2),g⟩)
    have E : rq l p 0 = rq l p 1:=(if_neg fun h=>g h.2.2).symm
    exact x7 (a1,a2,a3) hso0 trivial (fun S w _ g=>⟨I4 trivial,E6 ⟨I2 ⟨g.2.2.2.2.2.2.2.1.okc,g.2.2.2.2.2.2.2.2.1.okc,g.2.2.2.2.2.2.2.2.2.okc,trivial⟩,trivial⟩⟩) (fun S w _ g=>have ha1:=g.2.2.2.2.2.2.2.1; have ha2:=g.2.2.2.2.2.2.2.2.1; have ha3:=g.2.2.2.2.2.2.2.2.2; ⟨(E ▸ ha1),(E ▸ ha2),(E ▸ ha3),g⟩)
   have E : rq l p 0 = rq l p 1:=(if_neg fun h=>nn h.2.1).symm
   exact x7 (a1,a2,a3) hso0 trivial (fun S w _ g=>⟨I4 trivial,E6 ⟨I2 ⟨g.2.2.2.2.2.2.2.1.okc,g.2.2.2.2.2.2.2.2.1.okc,g.2.2.2.2.2.2.2.2.2.okc,trivial⟩,trivial⟩⟩) (fun S w _ g=>have ha1:=g.2.2.2.2.2.2.2.1; have ha2:=g.2.2.2.2.2.2.2.2.1; have ha3:=g.2.2.2.2.2.2.2.2.2; ⟨(E ▸ ha1),(E ▸ ha2),(E ▸ ha3),g⟩)
  have E : rq l p 0 = rq l p 1:=(if_neg fun h=>s h.1).symm
  exact x7 (a1,a2,a3) hso0 trivial (fun S w _ g=>⟨I4 trivial,E6 ⟨I2 ⟨g.2.2.2.2.2.2.2.1.okc,g.2.2.2.2.2.2.2.2.1.okc,g.2.2.2.2.2.2.2.2.2.okc,trivial⟩,trivial⟩⟩) (fun S w _ g=>have ha1:=g.2.2.2.2.2.2.2.1; have ha2:=g.2.2.2.2.2.2.2.2.1; have ha3:=g.2.2.2.2.2.2.2.2.2; ⟨(E ▸ ha1),(E ▸ ha2),(E ▸ ha3),g⟩)
 refine i1 ?_
 refine o6 4 qG (0 : Rat) (fun _ S w g _ _ _=>(kx (Z5 g))) ?_
 intro w10
 refine i1 ?_
 refine o6 4 qG (0 : Rat) (fun _ S w g _ _ _=>(kx (Z5 g))) ?_
 intro w11
 refine i1 ?_
 refine o6 4 qG (0 : Rat) (fun _ S w g _ _ _=>(kx (Z5 g))) ?_
 intro w12
 refine i1 ?_
 refine o6 4 qG (1 : Rat) (fun _ S w g _ _ _=>(kx (ak3 g))) ?_
 intro y1
 refine ah1 (fun x0=>.agg [.ag 4 (cel x0 0 4),.ag 4 (cel x0 4 4),.ag 4 (cel x0 8 4)]) (fun x0=>ae0 x0 (l.cross (F8 1))) (fun _ _ _ h=>aa7 h) (fun _ S w g _ _ d=>have h:=d.2.2.2.2.2.2.2.2.2.2.2.2.1; (kx ((E8 (q:=F8 1) g d.2.2.2.2.2.2.2.2.2.2.2.2.2.1 ⟨w10,y1,w12,rfl,d.2.2.2.1,d.1,d.2.1⟩ hm2 (ao3 _) (by omega)).mono fun v' w' h=>⟨h.1,bn5 h.2⟩))) ?_
 intro v1
 refine n9 (.one (.tp (T3.Same (rq l p 1) p))) rfl (fun _ S w g _ _ d=>(kx (H3 g ⟨_,_,_,rfl,d.2.2.2.2.2.1,d.2.2.2.2.2.2.1,d.2.2.2.2.2.2.2.1⟩ ⟨_,_,_,rfl,d.2.2.2.2.2.2.2.2.2.2.2.2.2.2.2.1,d.2.2.2.2.2.2.2.2.2.2.2.2.2.2.2.2.1,d.2.2.2.2.2.2.2.2.2.2.2.2.2.2.2.2.2⟩ (Q 1) hm (by omega)))) ?_
 refine ac3 (ι:=Value × Value × Value) 0 1 [(34,48)] (fun X2=>[]) (fun X2=>[(4,.blk 39 [.ag 4 X2.1,.ag 4 X2.2.1,.ag 4 X2.2.2])]) (fun X2 g=>(qG X2.1 (rq l p 2).x).and ((qG X2.2.1 (rq l p 2).y).and ((qG X2.2.2 (rq l p 2).z).and g))) (fun X2=>True) ⟨c8,hS,l8⟩ (by kernel_rfl) (by kernel_rfl) (fun hso0=>?_) (fun X2 hX2=>?_)
 ·refine O8 (p:=T3.Same (rq l p 1) p) 37 (fun s=>?_) (fun s=>?_)
  ·refine n9 (.one (.tp (l.cross (F8 1)).None)) rfl (fun _ S w g _ _ d=>(kx (M8 g ⟨_,_,_,rfl,d.1.2.1,d.1.2.2.1,d.1.2.2.2⟩))) ?_
   refine O8 (p:=¬ (l.cross (F8 1)).None) 42 (fun nn=>?_) (fun nn=>?_)
   ·refine n9 (.one (.tp (T3.Same (l.cross (F8 1)) p))) rfl (fun _ S w g _ _ d=>(kx (H3 g ⟨_,_,_,rfl,d.1.2.1,d.1.2.2.1,d.1.2.2.2⟩ ⟨_,_,_,rfl,d.2.2.2.2.2.2.2.2.2.2.2.2.2.2.2.1,d.2.2.2.2.2.2.2.2.2.2.2.2.2.2.2.2.1,d.2.2.2.2.2.2.2.2.2.2.2.2.2.2.2.2.2⟩ (q7 hm2 (ao3 _)) hm (by omega)))) ?_
    refine z7 (p:=¬ T3.Same (l.cross (F8 1)) p) (fun g=>?_) (fun g=>?_)
    ·have E : l.cross (F8 1) = rq l p 2:=(if_pos ⟨s,nn,g⟩).symm
     exact x7 (cel v1 0 4,cel v1 4 4,cel v1 8 4) hso0 trivial (fun S w _ g=>⟨I4 trivial,E6 ⟨I2 ⟨g.1.2.1.okc,g.1.2.2.1.okc,g.1.2.2.2.okc,trivial⟩,trivial⟩⟩) (fun S w _ g=>have x1:=g.1; ⟨(E ▸ x1.2.1),(E ▸ x1.2.2.1),(E ▸ x1.2.2.2),g⟩)
    have E : rq l p 1 = rq l p 2:=(if_neg fun h=>g h.2.2).symm
    exact x7 X1 hso0 trivial (fun S w _ g=>⟨I4 trivial,E6 ⟨I2 ⟨g.2.2.2.2.2.1.okc,g.2.2.2.2.2.2.1.okc,g.2.2.2.2.2.2.2.1.okc,trivial⟩,trivial⟩⟩) (fun S w _ g=>have hx1:=g.2.2.2.2.2.1; have hy1:=g.2.2.2.2.2.2.1; have hz1:=g.2.2.2.2.2.2.2.1; ⟨(E ▸ hx1),(E ▸ hy1),(E ▸ hz1),g⟩)
   have E : rq l p 1 = rq l p 2:=(if_neg fun h=>nn h.2.1).symm
   exact x7 X1 hso0 trivial (fun S w _ g=>⟨I4 trivial,E6 ⟨I2 ⟨g.2.2.2.2.2.1.okc,g.2.2.2.2.2.2.1.okc,g.2.2.2.2.2.2.2.1.okc,trivial⟩,trivial⟩⟩) (fun S w _ g=>have hx1:=g.2.2.2.2.2.1; have hy1:=g.2.2.2.2.2.2.1; have hz1:=g.2.2.2.2.2.2.2.1; ⟨(E ▸ hx1),(E ▸ hy1),(E ▸ hz1),g⟩)
  have E : rq l p 1 = rq l p 2:=(if_neg fun h=>s h.1).symm
  exact x7 X1 hso0 trivial (fun S w _ g=>⟨I4 trivial,E6 ⟨I2 ⟨g.2.2.2.2.2.1.okc,g.2.2.2.2.2.2.1.okc,g.2.2.2.2.2.2.2.1.okc,trivial⟩,trivial⟩⟩) (fun S w _ g=>have hx1:=g.2.2.2.2.2.1; have hy1:=g.2.2.2.2.2.2.1; have hz1:=g.2.2.2.2.2.2.2.1; ⟨(E ▸ hx1),(E ▸ hy1),(E ▸ hz1),g⟩)
 refine i1 ?_
 refine o6 4 qG (0 : Rat) (fun _ S w g _ _ _=>(kx (Z5 g))) ?_
 intro w20
 refine i1 ?_
 refine o6 4 qG (0 : Rat) (fun _ S w g _ _ _=>(kx (Z5 g))) ?_
 intro w21
 refine i1 ?_
 refine o6 4 qG (0 : Rat) (fun _ S w g _ _ _=>(kx (Z5 g))) ?_
 intro w22
 refine i1 ?_
 refine o6 4 qG (1 : Rat) (fun _ S w g _ _ _=>(kx (ak3 g))) ?_
 intro y2
 refine ah1 (fun x0=>.agg [.ag 4 (cel x0 0 4),.ag 4 (cel x0 4 4),.ag 4 (cel x0 8 4)]) (fun x0=>ae0 x0 (l.cross (F8 2))) (fun _ _ _ h=>aa7 h) (fun _ S w g _ _ d=>have h:=d.2.2.2.2.2.2.2.2.2.2.2.2.2.2.2.2.2.2.2.2.1; (kx ((E8 (q:=F8 2) g d.2.2.2.2.2.2.2.2.2.2.2.2.2.2.2.2.2.2.2.2.2.1 ⟨w20,w21,y2,rfl,d.2.2.2.1,d.2.2.1,d.1⟩ hm2 (ao3 _) (by omega)).mono fun v' w' h=>⟨h.1,bn5 h.2⟩))) ?_
 intro v2
 refine n9 (.one (.tp (T3.Same (rq l p 2) p))) rfl (fun _ S w g _ _ d=>(kx (H3 g ⟨_,_,_,rfl,d.2.2.2.2.2.1,d.2.2.2.2.2.2.1,d.2.2.2.2.2.2.2.1⟩ ⟨_,_,_,rfl,d.2.2.2.2.2.2.2.2.2.2.2.2.2.2.2.2.2.2.2.2.2.2.2.1,d.2.2.2.2.2.2.2.2.2.2.2.2.2.2.2.2.2.2.2.2.2.2.2.2.1,d.2.2.2.2.2.2.2.2.2.2.2.2.2.2.2.2.2.2.2.2.2.2.2.2.2⟩ (Q 2) hm (by omega)))) ?_
 refine ac3 (ι:=Value × Value × Value) 0 1 [(34,48)] (fun X3=>[]) (fun X3=>[(4,.blk 39 [.ag 4 X3.1,.ag 4 X3.2.1,.ag 4 X3.2.2])]) (fun X3 g=>(qG X3.1 (rq l p 3).x).and ((qG X3.2.1 (rq l p 3).y).and ((qG X3.2.2 (rq l p 3).z).and g))) (fun X3=>True) ⟨c8,hS,l8⟩ (by kernel_rfl) (by kernel_rfl) (fun hso0=>?_) (fun X3 hX3=>?_)
 ·refine O8 (p:=T3.Same (rq l p 2) p) 37 (fun s=>?_) (fun s=>?_)
  ·refine n9 (.one (.tp (l.cross (F8 2)).None)) rfl (fun _ S w g _ _ d=>(kx (M8 g ⟨_,_,_,rfl,d.1.2.1,d.1.2.2.1,d.1.2.2.2⟩))) ?_
   refine O8 (p:=¬ (l.cross (F8 2)).None) 42 (fun nn=>?_) (fun nn=>?_)
   ·refine n9 (.one (.tp (T3.Same (l.cross (F8 2)) p))) rfl (fun _ S w g _ _ d=>(kx (H3 g ⟨_,_,_,rfl,d.1.2.1,d.1.2.2.1,d.1.2.2.2⟩ ⟨_,_,_,rfl,d.2.2.2.2.2.2.2.2.2.2.2.2.2.2.2.2.2.2.2.2.2.2.2.1,d.2.2.2.2.2.2.2.2.2.2.2.2.2.2.2.2.2.2.2.2.2.2.2.2.1,d.2.2.2.2.2.2.2.2.2.2.2.2.2.2.2.2.2.2.2.2.2.2.2.2.2⟩ (q7 hm2 (ao3 _)) hm (by omega)))) ?_
    refine z7 (p:=¬ T3.Same (l.cross (F8 2)) p) (fun g=>?_) (fun g=>?_)
    ·have E : l.cross (F8 2) = rq l p 3:=(if_pos ⟨s,nn,g⟩).symm
     exact x7 (cel v2 0 4,cel v2 4 4,cel v2 8 4) hso0 trivial (fun S w _ g=>⟨I4 trivial,E6 ⟨I2 ⟨g.1.2.1.okc,g.1.2.2.1.okc,g.1.2.2.2.okc,trivial⟩,trivial⟩⟩) (fun S w _ g=>have x2:=g.1; ⟨(E ▸ x2.2.1),(E ▸ x2.2.2.1),(E ▸ x2.2.2.2),g⟩)
    have E : rq l p 2 = rq l p 3:=(if_neg fun h=>g h.2.2).symm
    exact x7 X2 hso0 trivial (fun S w _ g=>⟨I4 trivial,E6 ⟨I2 ⟨g.2.2.2.2.2.1.okc,g.2.2.2.2.2.2.1.okc,g.2.2.2.2.2.2.2.1.okc,trivial⟩,trivial⟩⟩) (fun S w _ g=>have hx2:=g.2.2.2.2.2.1; have hy2:=g.2.2.2.2.2.2.1; have hz2:=g.2.2.2.2.2.2.2.1; ⟨(E ▸ hx2),(E ▸ hy2),(E ▸ hz2),g⟩)
   have E : rq l p 2 = rq l p 3:=(if_neg fun h=>nn h.2.1).symm
   exact x7 X2 hso0 trivial (fun S w _ g=>⟨I4 trivial,E6 ⟨I2 ⟨g.2.2.2.2.2.1.okc,g.2.2.2.2.2.2.1.okc,g.2.2.2.2.2.2.2.1.okc,trivial⟩,trivial⟩⟩) (fun S w _ g=>have hx2:=g.2.2.2.2.2.1; have hy2:=g.2.2.2.2.2.2.1; have hz2:=g.2.2.2.2.2.2.2.1; ⟨(E ▸ hx2),(E ▸ hy2),(E ▸ hz2),g⟩)
  have E : rq l p 2 = rq l p 3:=(if_neg fun h=>s h.1).symm
  exact x7 X2 hso0 trivial (fun S w _ g=>⟨I4 trivial,E6 ⟨I2 ⟨g.2.2.2.2.2.1.okc,g.2.2.2.2.2.2.1.okc,g.2.2.2.2.2.2.2.1.okc,trivial⟩,trivial⟩⟩) (fun S w _ g=>have hx2:=g.2.2.2.2.2.1; have hy2:=g.2.2.2.2.2.2.1; have hz2:=g.2.2.2.2.2.2.2.1; ⟨(E ▸ hx2),(E ▸ hy2),(E ▸ hz2),g⟩)
 refine i1 ?_
 refine a8 6 ?_
 refine a6 2 ?_
 refine f4 12 l7 (k.mat.apply p) (fun _ _ S w g _ _ d _=>(kx (bm8 g d.2.2.2.2.2.2.2.2.2.2.2.2.2.2.2.2.2.2.2.2.2.2.2.2.1 ⟨_,_,_,rfl,d.2.2.2.2.2.2.2.2.2.2.2.2.2.2.2.2.2.2.2.2.2.2.2.2.2.2.1,d.2.2.2.2.2.2.2.2.2.2.2.2.2.2.2.2.2.2.2.2.2.2.2.2.2.2.2.1,d.2.2.2.2.2.2.2.2.2.2.2.2.2.2.2.2.2.2.2.2.2.2.2.2.2.2.2.2⟩ hl hm (by omega)))) ?_
 refine a6 1 ?_
 refine f4 4 qG (k.bl p (rq l p 3)) (fun _ g S w d _ _ s t=>(kx (S7 d (j8 t 2 : (l7 (g 2) (k.mat.apply p)).p S w) ⟨_,_,_,rfl,s.1,s.2.1,s.2.2.1⟩ (Q7 M hm) (Q 3) (by omega)))) ?_
 refine a6 1 ?_
 refine H5 1 (gk (gk (gk (gd (gd (gd (gd (gd (gd (gd (gd (gd (gd (gd (gd (gd (gd (gd (gd (gd (gd (gd (gd (gd (gk (gd g0)))))))))))))))))))))))))) (fun g d=>(qG (d 4) (k.bl p (rq l p 3))).and g) (by kernel_rfl) (fun g _=>(by kernel_rfl)) ?_
 intro η_1
 refine a8 6 ?_
 refine a6 2 ?_
 refine f4 12 l7 (k.mat.apply (rq l p 3)) (fun _ _ S w g _ _ d _=>(kx (bm8 g d.2.2.2.2.1 ⟨_,_,_,rfl,d.2.1,d.2.2.1,d.2.2.2.1⟩ hl (Q 3) (by omega)))) ?_
 refine a6 1 ?_
 refine f4 4 qG (k.bl (rq l p 3) (rq l p 3)) (fun _ g S w d _ _ s t=>(kx (S7 d (j8 t 2 : (l7 (g 2) (k.mat.apply (rq l p 3))).p S w) ⟨_,_,_,rfl,s.2.1,s.2.2.1,s.2.2.2.1⟩ (Q7 M (Q 3)) (Q 3) (by omega)))) ?_
 refine a6 1 ?_
 refine b6 1 (fun g d=>(qG (d 4) (k.bl (rq l p 3) (rq l p 3))).and g) (fun g _=>(by kernel_rfl)) ?_
 intro η_2
 refine i1 ?_
 refine a8 14 ?_
 refine a6 5 ?_
 refine f4 4 qG (k.bl (rq l p 3) (rq l p 3) * p.x) (fun _ _ S w g _ _ d _=>(kx (s8 g d.1 d.2.2.2.2.2.2.1 (f5 B2) (f5 hm.1)))) ?_
 refine f4 4 qG (2 : Rat) (fun _ _ S w g _ _ _ _=>(kx (b33 g))) ?_
 refine a6 1 ?_
 refine f4 4 qG (2 * k.bl p (rq l p 3)) (fun _ g S w d _ _ s t=>(kx (s8 d (j8 t 6 : (qG (g 6) (2 : Rat)).p S w) s.2.1 (E7 az5 (by decide)) (f5 B1)))) ?_
 refine a6 3 ?_
 refine f4 4 qG (2 * k.bl p (rq l p 3) * (rq l p 3).x) (fun _ g S w d _ _ s t=>(kx (s8 d (j8 t 8 : (qG (g 8) (2 * k.bl p (rq l p 3))).p S w) s.2.2.1 (f5 B3) (f5 (Q 3).1)))) ?_
 refine f4 4 qG (k.bl (rq l p 3) (rq l p 3) * p.x - 2 * k.bl p (rq l p 3) * (rq l p 3).x) (fun _ g S w d _ _ _ s=>(kx (am4 d (j8 s 5 : (qG (g 5) (k.bl (rq l p 3) (rq l p 3) * p.x)).p S w) (j8 s 12 : (qG (g 12) (2 * k.bl p (rq l p 3) * (rq l p 3).x)).p S w) (f5 (r5 B2 hm.1)) (f5 (r5 B3 (Q 3).1))))) ?_
 refine b6 1 (fun g d=>(qG (d 13) (k.bl (rq l p 3) (rq l p 3) * p.x - 2 * k.bl p (rq l p 3) * (rq l p 3).x)).and g) (fun g _=>(by kernel_rfl)) ?_
 intro η_3
 refine i1 ?_
 refine a8 14 ?_
 refine a6 5 ?_
 refine f4 4 qG (k.bl (rq l p 3) (rq l p 3) * p.y) (fun _ _ S w g _ _ d _=>(kx (s8 g d.2.1 d.2.2.2.2.2.2.2.2.1 (f5 B2) (f5 hm.2.1)))) ?_
 refine f4 4 qG (2 : Rat) (fun _ _ S w g _ _ _ _=>(kx (b33 g))) ?_
 refine a6 1 ?_
 refine f4 4 qG (2 * k.bl p (rq l p 3)) (fun _ g S w d _ _ s t=>(kx (s8 d (j8 t 6 : (qG (g 6) (2 : Rat)).p S w) s.2.2.1 (E7 az5 (by decide)) (f5 B1)))) ?_
 refine a6 3 ?_
 refine f4 4 qG (2 * k.bl p (rq l p 3) * (rq l p 3).y) (fun _ g S w d _ _ s t=>(kx (s8 d (j8 t 8 : (qG (g 8) (2 * k.bl p (rq l p 3))).p S w) s.2.2.2.2.1 (f5 B3) (f5 (Q 3).2.1)))) ?_
 refine f4 4 qG (k.bl (rq l p 3) (rq l p 3) * p.y - 2 * k.bl p (rq l p 3) * (rq l p 3).y) (fun _ g S w d _ _ _ s=>(kx (am4 d (j8 s 5 : (qG (g 5) (k.bl (rq l p 3) (rq l p 3) * p.y)).p S w) (j8 s 12 : (qG (g 12) (2 * k.bl p (rq l p 3) * (rq l p 3).y)).p S w) (f5 (r5 B2 hm.2.1)) (f5 (r5 B3 (Q 3).2.1))))) ?_
 refine b6 1 (fun g d=>(qG (d 13) (k.bl (rq l p 3) (rq l p 3) * p.y - 2 * k.bl p (rq l p 3) * (rq l p 3).y)).and g) (fun g _=>(by kernel_rfl)) ?_
 intro η_4
 refine i1 ?_
 refine a8 14 ?_
 refine a6 5 ?_
 refine f4 4 qG (k.bl (rq l p 3) (rq l p 3) * p.z) (fun _ _ S w g _ _ d _=>(kx (s8 g d.2.2.1 d.2.2.2.2.2.2.2.2.2.2 (f5 B2) (f5 hm.2.2)))) ?_
 refine f4 4 qG (2 : Rat) (fun _ _ S w g _ _ _ _=>(kx (b33 g))) ?_
 refine a6 1 ?_
 refine f4 4 qG (2 * k.bl p (rq l p 3)) (fun _ g S w d _ _ s t=>(kx (s8 d (j8 t 6 : (qG (g 6) (2 : Rat)).p S w) s.2.2.2.1 (E7 az5 (by decide)) (f5 B1)))) ?_
 refine a6 3 ?_
 refine f4 4 qG (2 * k.bl p (rq l p 3) * (rq l p 3).z) (fun _ g S w d _ _ s t=>(kx (s8 d (j8 t 8 : (qG (g 8) (2 * k.bl p (rq l p 3))).p S w) s.2.2.2.2.2.2.1 (f5 B3) (f5 (Q 3).2.2)))) ?_
 refine f4 4 qG (k.bl (rq l p 3) (rq l p 3) * p.z - 2 * k.bl p (rq l p 3) * (rq l p 3).z) (fun _ g S w d _ _ _ s=>(kx (am4 d (j8 s 5 : (qG (g 5) (k.bl (rq l p 3) (rq l p 3) * p.z)).p S w) (j8 s 12 : (qG (g 12) (2 * k.bl p (rq l p 3) * (rq l p 3).z)).p S w) (f5 (r5 B2 hm.2.2)) (f5 (r5 B3 (Q 3).2.2))))) ?_
 refine b6 1 (fun g d=>(qG (d 13) (k.bl (rq l p 3) (rq l p 3) * p.z - 2 * k.bl p (rq l p 3) * (rq l p 3).z)).and g) (fun g _=>(by kernel_rfl)) ?_
 intro η_5
 refine i1 ?_
 have E : k.sec p (rq l p 3) = ⟨k.bl (rq l p 3) (rq l p 3) * p.x - 2 * k.bl p (rq l p 3) * (rq l p 3).x,k.bl (rq l p 3) (rq l p 3) * p.y - 2 * k.bl p (rq l p 3) * (rq l p 3).y,k.bl (rq l p 3) (rq l p 3) * p.z - 2 * k.bl p (rq l p 3) * (rq l p 3).z⟩:=by unfold C6.sec; ext <;> simp only [T3.lin] <;> grind
 exact j9 (a42 (η_3 13) (η_4 13) (η_5 13)) rfl (fun S w g d s=>⟨d,by rw [E]; exact ⟨_,_,_,rfl,s.2.2.1.mono fun k _ hk=>g k hk,s.2.1.mono fun k _ hk=>g k hk,s.1.mono fun k _ hk=>g k hk⟩⟩)
def ai4 : List Value:=[.bool false,.slice none 0 0,.bool false,.slice none 0 0,.bool false,.slice none 0 0,.bool false,.slice none 0 0,.bool false,.slice none 0 0,.bool false,.slice none 0 0]
abbrev rhG (v : Value) (s : Six6) : Gh:=⟨fun S w=>v = .tuple #[O3 v 0,.bool (tst s.Ok)] ∧ (SV.one (.ag 12 (O3 v 0))).Ok 0 ∧ (s.Ok → QTripV S w (O3 v 0) s.rline),fun h k=>⟨h.1,h.2.1,fun g=>(h.2.2 g).keep k⟩,fun h k=>⟨h.1,h.2.1,fun g=>(h.2.2 g).mono k⟩⟩
theorem Y2 (n : ¬ s.Ok) : (rhG (.tuple #[.agg ai4.toArray,.bool false]) s).p S w:=⟨by rw [j2 n]; rfl,⟨ai4,rfl,rfl,by decide⟩,fun g=>absurd g n⟩
theorem ck3 (g : s.Ok) (h : QTripV S w x s.rline) : (rhG (.tuple #[x,.bool true]) s).p S w:=⟨by rw [j6 g]; rfl,h.ok,fun _=>h⟩
theorem ff2 {α : Type} {g : Bool} {s : Nat} {F : Value → α → Gh} : ElsV g s F S w [] ([] : List α):=⟨rfl,(fun x h=>(nomatch h)),(fun i q x hq hx=>by simp at hq)⟩
theorem d65 {v0 v1 v2 v3 v4 v5 : Value} {k : Nat} (hS : Up S w) (h0 : QTripV S w v0 s.p0) (h1 : QTripV S w v1 s.p1) (h2 : QTripV S w v2 s.p2) (h3 : QTripV S w v3 s.p3) (h4 : QTripV S w v4 s.p4) (h5 : QTripV S w v5 s.p5) (hk : s.Few k) (hk2 : k ≤ 100) :
  Gives prog 27 [(SV.agg [.ag 12 v0,.ag 12 v1,.ag 12 v2,.ag 12 v3,.ag 12 v4,.ag 12 v5]).den fun _=>0] w fun v' w'=>Ext w w' ∧ (rhG v' s).p S w':=by
 have M0:=q7 (q7 hk.t0 hk.t1) (q7 hk.t3 hk.t4)
 have M1:=q7 (q7 hk.t1 hk.t2) (q7 hk.t4 hk.t5)
 have M2:=q7 (q7 hk.t2 hk.t3) (q7 hk.t5 hk.t0)
 refine n4 (E:=env) (S0:=S) (G:=((l7 v0 s.p0).and ((l7 v1 s.p1).and ((l7 v2 s.p2).and ((l7 v3 s.p3).and ((l7 v4 s.p4).and (l7 v5 s.p5))))))) (l:=[.agg [.ag 12 v0,.ag 12 v1,.ag 12 v2,.ag 12 v3,.ag 12 v4,.ag 12 v5]]) func27 rfl rfl rfl ⟨I1 ⟨h0.ok,h1.ok,h2.ok,h3.ok,h4.ok,h5.ok,trivial⟩,trivial⟩ rfl ⟨h0,h1,h2,h3,h4,h5⟩ ?_
 refine fa4 (T:=39) (s:=12) ?_
 refine i1 ?_
 refine a8 6 ?_
 refine a6 6 ?_
 refine b6 0 (fun g _=>g) (fun g _=>(by kernel_rfl)) ?_
 intro η_1
 refine n9 (.one (.tp (T3.Same s.p1 s.p0))) rfl (fun _ S w g _ _ d=>(kx (H3 g d.2.1 d.1 hk.t1 hk.t0 (by omega)))) ?_
 refine z7 (p:=T3.Same s.p1 s.p0) (fun e01=>?_) (fun e01=>?_)
 ·exact j9 (.tuple #[.agg ai4.toArray,.bool false]) rfl (fun S w _ d _=>⟨d,Y2 fun g=>g.d01 e01⟩)
 refine i1 ?_
 refine a8 6 ?_
 refine a6 6 ?_
 refine b6 0 (fun g _=>g) (fun g _=>(by kernel_rfl)) ?_
 intro η_2
 refine n9 (.one (.tp (T3.Same s.p2 s.p0))) rfl (fun _ S w g _ _ d=>(kx (H3 g d.2.2.1 d.1 hk.t2 hk.t0 (by omega)))) ?_
 refine z7 (p:=T3.Same s.p2 s.p0) (fun e02=>?_) (fun e02=>?_)
 ·exact j9 (.tuple #[.agg ai4.toArray,.bool false]) rfl (fun S w _ d _=>⟨d,Y2 fun g=>g.d02 e02⟩)
 refine i1 ?_
 refine a8 6 ?_
 refine a6 6 ?_
 refine b6 0 (fun g _=>g) (fun g _=>(by kernel_rfl)) ?_
 intro η_3
 refine n9 (.one (.tp (T3.Same s.p2 s.p1))) rfl (fun _ S w g _ _ d=>(kx (H3 g d.2.2.1 d.2.1 hk.t2 hk.t1 (by omega)))) ?_
 refine z7 (p:=T3.Same s.p2 s.p1) (fun e12=>?_) (fun e12=>?_)
 ·exact j9 (.tuple #[.agg ai4.toArray,.bool false]) rfl (fun S w _ d _=>⟨d,Y2 fun g=>g.d12 e12⟩)
 refine i1 ?_
 refine a8 6 ?_
 refine a6 6 ?_
 refine b6 0 (fun g _=>g) (fun g _=>(by kernel_rfl)) ?_
 intro η_4
 refine n9 (.one (.tp (T3.Same s.p3 s.p0))) rfl (fun _ S w g _ _ d=>(kx (H3 g d.2.2.2.1 d.1 hk.t3 hk.t0 (by omega)))) ?_
 refine z7 (p:=T3.Same s.p3 s.p0) (fun e03=>?_) (fun e03=>?_)
 ·exact j9 (.tuple #[.agg ai4.toArray,.bool false]) rfl (fun S w _ d _=>⟨d,Y2 fun g=>g.d03 e03⟩)
 refine i1 ?_
 refine a8 6 ?_
 refine a6 6 ?_
 refine b6 0 (fun g _=>g) (fun g _=>(by kernel_rfl)) ?_
 intro η_5
 refine n9 (.one (.tp (T3.Same s.p3 s.p1))) rfl (fun _ S w g _ _ d=>(kx (H3 g d.2.2.2.1 d.2.1 hk.t3 hk.t1 (by omega)))) ?_
 refine z7 (p:=T3.Same s.p3 s.p1) (fun e13=>?_) (fun e13=>?_)
 ·exact j9 (.tuple #[.agg ai4.toArray,.bool false]) rfl (fun S w _ d _=>⟨d,Y2 fun g=>g.d13 e13⟩)
 refine i1 ?_
 refine a8 6 ?_
 refine a6 6 ?_
 refine b6 0 (fun g _=>g) (fun g _=>(by kernel_rfl)) ?_
 intro η_6
 refine n9 (.one (.tp (T3.Same s.p3 s.p2))) rfl (fun _ S w g _ _ d=>(kx (H3 g d.2.2.2.1 d.2.2.1 hk.t3 hk.t2 (by omega)))) ?_
 refine z7 (p:=T3.Same s.p3 s.p2) (fun e23=>?_) (fun e23=>?_)
 ·exact j9 (.tuple #[.agg ai4.toArray,.bool false]) rfl (fun S w _ d _=>⟨d,Y2 fun g=>g.d23 e23⟩)
 refine i1 ?_
 refine a8 6 ?_
 refine a6 6 ?_
 refine b6 0 (fun g _=>g) (fun g _=>(by kernel_rfl)) ?_
 intro η_7
 refine n9 (.one (.tp (T3.Same s.p4 s.p0))) rfl (fun _ S w g _ _ d=>(kx (H3 g d.2.2.2.2.1 d.1 hk.t4 hk.t0 (by omega)))) ?_
 refine z7 (p:=T3.Same s.p4 s.p0) (fun e04=>?_) (fun e04=>?_)
 ·exact j9 (.tuple #[.agg ai4.toArray,.bool false]) rfl (fun S w _ d _=>⟨d,Y2 fun g=>g.d04 e04⟩)
 refine i1 ?_
 refine a8 6 ?_
 refine a6 6 ?_
 refine b6 0 (fun g _=>g) (fun g _=>(by kernel_rfl)) ?_
 intro η_8
 refine n9 (.one (.tp (T3.Same s.p4 s.p1))) rfl (fun _ S w g _ _ d=>(kx (H3 g d.2.2.2.2.1 d.2.1 hk.t4 hk.t1 (by omega)))) ?_
 refine z7 (p:=T3.Same s.p4 s.p1) (fun e14=>?_) (fun e14=>?_)
 ·exact j9 (.tuple #[.agg ai4.toArray,.bool false]) rfl (fun S w _ d _=>⟨d,Y2 fun g=>g.d14 e14⟩)
 refine i1 ?_
 refine a8 6 ?_
 refine a6 6 ?_
 refine b6 0 (fun g _=>g) (fun g _=>(by kernel_rfl)) ?_
 intro η_9
 refine n9 (.one (.tp (T3.Same s.p4 s.p2))) rfl (fun _ S w g _ _ d=>(kx (H3 g d.2.2.2.2.1 d.2.2.1 hk.t4 hk.t2 (by omega)))) ?_
 refine z7 (p:=T3.Same s.p4 s.p2) (fun e24=>?_) (fun e24=>?_)
 ·exact j9 (.tuple #[.agg ai4.toArray,.bool false]) rfl (fun S w _ d _=>⟨d,Y2 fun g=>g.d24 e24⟩)
 refine i1 ?_
 refine a8 6 ?_
 refine a6 6 ?_
 refine b6 0 (fun g _=>g) (fun g _=>(by kernel_rfl)) ?_
 intro η_10
 refine n9 (.one (.tp (T3.Same s.p4 s.p3))) rfl (fun _ S w g _ _ d=>(kx (H3 g d.2.2.2.2.1 d.2.2.2.1 hk.t4 hk.t3 (by omega)))) ?_
 refine z7 (p:=T3.Same s.p4 s.p3) (fun e34=>?_) (fun e34=>?_)
 ·exact j9 (.tuple #[.agg ai4.toArray,.bool false]) rfl (fun S w _ d _=>⟨d,Y2 fun g=>g.d34 e34⟩)
 refine i1 ?_
 refine a8 6 ?_
 refine a6 6 ?_
 refine b6 0 (fun g _=>g) (fun g _=>(by kernel_rfl)) ?_
 intro η_11
 refine n9 (.one (.tp (T3.Same s.p5 s.p0))) rfl (fun _ S w g _ _ d=>(kx (H3 g d.2.2.2.2.2 d.1 hk.t5 hk.t0 (by omega)))) ?_
 refine z7 (p:=T3.Same s.p5 s.p0) (fun e05=>?_) (fun e05=>?_)
 ·exact j9 (.tuple #[.agg ai4.toArray,.bool false]) rfl (fun S w _ d _=>⟨d,Y2 fun g=>g.d05 e05⟩)
 refine i1 ?_
 refine a8 6 ?_
 refine a6 6 ?_
 refine b6 0 (fun g _=>g) (fun g _=>(by kernel_rfl)) ?_
 intro η_12
 refine n9 (.one (.tp (T3.Same s.p5 s.p1))) rfl (fun _ S w g _ _ d=>(kx (H3 g d.2.2.2.2.2 d.2.1 hk.t5 hk.t1 (by omega)))) ?_
 refine z7 (p:=T3.Same s.p5 s.p1) (fun e15=>?_) (fun e15=>?_)
 ·exact j9 (.tuple #[.agg ai4.toArray,.bool false]) rfl (fun S w _ d _=>⟨d,Y2 fun g=>g.d15 e15⟩)
 refine i1 ?_
 refine a8 6 ?_
 refine a6 6 ?_
 refine b6 0 (fun g _=>g) (fun g _=>(by kernel_rfl)) ?_
 intro η_13
 refine n9 (.one (.tp (T3.Same s.p5 s.p2))) rfl (fun _ S w g _ _ d=>(kx (H3 g d.2.2.2.2.2 d.2.2.1 hk.t5 hk.t2 (by omega)))) ?_
 refine z7 (p:=T3.Same s.p5 s.p2) (fun e25=>?_) (fun e25=>?_)
 ·exact j9 (.tuple #[.agg ai4.toArray,.bool false]) rfl (fun S w _ d _=>⟨d,Y2 fun g=>g.d25 e25⟩)
 refine i1 ?_
 refine a8 6 ?_
 refine a6 6 ?_
 refine b6 0 (fun g _=>g) (fun g _=>(by kernel_rfl)) ?_
 intro η_14
 refine n9 (.one (.tp (T3.Same s.p5 s.p3))) rfl (fun _ S w g _ _ d=>(kx (H3 g d.2.2.2.2.2 d.2.2.2.1 hk.t5 hk.t3 (by omega)))) ?_
 refine z7 (p:=T3.Same s.p5 s.p3) (fun e35=>?_) (fun e35=>?_)
 ·exact j9 (.tuple #[.agg ai4.toArray,.bool false]) rfl (fun S w _ d _=>⟨d,Y2 fun g=>g.d35 e35⟩)
 refine i1 ?_
 refine a8 6 ?_
 refine a6 6 ?_
 refine b6 0 (fun g _=>g) (fun g _=>(by kernel_rfl)) ?_
 intro η_15
 refine n9 (.one (.tp (T3.Same s.p5 s.p4))) rfl (fun _ S w g _ _ d=>(kx (H3 g d.2.2.2.2.2 d.2.2.2.2.1 hk.t5 hk.t4 (by omega)))) ?_
 refine z7 (p:=T3.Same s.p5 s.p4) (fun e45=>?_) (fun e45=>?_)
 ·exact j9 (.tuple #[.agg ai4.toArray,.bool false]) rfl (fun S w _ d _=>⟨d,Y2 fun g=>g.d45 e45⟩)
 refine i1 ?_
 refine a8 9 ?_
 refine a6 7 ?_
 refine f4 12 l7 s.l0 (fun _ _ S w g _ _ d _=>(kx (E8 g d.1 d.2.1 hk.t0 hk.t1 (by omega)))) ?_
 refine a6 1 ?_
 refine b6 1 (fun g d=>(l7 (d 7) s.l0).and g) (fun g _=>(by kernel_rfl)) ?_
 intro η_16
 refine a8 11 ?_
 refine a6 9 ?_
 refine f4 12 l7 s.l3 (fun _ _ S w g _ _ d _=>(kx (E8 g d.2.2.2.2.1 d.2.2.2.2.2.1 hk.t3 hk.t4 (by omega)))) ?_
 refine a6 1 ?_
 refine b6 1 (fun g d=>(l7 (d 9) s.l3).and g) (fun g _=>(by kernel_rfl)) ?_
 intro η_17
 refine o6 12 l7 s.m0 (fun _ S w g _ _ d=>(kx (E8 g d.2.1 d.1 (q7 hk.t0 hk.t1) (q7 hk.t3 hk.t4) (by omega)))) ?_
 intro x0
 refine n9 (.one (.tp s.m0.None)) rfl (fun _ S w g _ _ d=>(kx (M8 g d.1))) ?_
 refine z7 (p:=s.m0.None) (fun o0=>?_) (fun o0=>?_)
 ·exact j9 (.tuple #[.agg ai4.toArray,.bool false]) rfl (fun S w _ d _=>⟨d,Y2 fun g=>g.o0 o0⟩)
 refine o7 (de7 (cs:=A7 []) 0 (.slice none 0 0) 0 (.win 6 0 1 1) 39 12 192 1 x0.cells.toList (by kernel_rfl) (by kernel_rfl) ⟨c8,hS,l8⟩ (by decide) (by unfold maxLen; omega) (by omega) (fun _ S w g _ d=>bz5 6 39 g (by kernel_rfl) d.1.ok) ?_)
 intro y0
 refine o7 (ce5 0 39 12 1 y0 (A7 [] ++ x0.cells.toList) (A7 [x0]) (by kernel_rfl) (fun S w _ _=>a87 _ _) ?_)
 refine i1 ?_
 refine a8 9 ?_
 refine a6 7 ?_
 refine f4 12 l7 s.l1 (fun _ _ S w g _ _ d _=>(kx (E8 g d.2.2.2.2.1 d.2.2.2.2.2.1 hk.t1 hk.t2 (by omega)))) ?_
 refine a6 1 ?_
 refine b6 1 (fun g d=>(l7 (d 7) s.l1).and g) (fun g _=>(by kernel_rfl)) ?_
 intro η_18
 refine a8 11 ?_
 refine a6 9 ?_
 refine f4 12 l7 s.l4 (fun _ _ S w g _ _ d _=>(kx (E8 g d.2.2.2.2.2.2.2.2.1 d.2.2.2.2.2.2.2.2.2 hk.t4 hk.t5 (by omega)))) ?_
 refine a6 1 ?_
 refine b6 1 (fun g d=>(l7 (d 9) s.l4).and g) (fun g _=>(by kernel_rfl)) ?_
 intro η_19
 refine o6 12 l7 s.m1 (fun _ S w g _ _ d=>(kx (E8 g d.2.1 d.1 (q7 hk.t1 hk.t2) (q7 hk.t4 hk.t5) (by omega)))) ?_
 intro x1
 refine n9 (.one (.tp s.m1.None)) rfl (fun _ S w g _ _ d=>(kx (M8 g d.1))) ?_
 refine z7 (p:=s.m1.None) (fun o1=>?_) (fun o1=>?_)
 ·exact j9 (.tuple #[.agg ai4.toArray,.bool false]) rfl (fun S w _ d _=>⟨d,Y2 fun g=>g.o1 o1⟩)
 refine o7 (de7 (cs:=A7 [x0]) 0 y0 1 (.win 10 0 1 1) 39 12 192 1 x1.cells.toList (by kernel_rfl) (by kernel_rfl) ⟨c8,hS,l8⟩ (by decide) (by unfold maxLen; omega) (by omega) (fun _ S w g _ d=>bz5 10 39 g (by kernel_rfl) d.1.ok) ?_)
 intro y1
 refine o7 (ce5 0 39 12 2 y1 (A7 [x0] ++ x1.cells.toList) (A7 [x0,x1]) (by kernel_rfl) (fun S w _ _=>a87 _ _) ?_)
 refine i1 ?_
 refine a8 9 ?_
 refine a6 7 ?_
 refine f4 12 l7 s.l2 (fun _ _ S w g _ _ d _=>(kx (E8 g d.2.2.2.2.2.2.2.2.1 d.2.2.2.2.2.2.2.2.2.1 hk.t2 hk.t3 (by omega)))) ?_
 refine a6 1 ?_
 refine b6 1 (fun g d=>(l7 (d 7) s.l2).and g) (fun g _=>(by kernel_rfl)) ?_
 intro η_20
 refine a8 11 ?_
 refine a6 9 ?_
 refine f4 12 l7 s.l5 (fun _ _ S w g _ _ d _=>(kx (E8 g d.2.2.2.2.2.2.2.2.2.2.2.2 d.2.2.2.2.2.2.2.1 hk.t5 hk.t0 (by omega)))) ?_
 refine a6 1 ?_
 refine b6 1 (fun g d=>(l7 (d 9) s.l5).and g) (fun g _=>(by kernel_rfl)) ?_
 intro η_21
 refine o6 12 l7 s.m2 (fun _ S w g _ _ d=>(kx (E8 g d.2.1 d.1 (q7 hk.t2 hk.t3) (q7 hk.t5 hk.t0) (by omega)))) ?_
 intro x2
 refine n9 (.one (.tp s.m2.None)) rfl (fun _ S w g _ _ d=>(kx (M8 g d.1))) ?_
 refine z7 (p:=s.m2.None) (fun o2=>?_) (fun o2=>?_)
 ·exact j9 (.tuple #[.agg ai4.toArray,.bool false]) rfl (fun S w _ d _=>⟨d,Y2 fun g=>g.o2 o2⟩)
 refine o7 (de7 (cs:=A7 [x0,x1]) 0 y1 2 (.win 14 0 1 1) 39 12 192 1 x2.cells.toList (by kernel_rfl) (by kernel_rfl) ⟨c8,hS,l8⟩ (by decide) (by unfold maxLen; omega) (by omega) (fun _ S w g _ d=>bz5 14 39 g (by kernel_rfl) d.1.ok) ?_)
 intro y2
 refine o7 (ce5 0 39 12 3 y2 (A7 [x0,x1] ++ x2.cells.toList) (A7 [x0,x1,x2]) (by kernel_rfl) (fun S w _ _=>a87 _ _) ?_)
 refine i1 ?_
 refine o7 (dw4 0 39 12 3 y2 (A7 [x0,x1,x2]) (by kernel_rfl) ⟨c8,hS,l8⟩  ?_)
 refine o7 (dx1 (dz4 y2 [s.m0,s.m1,s.m2]) (fun _ S w _ _ g=>have m0:=g.2.2.2.2.2.2.2.1; (((ff2 (F:=cm9)).snoc m0.lies m0).snoc g.2.2.2.2.1.lies g.2.2.2.2.1).snoc g.2.1.lies g.2.1 |>.ofRow g.1 rfl) ?_)
 refine a8 9 ?_
 refine a6 1 ?_
 refine Q3 (fun _=>y2) 3 (0 : Int) 39 12 (fun u0=>o8 (u0 = .pointer (some (adr y2 (Int.toNat (0 : Int) * 12))))) (fun _ _ S w _ _ g _=>⟨by omega,by omega,Z8 g.1,rfl⟩) ?_
 refine p7 1 39 12 l7 s.m0 (fun _ g S w _ _ d s=>af0 (i:=0) d.1 (show 0 < 3 by decide) (j8 s 1 : (o8 ((g 1) = .pointer (some (adr y2 (Int.toNat (0 : Int) * 12))))).p S w)) ?_
 refine a6 1 ?_
 refine Q3 (fun _=>y2) 3 (1 : Int) 39 12 (fun u0=>o8 (u0 = .pointer (some (adr y2 (Int.toNat (1 : Int) * 12))))) (fun _ _ S w _ _ g _=>⟨by omega,by omega,Z8 g.1,rfl⟩) ?_
 refine p7 4 39 12 l7 s.m1 (fun _ g S w _ _ d s=>af0 (i:=1) d.1 (show 1 < 3 by decide) (j8 s 4 : (o8 ((g 4) = .pointer (some (adr y2 (Int.toNat (1 : Int) * 12))))).p S w)) ?_
 refine a6 1 ?_
 refine Q3 (fun _=>y2) 3 (2 : Int) 39 12 (fun u0=>o8 (u0 = .pointer (some (adr y2 (Int.toNat (2 : Int) * 12))))) (fun _ _ S w _ _ g _=>⟨by omega,by omega,Z8 g.1,rfl⟩) ?_
 refine p7 7 39 12 l7 s.m2 (fun _ g S w _ _ d s=>af0 (i:=2) d.1 (show 2 < 3 by decide) (j8 s 7 : (o8 ((g 7) = .pointer (some (adr y2 (Int.toNat (2 : Int) * 12))))).p S w)) ?_
 refine b6 21 (fun g d=>(l7 (d 8) s.m2).and ((l7 (d 5) s.m1).and ((l7 (d 2) s.m0).and g))) (fun g _=>(by kernel_rfl)) ?_
 intro η_22
 refine n9 (.one (.tp (T3.Flat s.m0 s.m1 s.m2))) rfl (fun _ S w g _ _ d=>(kx (b03 (m:=2 * (2 * (k + k) + 1 + (2 * (k + k) + 1)) + 1) g d.2.2.1 d.2.1 d.1 M0 M1 M2 (by omega)))) ?_
 refine z7 (p:=¬ T3.Flat s.m0 s.m1 s.m2) (fun nf=>?_) (fun nf=>?_)
 ·exact j9 (.tuple #[.agg ai4.toArray,.bool false]) rfl (fun S w _ d _=>⟨d,Y2 fun g=>nf g.fl⟩)
 have fl : T3.Flat s.m0 s.m1 s.m2:=Classical.not_not.1 nf
 have DD : s.Dist:=⟨e01,e02,e03,e04,e05,e12,e13,e14,e15,e23,e24,e25,e34,e35,e45⟩
 have OK : ¬ (T3.Same s.m0 s.m1 ∧ T3.Same s.m1 s.m2 ∧ T3.Same s.m2 s.m0) → s.Ok:=fun g=>Six6.ok_iff.2 ⟨DD,o0,o1,o2,fl,fun h=>g ((Six6.ns_iff o0).1 h)⟩
 refine i1 ?_
 refine a8 12 ?_
 refine a6 2 ?_
 refine Q3 (fun _=>y2) 3 (0 : Int) 39 12 (fun u0=>o8 (u0 = .pointer (some (adr y2 (Int.toNat (0 : Int) * 12))))) (fun _ _ S w _ _ g _=>⟨by omega,by omega,Z8 g.2.2.2.1,rfl⟩) ?_
 refine p7 2 39 12 l7 s.m0 (fun _ g S w _ _ d s=>af0 (i:=0) d.2.2.2.1 (show _ < 3 by decide) (j8 s 2 : (o8 ((g 2) = .pointer (some (adr y2 (Int.toNat (0 : Int) * 12))))).p S w)) ?_
 refine a6 4 ?_
 refine Q3 (fun _=>y2) 3 (1 : Int) 39 12 (fun u0=>o8 (u0 = .pointer (some (adr y2 (Int.toNat (1 : Int) * 12))))) (fun _ _ S w _ _ g _=>⟨by omega,by omega,Z8 g.2.2.2.1,rfl⟩) ?_
 refine p7 8 39 12 l7 s.m1 (fun _ g S w _ _ d s=>af0 (i:=1) d.2.2.2.1 (show _ < 3 by decide) (j8 s 8 : (o8 ((g 8) = .pointer (some (adr y2 (Int.toNat (1 : Int) * 12))))).p S w)) ?_
 refine f4 12 l7 (s.m0.cross s.m1) (fun _ g S w d _ _ _ t=>(kx (E8 d (j8 t 3 : (l7 (g 3) s.m0).p S w) (j8 t 9 : (l7 (g 9) s.m1).p S w) M0 M1 (by omega)))) ?_
 refine a6 1 ?_
 refine b6 1 (fun g d=>(l7 (d 10) (s.m0.cross s.m1)).and g) (fun g _=>(by kernel_rfl)) ?_
 intro η_23
 refine n9 (.one (.tp (T3.Same s.m0 s.m1))) rfl (fun _ S w g _ _ d=>(kx (M8 g d.1))) ?_
 refine z7 (p:=¬ T3.Same s.m0 s.m1) (fun n0=>?_) (fun n0=>?_)
 ·have E : s.rline = (s.m0.cross s.m1).normal:=by unfold Six6.rline; rw [if_neg n0]
  refine o6 12 l7 s.rline (fun _ S w g _ _ d=>(kx ((aw2 g d.1 (q7 M0 M1) (by omega) n0).mono fun v' w' h=>⟨h.1,E ▸ h.2⟩))) ?_
  intro t0
  exact j9 (.tuple #[t0,.bool true]) rfl (fun S w d s t=>⟨s,ck3 (OK fun g=>n0 g.1) (t.1.mono fun k _ hk=>d k hk)⟩)
 refine i1 ?_
 refine a8 12 ?_
 refine a6 2 ?_
 refine Q3 (fun _=>y2) 3 (1 : Int) 39 12 (fun u0=>o8 (u0 = .pointer (some (adr y2 (Int.toNat (1 : Int) * 12))))) (fun _ _ S w _ _ g _=>⟨by omega,by omega,Z8 g.2.2.2.2.1,rfl⟩) ?_
 refine p7 2 39 12 l7 s.m1 (fun _ g S w _ _ d s=>af0 (i:=1) d.2.2.2.2.1 (show _ < 3 by decide) (j8 s 2 : (o8 ((g 2) = .pointer (some (adr y2 (Int.toNat (1 : Int) * 12))))).p S w)) ?_
 refine a6 4 ?_
 refine Q3 (fun _=>y2) 3 (2 : Int) 39 12 (fun u0=>o8 (u0 = .pointer (some (adr y2 (Int.toNat (2 : Int) * 12))))) (fun _ _ S w _ _ g _=>⟨by omega,by omega,Z8 g.2.2.2.2.1,rfl⟩) ?_
 refine p7 8 39 12 l7 s.m2 (fun _ g S w _ _ d s=>af0 (i:=2) d.2.2.2.2.1 (show _ < 3 by decide) (j8 s 8 : (o8 ((g 8) = .pointer (some (adr y2 (Int.toNat (2 : Int) * 12))))).p S w)) ?_
 refine f4 12 l7 (s.m1.cross s.m2) (fun _ g S w d _ _ _ t=>(kx (E8 d (j8 t 3 : (l7 (g 3) s.m1).p S w) (j8 t 9 : (l7 (g 9) s.m2).p S w) M1 M2 (by omega)))) ?_
 refine a6 1 ?_
 refine b6 1 (fun g d=>(l7 (d 10) (s.m1.cross s.m2)).and g) (fun g _=>(by kernel_rfl)) ?_
 intro η_24
 refine n9 (.one (.tp (T3.Same s.m1 s.m2))) rfl (fun _ S w g _ _ d=>(kx (M8 g d.1))) ?_
 refine z7 (p:=¬ T3.Same s.m1 s.m2) (fun n1=>?_) (fun n1=>?_)
 ·have E : s.rline = (s.m1.cross s.m2).normal:=by unfold Six6.rline; rw [if_pos (Classical.not_not.1 n0),if_neg n1]
  refine o6 12 l7 s.rline (fun _ S w g _ _ d=>(kx ((aw2 g d.1 (q7 M1 M2) (by omega) n1).mono fun v' w' h=>⟨h.1,E ▸ h.2⟩))) ?_
  intro t1
  exact j9 (.tuple #[t1,.bool true]) rfl (fun S w d s t=>⟨s,ck3 (OK fun g=>n1 g.2.1) (t.1.mono fun k _ hk=>d k hk)⟩)
 refine i1 ?_
 refine a8 12 ?_
 refine a6 2 ?_
 refine Q3 (fun _=>y2) 3 (2 : Int) 39 12 (fun u0=>o8 (u0 = .pointer (some (adr y2 (Int.toNat (2 : Int) * 12))))) (fun _ _ S w _ _ g _=>⟨by omega,by omega,Z8 g.2.2.2.2.2.1,rfl⟩) ?_
 refine p7 2 39 12 l7 s.m2 (fun _ g S w _ _ d s=>af0 (i:=2) d.2.2.2.2.2.1 (show _ < 3 by decide) (j8 s 2 : (o8 ((g 2) = .pointer (some (adr y2 (Int.toNat (2 : Int) * 12))))).p S w)) ?_
 refine a6 4 ?_
 refine Q3 (fun _=>y2) 3 (0 : Int) 39 12 (fun u0=>o8 (u0 = .pointer (some (adr y2 (Int.toNat (0 : Int) * 12))))) (fun _ _ S w _ _ g _=>⟨by omega,by omega,Z8 g.2.2.2.2.2.1,rfl⟩) ?_
 refine p7 8 39 12 l7 s.m0 (fun _ g S w _ _ d s=>af0 (i:=0) d.2.2.2.2.2.1 (show _ < 3 by decide) (j8 s 8 : (o8 ((g 8) = .pointer (some (adr y2 (Int.toNat (0 : Int) * 12))))).p S w)) ?_
 refine f4 12 l7 (s.m2.cross s.m0) (fun _ g S w d _ _ _ t=>(kx (E8 d (j8 t 3 : (l7 (g 3) s.m2).p S w) (j8 t 9 : (l7 (g 9) s.m0).p S w) M2 M0 (by omega)))) ?_
 refine a6 1 ?_
 refine b6 1 (fun g d=>(l7 (d 10) (s.m2.cross s.m0)).and g) (fun g _=>(by kernel_rfl)) ?_
 intro η_25
 refine n9 (.one (.tp (T3.Same s.m2 s.m0))) rfl (fun _ S w g _ _ d=>(kx (M8 g d.1))) ?_
 refine z7 (p:=¬ T3.Same s.m2 s.m0) (fun n2=>?_) (fun n2=>?_)
 ·have E : s.rline = (s.m2.cross s.m0).normal:=by unfold Six6.rline; rw [if_pos (Classical.not_not.1 n0),if_pos (Classical.not_not.1 n1)]
  refine o6 12 l7 s.rline (fun _ S w g _ _ d=>(kx ((aw2 g d.1 (q7 M2 M0) (by omega) n2).mono fun v' w' h=>⟨h.1,E ▸ h.2⟩))) ?_
  intro t2
  exact j9 (.tuple #[t2,.bool true]) rfl (fun S w d s t=>⟨s,ck3 (OK fun g=>n2 g.2.2) (t.1.mono fun k _ hk=>d k hk)⟩)
 refine i1 ?_
 exact j9 (.tuple #[.agg ai4.toArray,.bool false]) rfl (fun S w _ d _=>⟨d,Y2 fun g=>(Six6.ok_iff.1 g).2.2.2.2.2 ((Six6.ns_iff o0).2 ⟨Classical.not_not.1 n0,Classical.not_not.1 n1,Classical.not_not.1 n2⟩)⟩)
theorem dl2 (hB : B < 1000000000 ^ 3) (h : z.natAbs ≤ B) : zl z ≤ 3:=G9 (k:=3) (Nat.lt_of_le_of_lt h hB)
theorem d78 (h : si p B) (hB : B < 1000000000 ^ 3) : tl p 3:=by
 obtain ⟨a,b,c,rfl,h1,h2,h3⟩:=h
 have d1 : (1 : Nat) ≤ 3:=by decide
 have e : ∀ {z : Int},z.natAbs ≤ B → rl (z : Rat) 3:=fun h=>⟨dl2 hB h,Nat.le_trans (G9 (k:=1) (show 1 < 1000000000 ^ 1 by decide)) d1⟩
 exact ⟨e h1,e h2,e h3⟩
theorem dg3 (h : si p B) (hB : B < 1000000000 ^ 3) : tl p.normal 3:=by
 obtain ⟨k,a,b,c,h1,h2,h3,h4,h5⟩:=h.sm
 exact aw7 ⟨k,a,b,c,h1,h2,dl2 hB h3,dl2 hB h4,dl2 hB h5⟩ (by decide)
theorem du6 (h : mi m B) (k : B ≤ C) : mi m C:=⟨b27 h.1 k,b27 h.2.1 k,b27 h.2.2 k⟩
theorem d59 {D : Nat} (hk : mi k.mat B) (hp : si p C) (hq : si q D) : si (k.sec p q) (3 * (3 * (B * D) * D) * C + 2 * (3 * (3 * (B * C) * D)) * D):=by
 obtain ⟨z,ez,hz⟩:=bo4 (aa0 hk hq) hq
 obtain ⟨y,ey,hy⟩:=bo4 (aa0 hk hp) hq
 obtain ⟨a,b,c,rfl,h1,h2,h3⟩:=hp
 obtain ⟨a',b',c',rfl,g1,g2,g3⟩:=hq
 have e1 : k.bl ⟨(a' : Rat),(b' : Rat),(c' : Rat)⟩ ⟨(a' : Rat),(b' : Rat),(c' : Rat)⟩ = (z : Rat):=ez
 have e2 : k.bl ⟨(a : Rat),(b : Rat),(c : Rat)⟩ ⟨(a' : Rat),(b' : Rat),(c' : Rat)⟩ = (y : Rat):=ey
 have w : ∀ {u v : Int},u.natAbs ≤ C → v.natAbs ≤ D → (z * u + -(2 * y) * v).natAbs ≤ 3 * (3 * (B * D) * D) * C + 2 * (3 * (3 * (B * C) * D)) * D:=fun {u v} f1 f2=>by
  have q1:=ag8 hz f1
  have q2:=ag8 (show (2 * y).natAbs ≤ 2 * (3 * (3 * (B * C) * D)) by omega) f2
  rw [Int.neg_mul]
  omega
 refine ⟨z * a + -(2 * y) * a',z * b + -(2 * y) * b',z * c + -(2 * y) * c',?_,w h1 g1,w h2 g2,w h3 g3⟩
 unfold C6.sec
 rw [e1,e2]
 simp only [T3.lin,Rat.intCast_add,Rat.intCast_mul,Rat.intCast_neg]
 rfl
theorem dl7 (i : Nat) : si (F8 i) 1:=by unfold F8; split <;> exact ⟨_,_,_,rfl,by decide,by decide,by decide⟩
structure RndD (K : C6) (p l : T3) : Prop where
 lk : cl K 1
 ck : as9 K = 0
 tp : tl p 1
 tL : tl l 1
 bp : M9 p = 0
 bL : M9 l = 0
 tR : ay1 K p l → tl (am3 K p (m6 l p)) 3
 eq : ay1 K p l → am3 K p (m6 l p) = (K.sec p (rq l p 3)).normal
 ts : tl (K.sec p (rq l p 3)) 3
 nn : ay1 K p l → ¬ (K.sec p (rq l p 3)).None
theorem cn0 {K : C6} (lk : cl K 1) (ck : as9 K = 0) (mk : mi K.mat 5832) (sp : si p 225) (sl : si l 4000000) (np : ¬ p.None) (nl : ¬ l.None) : RndD K p l:=by
 have e : rq l p 3 = l.cross (F8 (pick l p)):=fd3 nl np
 have s:=d59 mk sp (show si (rq l p 3) 8000000 by rw [e]; exact au0 sl (dl7 _))
 have eq : ay1 K p l → am3 K p (m6 l p) = (K.sec p (rq l p 3)).normal:=fun h=>by rw [e]; exact cx0 h.1 nl np h.2.1
 exact ⟨lk,ck,sp.tl (by decide),sl.tl (by decide),cg4 sp (by decide) np,cg4 sl (by decide) nl,fun h=>by rw [eq h]; exact dg3 s (by decide),eq,d78 s (by decide),fun h=>by rw [e]; exact cd1 h.1 nl np h.2.1⟩
theorem dq5 {k : Nat} (hk : s.Few k) (g : s.Ok) : s.line = s.rline ∧ s.rline.normal = s.rline ∧ ¬ s.rline.None ∧ tl s.rline (24 * k + 7):=by
 have D : ∀ {p q : T3},¬ T3.Same p q → T3.Like (p.cross q).normal (p.cross q):=fun h=>T3.like_normal h
 have L0 : T3.Like s.l0.normal s.l0:=D fun e=>g.d01 (T3.same_symm e)
 have L1 : T3.Like s.l1.normal s.l1:=D fun e=>g.d12 (T3.same_symm e)
 have L2 : T3.Like s.l2.normal s.l2:=D fun e=>g.d23 (T3.same_symm e)
 have L3 : T3.Like s.l3.normal s.l3:=D fun e=>g.d34 (T3.same_symm e)
 have L4 : T3.Like s.l4.normal s.l4:=D fun e=>g.d45 (T3.same_symm e)
 have L5 : T3.Like s.l5.normal s.l5:=D g.d05
 have N0 : T3.Like s.n0 s.m0:=(D fun e=>g.o0 ((L0.same L3).1 e)).trans (L0.cross L3)
 have N1 : T3.Like s.n1 s.m1:=(D fun e=>g.o1 ((L1.same L4).1 e)).trans (L1.cross L4)
 have N2 : T3.Like s.n2 s.m2:=(D fun e=>g.o2 ((L2.same L5).1 e)).trans (L2.cross L5)
 have e : s.line = s.rline:=Six6.rline_eq N0 N1 N2 g.o0 g.o1 g.ns
 have n:=Six6.line_ne g
 have M0:=aw0 (W8 hk.t0 hk.t1).2 (W8 hk.t3 hk.t4).2
 have M1:=aw0 (W8 hk.t1 hk.t2).2 (W8 hk.t4 hk.t5).2
 have M2:=aw0 (W8 hk.t2 hk.t3).2 (W8 hk.t5 hk.t0).2
 have t : tl s.line (24 * k + 7) ∧ s.line.normal = s.line:=by
  unfold Six6.line at n ⊢
  split
  ·rename_i h
   rw [if_pos h] at n
   exact ⟨bf7 M0.2 M2.2,T3.normal_like (T3.like_normal fun z=>n (T3.normal_none.2 z))⟩
  rename_i h
  rw [if_neg h] at n
  exact ⟨bf7 M0.2 M1.2,T3.normal_like (T3.like_normal fun z=>n (T3.normal_none.2 z))⟩
 exact ⟨e,e ▸ t.2,e ▸ n,e ▸ t.1⟩
noncomputable def ae4 (z : Int) : Int:=IntKind.u64.wrap z % 5 - 2
theorem ca9 (z : Int) : -2 ≤ ae4 z ∧ ae4 z ≤ 2:=by unfold ae4; omega
open Classical in
noncomputable def bp1 (M : M3) (n : Nat → Int) (i : Nat) : T3:=if IntKind.u64.wrap (n 0) % 3 = 0 ∧ i % 2 = 1 then a63 (r7 (n (i + 2))) (ae4 (n i)) 1 else M.apply (onT (n (i + 2)))
noncomputable def d49 (M : M3) (n : Nat → Int) : Six6:=⟨bp1 M n 0,bp1 M n 1,bp1 M n 2,bp1 M n 3,bp1 M n 4,bp1 M n 5⟩
theorem dz6 : ¬ (a63 a b 1).None:=by
 rintro ⟨h1,h2,h3⟩
 have z : ∀ {x : Int},(x : Rat) = 0 → x = 0:=fun h=>by exact_mod_cast h
 have h3':=z h3
 unfold au6 at h3'
 split at h3' <;> cases h3'
theorem b51 (ha : a.natAbs ≤ B) (hb : b.natAbs ≤ B) (h : 1 ≤ B) : si (a63 a b 1) B:=by
 refine ⟨a,b,_,rfl,ha,hb,?_⟩
 unfold au6
 split <;> simpa using h
theorem dp7 {n : Nat → Int} (hM : mi M 3) (hd : M.det ≠ 0) : (d49 M n).Few 1 ∧ ∀ t ∈ (d49 M n).list,M9 t = 0:=by
 have h : ∀ i,si (bp1 M n i) 225 ∧ ¬ (bp1 M n i).None:=fun i=>by
  unfold bp1
  split
  ·have h1:=Y8 (n (i + 2))
   have h2:=ca9 (n i)
   exact ⟨b51 (by omega) (by omega) (by decide),dz6⟩
  exact ⟨aa0 hM (ad9 _),fun g=>dv4 _ ((M3.apply_none hd).1 g)⟩
 have b : ∀ i,M9 (bp1 M n i) = 0:=fun i=>cg4 (h i).1 (by decide) (h i).2
 exact ⟨⟨(h 0).1.tl (by decide),(h 1).1.tl (by decide),(h 2).1.tl (by decide),(h 3).1.tl (by decide),(h 4).1.tl (by decide),(h 5).1.tl (by decide)⟩,fc1 (b 0) (b 1) (b 2) (b 3) (b 4) (b 5)⟩
open Classical in
noncomputable def dx8 (n : Nat → Int) (P Q0 : T3) : T3:=if T3.Same P Q0 then a63 (r7 (n 1)) (r7 (n 2)) 1 else Q0
open Classical in
noncomputable def dy9 (n : Nat → Int) (K : C6) (P Q : T3) : T3:=if ¬ T3.Same P Q ∧ 0 < IntKind.u64.wrap (n 2) % 4 then P.cross Q else K.mat.apply P
structure SecD (M : M3) (n : Nat → Int) (K0 K1 : C6) (P Q0 Q L : T3) : Prop where
 lM : ml M 1
 l0 : cl K0 1
 tP : tl P 1
 tQ0 : tl Q0 1
 tQ : tl Q 1
 r0 : RndD K0 P L
 r1 : RndD K1 P L
theorem dt0 {m n : Nat → Int} (EP : P = (aq9 m).apply (onT (n 0))) (EQ0 : Q0 = (aq9 m).apply (onT (n 1))) (EQ : Q = dx8 n P Q0) (EK : K0 = bo8.moved (aq9 m)) (EL : L = dy9 n K0 P Q) : SecD (aq9 m) n K0 (ae5 f) P Q0 Q L:=by
 have hM:=cq2 m
 have hd:=b70 m
 have sP : si P 225:=EP ▸ aa0 hM (ad9 _)
 have sQ0 : si Q0 225:=EQ0 ▸ aa0 hM (ad9 _)
 have nP : ¬ P.None:=EP ▸ fun g=>dv4 _ ((M3.apply_none hd).1 g)
 have sQ : si Q 225:=by
  rw [EQ]
  unfold dx8
  split
  ·have h1:=Y8 (n 1)
   have h2:=Y8 (n 2)
   exact b51 (by omega) (by omega) (by decide)
  exact sQ0
 have dK : K0.mat.det ≠ 0:=EK ▸ C6.moved_det di9 hd
 have lK : cl K0 1:=EK ▸ db5 cj9 hM (by decide)
 have mK : mi K0.mat 5832:=by rw [EK,C6.mat_moved]; exact du6 (ct4 cj9 hM) (by decide)
 have cK : as9 K0 = 0:=b18 lK (by decide) (b94 dK)
 have sL : si L 4000000 ∧ ¬ L.None:=by
  rw [EL]
  unfold dy9
  split
  ·rename_i h
   exact ⟨b27 (au0 sP sQ) (by decide),h.1⟩
  exact ⟨b27 (aa0 mK sP) (by decide),cj0 dK nP⟩
 exact ⟨d95 hM (by decide),lK,sP.tl (by decide),sQ0.tl (by decide),sQ.tl (by decide),cn0 lK cK mK sP sL.1 nP sL.2,cn0 (c23 f) (db6 f) (du6 (C6.mi_mat (ca6 f)) (by decide)) sP sL.1 nP sL.2⟩
theorem b53 (hS : Up S w) :
  Gives prog 25 [.agg #[.int .i64 (f 0),.int .i64 (f 1),.int .i64 (f 2),.int .i64 (f 3),.int .i64 (f 4),.int .i64 (f 5)]] w fun v' w'=>Ext w w' ∧ QConV S w' v' (ae5 f):=by
 have hi : ∀ i,I63 (r7 (f i)):=fun i=>ac4 (by have:=Y8 (f i); omega)
 have hc : cl (be2 f) 1:=b08 (b04 f) (by decide)
 refine n4 (E:=env) (S0:=S) (G:=Gh.nil) (l:=[.agg [.int .i64 (f 0),.int .i64 (f 1),.int .i64 (f 2),.int .i64 (f 3),.int .i64 (f 4),.int .i64 (f 5)]]) func25 rfl rfl rfl ⟨c20,trivial⟩ rfl trivial ?_
 refine i1 ?_
 refine n9 (.one (.int .i64 (r7 (f 0)))) rfl (fun _ S w g _ _ _=>(kx (B6 g))) ?_
 refine o6 4 qG ((r7 (f 0) : Int) : Rat) (fun _ S w g _ _ _=>(kx (J2 g (hi 0).1 (hi 0).2))) ?_
 intro x0
 refine i1 ?_
 refine n9 (.one (.int .i64 (r7 (f 1)))) rfl (fun _ S w g _ _ _=>(kx (B6 g))) ?_
 refine o6 4 qG ((r7 (f 1) : Int) : Rat) (fun _ S w g _ _ _=>(kx (J2 g (hi 1).1 (hi 1).2))) ?_
 intro x1
 refine i1 ?_
 refine n9 (.one (.int .i64 (r7 (f 2)))) rfl (fun _ S w g _ _ _=>(kx (B6 g))) ?_
 refine o6 4 qG ((r7 (f 2) : Int) : Rat) (fun _ S w g _ _ _=>(kx (J2 g (hi 2).1 (hi 2).2))) ?_
 intro x2
 refine i1 ?_
 refine n9 (.one (.int .i64 (r7 (f 3)))) rfl (fun _ S w g _ _ _=>(kx (B6 g))) ?_
 refine o6 4 qG ((r7 (f 3) : Int) : Rat) (fun _ S w g _ _ _=>(kx (J2 g (hi 3).1 (hi 3).2))) ?_
 intro x3
 refine i1 ?_
 refine n9 (.one (.int .i64 (r7 (f 4)))) rfl (fun _ S w g _ _ _=>(kx (B6 g))) ?_
 refine o6 4 qG ((r7 (f 4) : Int) : Rat) (fun _ S w g _ _ _=>(kx (J2 g (hi 4).1 (hi 4).2))) ?_
 intro x4
 refine i1 ?_
 refine n9 (.one (.int .i64 (r7 (f 5)))) rfl (fun _ S w g _ _ _=>(kx (B6 g))) ?_
 refine o6 4 qG ((r7 (f 5) : Int) : Rat) (fun _ S w g _ _ _=>(kx (J2 g (hi 5).1 (hi 5).2))) ?_
 intro x5
 refine i1 ?_
 refine n9 (.one (.int .i64 (as9 (be2 f)))) rfl (fun _ S w g _ _ d=>(kx (bp0 (k:=be2 f) g ⟨_,_,_,_,_,_,rfl,⟨d.2.2.2.2.2.1,d.2.2.2.2.1,d.2.2.2.1,d.2.2.1,d.2.1,d.1⟩⟩ hc (by decide)))) ?_
 refine z7 (p:=¬ as9 (be2 f) = 0) (fun e=>?_) (fun e=>?_)
 ·refine o6 4 qG (1 : Rat) (fun _ S w g _ _ _=>(kx (ak3 g))) ?_
  intro x6
  have E : ae5 f = { be2 f with a:=1 }:=by unfold ae5; rw [if_neg e]
  exact j9 (df3 x6 x1 x2 x3 x4 x5) rfl (fun S w g d s=>⟨d,by rw [E]; exact ⟨_,_,_,_,_,_,rfl,QConC.mono (k:={ be2 f with a:=1 }) ⟨s.1,s.2.2.2.2.2.1,s.2.2.2.2.1,s.2.2.2.1,s.2.2.1,s.2.1⟩ fun k _ hk=>g k hk⟩⟩)
 have E : ae5 f = be2 f:=by unfold ae5; rw [if_pos (Classical.not_not.1 e)]
 exact j9 (df3 x0 x1 x2 x3 x4 x5) rfl (fun S w g d s=>⟨d,by rw [E]; exact ⟨_,_,_,_,_,_,rfl,QConC.mono (k:=be2 f) ⟨s.2.2.2.2.2.1,s.2.2.2.2.1,s.2.2.2.1,s.2.2.1,s.2.1,s.1⟩ fun k _ hk=>g k hk⟩⟩)
abbrev raS (v : Value) (p : Prop) (e : Int) : SV:=.tup [(true,[.ag 3 (cel (O3 v 0) 0 3),.tp p]),(false,[.int .i64 e])]
abbrev raG (v : Value) (t : Rat) (p : Prop) (e : Int) : Gh:=⟨fun S w=>v = (raS v p e).den (fun _=>0) ∧ RatV S w (cel (O3 v 0) 0 3) t,fun h k=>⟨h.1,h.2.keep k⟩,fun h k=>⟨h.1,h.2.mono k⟩⟩
theorem d91 {p : Prop} {e : Int} (h : (raG v t p e).p S w) : (raS v p e).Ok 0 ∧ (raS v p e).den (fun _=>0) = v:=by
 refine ⟨fun q hq c hc=>?_,h.1.symm⟩
 simp only [List.mem_cons,List.not_mem_nil,or_false] at hq
 rcases hq with rfl | rfl <;> simp only [List.mem_cons,List.not_mem_nil,or_false] at hc
 ·rcases hc with rfl | rfl
  ·exact h.2.okc
  trivial
 subst hc; trivial
theorem fb1 {p : Prop} {e : Int} (h : RatioV S w x t p) : (raG (.tuple #[x,.int .i64 e]) t p e).p S w:=by
 obtain ⟨y,rfl,hy⟩:=h
 obtain ⟨ys,ey,ly,_⟩:=hy.ok
 have e1 : cel ((SV.agg [.ag 3 y,.tp p]).den fun _=>0) 0 3 = y:=by
  subst ey
  simp only [cel,SV.den,d6,Ch.cells,Value.cells,List.flatMap_cons,List.flatMap_nil,List.drop_zero,List.append_nil]
  rw [List.take_append_of_le_length (by simp [ly]),List.take_of_length_le (by simp [ly])]
 show _ ∧ RatV S w (cel ((SV.agg [.ag 3 y,.tp p]).den fun _=>0) 0 3) t
 refine ⟨?_,by rw [e1]; exact hy⟩
 show _ = (SV.tup [(true,[.ag 3 (cel ((SV.agg [.ag 3 y,.tp p]).den fun _=>0) 0 3),.tp p]),(false,[.int .i64 e])]).den fun _=>0
 rw [e1]
 rfl
theorem cu4 {r s : T3} {c : Prop} {E : Int} (hS : Up S w) (hp : TripV S w vp p) (hq : TripV S w vq q) (hr : TripV S w vr r) (hs0 : TripV S w vs s)
  (h0 : ∀ u1 u2 u3 u4 S' w',E = 0 → Up S' w' → Ext w w' → u1.oneCell' = true → u2.oneCell' = true → u3.oneCell' = true → u4.oneCell' = true → (C0 u1 p).p S' w' → (C0 u2 q).p S' w' → (C0 u3 r).p S' w' → (C0 u4 s).p S' w' → Gives prog 139 [u1,u2,u3,u4] w' fun v w''=>Ext w' w'' ∧ RatioV S' w'' v t c)
  (h1 : ∀ u1 u2 u3 u4 S' w',¬ E = 0 → Up S' w' → Ext w w' → u1.oneCell' = true → u2.oneCell' = true → u3.oneCell' = true → u4.oneCell' = true → (C0 u1 p).p S' w' → (C0 u2 q).p S' w' → (C0 u3 r).p S' w' → (C0 u4 s).p S' w' → Pan prog 139 [u1,u2,u3,u4] w' (R5 E)) :
  Gives prog 89 [vp,vq,vr,vs] w fun v' w'=>Ext w w' ∧ ∃ x,v' = .tuple #[x,.bool (tst (E = 0 ∧ c)),.int .i64 E] ∧ RatV S w' x (if E = 0 then t else 0):=by
 refine n4 (E:=env) (S0:=S) (G:=((j5 vp p).and ((j5 vq q).and ((j5 vr r).and (j5 vs s))))) (l:=[.one (.ag 9 vp),.one (.ag 9 vq),.one (.ag 9 vr),.one (.ag 9 vs)]) func89 rfl rfl rfl ⟨hp.ok,hq.ok,hr.ok,hs0.ok,trivial⟩ rfl ⟨hp,hq,hr,hs0⟩ ?_
 refine o7 (N9 0 55 ([.ag 9 vp]) (fun u1=>?_))
 refine o7 (N9 1 55 ([.ag 9 vq]) (fun u2=>?_))
 refine o7 (N9 2 55 ([.ag 9 vr]) (fun u3=>?_))
 refine o7 (N9 3 55 ([.ag 9 vs]) (fun u4=>?_))
 refine ah1 (fun x0=>raS x0 (E = 0 ∧ c) E) (fun x0=>raG x0 (if E = 0 then t else 0) (E = 0 ∧ c) E) (fun _ _ _ h=>d91 h) (fun _ S w g _ d m=>have b2:=m.2.2.1; have b1:=m.2.2.2.1; (kx ((fd6 139 [u1,u2,u3,u4] (t:=t) (p:=c) (E:=E) g (fun e S' w' hS' k' _ hs'=>h0 u1 u2 u3 u4 S' w' e hS' (d.trans k') (J1 b1) (J1 b2) (J1 m.2.1) (J1 m.1) ((C0 u1 p).at' (J7 b1 m.2.2.2.2.1) hs' k') ((C0 u2 q).at' (J7 b2 m.2.2.2.2.2.1) hs' k') ((C0 u3 r).at' (J7 m.2.1 m.2.2.2.2.2.2.1) hs' k') ((C0 u4 s).at' (J7 m.1 m.2.2.2.2.2.2.2) hs' k')) (fun e S' w' hS' k' _ hs'=>h1 u1 u2 u3 u4 S' w' e hS' (d.trans k') (J1 b1) (J1 b2) (J1 m.2.1) (J1 m.1) ((C0 u1 p).at' (J7 b1 m.2.2.2.2.1) hs' k') ((C0 u2 q).at' (J7 b2 m.2.2.2.2.2.1) hs' k') ((C0 u3 r).at' (J7 m.2.1 m.2.2.2.2.2.2.1) hs' k') ((C0 u4 s).at' (J7 m.1 m.2.2.2.2.2.2.2) hs' k'))).mono fun v' w' h=>⟨h.1,by obtain ⟨x,e,hx⟩:=h.2; subst e; exact fb1 hx⟩))) ?_
 intro x
 refine b98 [4] 7 ⟨c8,hS,l8⟩ (by kernel_rfl) (by kernel_rfl) (by kernel_rfl) ?_
 refine a6 5 ?_
 refine d74 (by kernel_rfl) (fun _=>(by kernel_rfl)) ?_
 refine a6 1 ?_
 refine b6 0 (fun g _=>g) (fun g _=>(by kernel_rfl)) ?_
 intro η_1
 exact j9 (.tuple #[cel (O3 x 0) 0 3,.bool (tst (E = 0 ∧ c)),.int .i64 E]) rfl (fun S w g d s=>⟨d,_,rfl,s.1.2.mono fun k _ hk=>g k hk⟩)
theorem cz5 (ht : Tab w) (hS : Up S w) (hp : TripV S w vp P1) (hq : TripV S w vq P2) (hr : TripV S w vr P3) (hs : TripV S w vs P4) :
  Gives prog 89 [vp,vq,vr,vs] w fun v' w'=>Ext w w' ∧ (dr3 v' (1 / 2 : Rat)).p S w':=by
 refine (cu4 (t:=1 / 2) (c:=False) (E:=0) hS hp hq hr hs (fun u1 u2 u3 u4 S' w' _ hS' k' o1 o2 o3 o4 g1 g2 g3 g4=>?_) (fun _ _ _ _ _ _ e=>absurd rfl e)).mono ?_
 ·have h:=cx1 (c46 (p:=P1) (q:=P2) (by decide +kernel) (by decide +kernel) (by decide +kernel)) (ht.to k') hS' o1 o2 o3 o4 g1 g2 g3 g4 b88 cp7 da5 df8 (by decide) ck8 da2 d06 d18 cn7 dj2 dq0 c78 de4 (by decide +kernel)
  rw [db8,show (T3.nPart P1 P2 P4 = 0) = False from propext ⟨nP,fun h=>h.elim⟩] at h
  exact h
 rintro v' w' ⟨k,x,rfl,hx⟩
 rw [if_pos rfl] at hx
 exact ⟨k,by rw [j2 fun h=>h.2]; rfl,hx⟩
theorem bs9 (ht : Tab w) : Gives prog 28 [] w fun v' w'=>v' = .bool true ∧ Ext w w':=by
 have hS : Up All w:=Up.all
 refine n4 (E:=env) (S0:=All) (G:=Gh.nil) (l:=[]) func28 rfl rfl rfl trivial rfl trivial ?_
 refine o6 4 qG (1 : Rat) (fun _ S w g _ _ _=>(kx (ak3 g))) ?_
 intro v1
 refine o6 4 qG (0 : Rat) (fun _ S w g _ _ _=>(kx (Z5 g))) ?_
 intro v2
 refine o6 4 qG (0 : Rat) (fun _ S w g _ _ _=>(kx (Z5 g))) ?_
 intro v3
 refine o6 9 j5 P1 (fun _ S w g _ _ d=>(kx (A1 g ⟨v1,v2,v3,rfl,d.2.2.1,d.2.1,d.1⟩ b88 (by decide)))) ?_
 intro p
 refine o6 4 qG (0 : Rat) (fun _ S w g _ _ _=>(kx (Z5 g))) ?_
 intro v4
 refine o6 4 qG (2 : Rat) (fun _ S w g _ _ _=>(kx (b33 g))) ?_
 intro v5
 refine o6 4 qG (0 : Rat) (fun _ S w g _ _ _=>(kx (Z5 g))) ?_
 intro v6
 refine o6 9 j5 P2 (fun _ S w g _ _ d=>(kx (A1 g ⟨v4,v5,v6,rfl,d.2.2.1,d.2.1,d.1⟩ cp7 (by decide)))) ?_
 intro q
 refine ah1 (fun x0=>.tup [(true,[.ag 3 (cel (O3 x0 0) 0 3),.ag 3 (cel (O3 x0 0) 3 3),.ag 3 (cel (O3 x0 0) 6 3)]),(false,[.lit .i64 0])]) (fun x0=>ci4 x0 L1) (fun _ _ _ h=>c04 h) (fun _ S w g _ d s=>(kx ((dm9 (k:=1) (ht.to d) g s.2.2.2.2.1 s.1 b88 cp7 (by decide) (by rw [co8]; exact cs8) (by decide)).mono fun v' w' h=>⟨h.1,c37 (by have h2:=h.2; rw [b71,de9] at h2; exact h2)⟩))) ?_
 intro j
 refine n9 (pr (.bb true) (.lit .i64 0)) rfl (fun _ S w g _ d s=>(kx (gK (fc8 (ht.to d) g s.2.2.2.2.2.1 ⟨_,_,_,rfl,s.1.2.2.1,s.1.2.2.2.1,s.1.2.2.2.2⟩ b88 cs8 (by decide)) (by rw [j6 fa7,dh7]; rfl)))) ?_
 refine a8 20 ?_
 refine a6 2 ?_
 refine f4 4 qG (1 : Rat) (fun _ _ S w g _ _ _ _=>(kx (ak3 g))) ?_
 refine f4 4 qG (1 : Rat) (fun _ _ S w g _ _ _ _=>(kx (ak3 g))) ?_
 refine f4 4 qG (0 : Rat) (fun _ _ S w g _ _ _ _=>(kx (Z5 g))) ?_
 refine cq4 (fun x0=>.one (.ag 12 x0)) (fun x0=>l7 x0 P3) ⟨c8,hS,l8⟩ (fun _=>(by kernel_rfl)) (fun _=>(by kernel_rfl)) (fun _ g S w _ _ _ _ _ d=>have hF : (l7 (a42 (g 2) (g 3) (g 4)) P3).p S w:=⟨_,_,_,rfl,(j8 d 2 : (qG (g 2) (1 : Rat)).p S w),(j8 d 3 : (qG (g 3) (1 : Rat)).p S w),(j8 d 4 : (qG (g 4) (0 : Rat)).p S w)⟩; have hK : ∀ (x0 : Value) (S : Nat → Prop) (w : World),(l7 x0 P3).p S w → (.one (.ag 12 x0) : SV).Ok 0 ∧ (.one (.ag 12 x0) : SV).den (fun _=>0) = x0:=(fun _ _ _ h=>⟨h.ok,rfl⟩); ⟨(a42 (g 2) (g 3) (g 4)),(by kernel_rfl),(hK _ S w hF).2.symm,(hK _ S w hF).1,hF⟩) ?_
 refine f4 9 j5 P3 (fun _ g S w d _ _ _ s=>(kx (A1 d (j8 s 5 : (l7 (g 5) P3).p S w) da5 (by decide)))) ?_
 refine f4 4 qG (1 : Rat) (fun _ _ S w g _ _ _ _=>(kx (ak3 g))) ?_
 refine f4 4 qG (2 : Rat) (fun _ _ S w g _ _ _ _=>(kx (b33 g))) ?_
 refine f4 4 qG (0 : Rat) (fun _ _ S w g _ _ _ _=>(kx (Z5 g))) ?_
 refine cq4 (fun x0=>.one (.ag 12 x0)) (fun x0=>l7 x0 P4) ⟨c8,hS,l8⟩ (fun _=>(by kernel_rfl)) (fun _=>(by kernel_rfl)) (fun _ g S w _ _ _ _ _ d=>have hF : (l7 (a42 (g 7) (g 8) (g 9)) P4).p S w:=⟨_,_,_,rfl,(j8 d 7 : (qG (g 7) (1 : Rat)).p S w),(j8 d 8 : (qG (g 8) (2 : Rat)).p S w),(j8 d 9 : (qG (g 9) (0 : Rat)).p S w)⟩; have hK : ∀ (x0 : Value) (S : Nat → Prop) (w : World),(l7 x0 P4).p S w → (.one (.ag 12 x0) : SV).Ok 0 ∧ (.one (.ag 12 x0) : SV).den (fun _=>0) = x0:=(fun _ _ _ h=>⟨h.ok,rfl⟩); ⟨(a42 (g 7) (g 8) (g 9)),(by kernel_rfl),(hK _ S w hF).2.symm,(hK _ S w hF).1,hF⟩) ?_
 refine f4 9 j5 P4 (fun _ g S w d _ _ _ s=>(kx (A1 d (j8 s 10 : (l7 (g 10) P4).p S w) df8 (by decide)))) ?_
 refine h_1 (fun x0=>.tup [(true,[.ag 3 (O3 x0 0)]),(false,[.bb false]),(false,[.lit .i64 0])]) (fun x0=>dr3 x0 (1 / 2 : Rat)) (fun _=>(by kernel_rfl)) (fun _ _ _ h=>dk1 h) (fun _ g S w d _ s t m=>(kx (cz5 (ht.to s) d t.2.2.2.2.2.1 t.2.1 (j8 m 6 : (j5 (g 6) P3).p S w) (j8 m 11 : (j5 (g 11) P4).p S w)))) ?_
 refine a6 7 ?_
 refine b6 1 (fun g d=>(dr3 (d 12) (1 / 2 : Rat)).and g) (fun g _=>(by kernel_rfl)) ?_
 intro η_1
 refine n9 (.one (.str [49])) rfl (fun _ S w _ _ g d=>(kx (gK (bk7 (ht.to g) d.2.1.2.2.2.2 (E7 cs8.2.2 (by decide))) (congrArg F3 dj8)))) ?_
 refine K9 (p:=([49] : List UInt8) = [49]) 68 rfl ?_
 refine n9 (.one (.str [49,47,50])) rfl (fun _ S w _ _ g d=>(kx (gK (bk7 (ht.to g) d.1.2 (E7 (I9 (by decide +kernel) (by decide +kernel)) (by decide))) (congrArg F3 cv1)))) ?_
 refine K9 (p:=([49,47,50] : List UInt8) = [49,47,50]) 73 rfl ?_
 exact j9 (.bool true) rfl (fun S w _ g _=>⟨rfl,g⟩)
theorem a80 (hS : Up S w) :
  Gives prog 13 [.int .i64 z,.int .i64 2] w fun v' w'=>v' = .int .i64 (ae4 z) ∧ Ext w w':=by
 have hz:=B0 z
 refine n4 (E:=env) (S0:=S) (G:=Gh.nil) (l:=[.one (.int .i64 z),.one (.lit .i64 2)]) func13 rfl rfl rfl ⟨trivial,trivial,trivial⟩ rfl trivial ?_
 refine P9 (ps:=[InR .i64 (IntKind.u64.wrap z % 5 - 2),InR .i64 (IntKind.u64.wrap z % 5),0 ≤ IntKind.u64.wrap z ∧ (0 : Int) < 5]) (by simp only [I3,InR,and_true]; omega) ?_
 exact j9 (.int .i64 (IntKind.u64.wrap z % 5 - 2)) rfl (fun S w _ g _=>⟨rfl,g⟩)
theorem dz1 (hS : Up S w) : Gives prog 8 [] w fun v' w'=>Ext w w' ∧ QConV S w' v' bo8:=by
 refine n4 (E:=env) (S0:=S) (G:=Gh.nil) (l:=[]) func8 rfl rfl rfl trivial rfl trivial ?_
 refine o6 4 qG (0 : Rat) (fun _ S w g _ _ _=>(kx (Z5 g))) ?_
 intro o
 refine a8 6 ?_
 refine f4 4 qG (1 : Rat) (fun _ _ S w g _ _ _ _=>(kx (ak3 g))) ?_
 refine a6 2 ?_
 refine f4 4 qG (-1 : Rat) (fun _ _ S w g _ _ _ _=>(kx (J2 (a:=-1) g (by decide) (by decide)))) ?_
 refine a6 2 ?_
 refine b6 3 (fun g d=>(qG (d 3) (-1 : Rat)).and ((qG (d 0) (1 : Rat)).and g)) (fun g _=>(by kernel_rfl)) ?_
 intro η_1
 exact j9 (df3 (η_1 0) o o (η_1 3) o o) rfl (fun S w g d s=>have h0:=s.2.2.1; ⟨d,_,_,_,_,_,_,rfl,QConC.mono (k:=bo8) ⟨s.2.1,h0,h0,s.1,h0,h0⟩ fun k _ hk=>g k hk⟩)
theorem okA {m : Nat} (h : (SV.one (.ag n v)).Ok 0) : (Ch.ag n v).Ok m:=Ch.Ok.up (c:=.ag n v) h
theorem cd2 (z : Int) : I63 (r7 z):=ac4 (by have:=Y8 z; omega)
theorem c80 (z : Int) : I63 (ae4 z):=ac4 (by have:=ca9 z; omega)
theorem bo9 {n m : Nat → Int} {K1 : C6} (ht : Tab w) (EM : aq9 m = M) (EK : bo8.moved M = K0) (EC : ae5 f = K1) (EP : M.apply (onT (n 0)) = P) (EQ0 : M.apply (onT (n 1)) = Q0) (EQ : dx8 n P Q0 = Q) (EL : dy9 n K0 P Q = L) (ES : d49 M n = s)
  (D : SecD M n K0 K1 P Q0 Q L) (F : s.Few 1) (B : ∀ t ∈ s.list,M9 t = 0) (R : s.Ok → s.line = s.rline ∧ s.rline.normal = s.rline ∧ ¬ s.rline.None ∧ tl s.rline 31) :
  Gives prog 3 [.agg #[.int .i64 (n 0),.int .i64 (n 1),.int .i64 (n 2),.int .i64 (n 3),.int .i64 (n 4),.int .i64 (n 5),.int .i64 (n 6),.int .i64 (n 7)],.agg #[.int .i64 (f 0),.int .i64 (f 1),.int .i64 (f 2),.int .i64 (f 3),.int .i64 (f 4),.int .i64 (f 5)],.agg #[.int .i64 (m 0),.int .i64 (m 1),.int .i64 (m 2),.int .i64 (m 3),.int .i64 (m 4),.int .i64 (m 5),.int .i64 (m 6),.int .i64 (m 7),.int .i64 (m 8)]] w fun v' w'=>v' = .bool true ∧ Ext w w':=by
 have hS : Up All w:=Up.all
 refine n4 (E:=env) (S0:=All) (G:=Gh.nil) (l:=[.agg [.int .i64 (n 0),.int .i64 (n 1),.int .i64 (n 2),.int .i64 (n 3),.int .i64 (n 4),.int .i64 (n 5),.int .i64 (n 6),.int .i64 (n 7)],.agg [.int .i64 (f 0),.int .i64 (f 1),.int .i64 (f 2),.int .i64 (f 3),.int .i64 (f 4),.int .i64 (f 5)],.agg [.int .i64 (m 0),.int .i64 (m 1),.int .i64 (m 2),.int .i64 (m 3),.int .i64 (m 4),.int .i64 (m 5),.int .i64 (m 6),.int .i64 (m 7),.int .i64 (m 8)]]) func3 rfl rfl rfl ⟨I1 ⟨trivial,trivial,trivial,trivial,trivial,trivial,trivial,trivial,trivial⟩,c20,co9,trivial⟩ rfl trivial ?_
 refine o6 36 ax6 M (fun _ S w g _ _ _=>(kx ((dj5 g).mono fun v' w' h=>⟨h.1,EM ▸ h.2⟩))) ?_
 intro c0
 refine a8 4 ?_
 refine f4 24 au1 bo8 (fun _ _ S w g _ _ _ _=>(kx (dz1 g))) ?_
 refine a6 1 ?_
 refine f4 24 au1 K0 (fun _ g S w d _ _ s t=>(kx ((da6 d (j8 t 0 : (au1 (g 0) bo8).p S w) s.1 (b08 cj9 (by decide)) D.lM (by decide)).mono fun v' w' h=>⟨h.1,EK ▸ h.2⟩))) ?_
 refine a6 1 ?_
 refine b6 1 (fun g d=>(au1 (d 2) K0).and g) (fun g _=>(by kernel_rfl)) ?_
 intro η_1
 refine a8 6 ?_
 refine a6 3 ?_
 refine f4 12 l7 (onT (n 0)) (fun _ _ S w g _ _ _ _=>(kx (aj8 g))) ?_
 refine f4 12 l7 P (fun _ g S w d _ _ s t=>(kx ((M4 d s.2.1 (j8 t 3 : (l7 (g 3) (onT (n 0))).p S w) D.lM ((ad9 _).tl (by decide)) (by decide)).mono fun v' w' h=>⟨h.1,EP ▸ h.2⟩))) ?_
 refine a6 1 ?_
 refine b6 1 (fun g d=>(l7 (d 4) P).and g) (fun g _=>(by kernel_rfl)) ?_
 intro η_2
 refine a8 6 ?_
 refine a6 3 ?_
 refine f4 12 l7 (onT (n 1)) (fun _ _ S w g _ _ _ _=>(kx (aj8 g))) ?_
 refine f4 12 l7 Q0 (fun _ g S w d _ _ s t=>(kx ((M4 d s.2.2.1 (j8 t 3 : (l7 (g 3) (onT (n 1))).p S w) D.lM ((ad9 _).tl (by decide)) (by decide)).mono fun v' w' h=>⟨h.1,EQ0 ▸ h.2⟩))) ?_
 refine a6 1 ?_
 refine b6 1 (fun g d=>(l7 (d 4) Q0).and g) (fun g _=>(by kernel_rfl)) ?_
 intro η_3
 refine n9 (.one (.tp (T3.Same P Q0))) rfl (fun _ S w g _ _ d=>(kx (H3 g d.2.1 d.1 D.tP D.tQ0 (by decide)))) ?_
 refine b13 (ι:=Value) [(40,46)] (fun X=>[]) (fun X=>[(6,.blk 39 [.ag 12 X])]) (fun X g=>(l7 X Q).and g) (fun X=>True) ⟨c8,hS,l8⟩ (by kernel_rfl) (fun hso0=>?_) (fun X hX=>?_)
 ·refine z7 (p:=T3.Same P Q0) (fun hs0=>?_) (fun hs0=>?_)
  ·have E : a63 (r7 (n 1)) (r7 (n 2)) 1 = Q:=by rw [← EQ]; exact (if_pos hs0).symm
   refine a8 5 ?_
   refine a6 2 ?_
   refine af4 (.one (.int .i64 (r7 (n 1)))) rfl (fun _ _ S w g _ _ _ _=>(kx (B6 g))) ?_
   refine a6 2 ?_
   refine b6 0 (fun g _=>g) (fun g _=>(by kernel_rfl)) ?_
   intro η_4
   refine n9 (.one (.int .i64 (r7 (n 2)))) rfl (fun _ S w g _ _ _=>(kx (B6 g))) ?_
   refine o6 12 l7 Q (fun _ S w g _ _ _=>(kx ((bg6 g (cd2 _) (cd2 _) (ac4 (by decide))).mono fun v' w' h=>⟨h.1,E ▸ h.2⟩))) ?_
   intro x
   exact x7 x hso0 trivial (fun S w _ g=>⟨I4 trivial,E6 ⟨I2 ⟨okA g.1.ok,trivial⟩,trivial⟩⟩) (fun S w _ g=>⟨g.1,g.2⟩)
  have E : Q0 = Q:=by rw [← EQ]; exact (if_neg hs0).symm
  exact x7 (η_3 4) hso0 trivial (fun S w _ g=>⟨I4 trivial,E6 ⟨I2 ⟨okA g.1.ok,trivial⟩,trivial⟩⟩) (fun S w _ g=>have q0:=g.1; ⟨(E ▸ q0),g⟩)
 refine o6 12 l7 (K0.mat.apply P) (fun _ S w g _ _ d=>(kx (bm8 g d.2.2.2.1 d.2.2.1 D.l0 D.tP (by decide)))) ?_
 intro y0
 refine n9 (.one (.tp (T3.Same P Q))) rfl (fun _ S w g _ _ d=>(kx (H3 g d.2.2.2.1 d.2.1 D.tP D.tQ (by decide)))) ?_
 refine ac3 (ι:=Value) 0 1 [(50,63)] (fun Y=>[]) (fun Y=>[(7,.blk 39 [.ag 12 Y])]) (fun Y g=>(l7 Y L).and g) (fun Y=>True) ⟨c8,hS,l8⟩ (by kernel_rfl) (by kernel_rfl) (fun hso0=>?_) (fun Y hY=>?_)
 ·refine O8 (p:=¬ T3.Same P Q) 54 (fun e1=>?_) (fun e1=>?_)
  ·refine P9 (ps:=[0 ≤ IntKind.u64.wrap (n 2) ∧ (0 : Int) < 4]) (by simp only [I3,and_true]; exact ⟨B0 _,by decide⟩) ?_
   refine z7 (p:=0 < IntKind.u64.wrap (n 2) % 4) (fun e2=>?_) (fun e2=>?_)
   ·have E : P.cross Q = L:=by rw [← EL]; exact (if_pos ⟨e1,e2⟩).symm
    refine o6 12 l7 L (fun _ S w g _ _ d=>(kx ((E8 g d.2.2.2.1 d.2.1 D.tP D.tQ (by decide)).mono fun v' w' h=>⟨h.1,E ▸ h.2⟩))) ?_
    intro y1
    exact x7 y1 hso0 trivial (fun S w _ g=>⟨I4 trivial,E6 ⟨I2 ⟨okA g.1.ok,trivial⟩,trivial⟩⟩) (fun S w _ g=>⟨g.1,g.2⟩)
   have E : K0.mat.apply P = L:=by rw [← EL]; exact (if_neg fun h=>e2 h.2).symm
   exact x7 y0 hso0 trivial (fun S w _ g=>⟨I4 trivial,E6 ⟨I2 ⟨okA g.1.ok,trivial⟩,trivial⟩⟩) (fun S w _ g=>have l0:=g.1; ⟨(E ▸ l0),g⟩)
  have E : K0.mat.apply P = L:=by rw [← EL]; exact (if_neg fun h=>e1 h.1).symm
  exact x7 y0 hso0 trivial (fun S w _ g=>⟨I4 trivial,E6 ⟨I2 ⟨okA g.1.ok,trivial⟩,trivial⟩⟩) (fun S w _ g=>have l0:=g.1; ⟨(E ▸ l0),g⟩)
 refine ac3 (ι:=Value) 0 1 [(6,6),(12,14),(64,112)] (fun Z=>[]) (fun Z=>[(4,.blk 36 [.ag 24 Z])]) (fun Z g=>(au1 Z K1).and g) (fun Z=>True) ⟨c8,hS,l8⟩ (by kernel_rfl) (by kernel_rfl) (fun hso0=>?_) (fun Z hZ=>?_)
 ·refine i1 ?_
  refine ac3 (ι:=Unit) 1 1 [(6,6),(13,14),(68,110)] (fun x=>[]) (fun _=>[]) (fun _ g=>g) (fun x=>True) ⟨c8,hS,l8⟩ (by kernel_rfl) (by kernel_rfl) (fun hso=>?_) (fun x hx=>?_)
  ·by_cases ok : ay1 K0 P L
   ·have E : ax4 K0 P L = 0:=if_pos ok
    refine a8 12 ?_
    refine a6 1 ?_
    refine f4 18 al3 K0 (fun _ _ S w g _ _ d _=>(kx (a60 g d.2.2.2.2.2.1 D.r0.lk (by decide)))) ?_
    refine a6 1 ?_
    refine f4 9 j5 P (fun _ _ S w g _ _ d _=>(kx (A1 g d.2.2.2.2.1 D.tP (by decide)))) ?_
    refine a6 1 ?_
    refine f4 9 j5 L (fun _ _ S w g _ _ d _=>(kx (A1 g d.1 D.r0.tL (by decide)))) ?_
    refine h_1 (fun x0=>pr (.ag 9 (N6 x0)) (.lit .i64 0)) (fun x0=>W6 x0 (am3 K0 P (m6 L P)) 0) (fun _=>(by kernel_rfl)) (fun _ _ _ h=>cq0 h) (fun _ g S w d _ s _ t=>(kx ((av3 (ht.to s) d (j8 t 1 : (al3 (g 1) K0).p S w) (j8 t 3 : (j5 (g 3) P).p S w) (j8 t 5 : (j5 (g 5) L).p S w) D.r0.lk D.tP D.r0.tL (by decide) (by decide) D.r0.tR (by decide) D.r0.ck D.r0.bp D.r0.bL).mono fun v' w' h=>⟨h.1,by have h2:=h.2; rw [E,if_pos rfl] at h2; exact h2⟩))) ?_
    refine a6 5 ?_
    refine b6 1 (fun g d=>(W6 (d 6) (am3 K0 P (m6 L P)) 0).and g) (fun g _=>(by kernel_rfl)) ?_
    intro η_4
    refine n9 (.one (.bb true)) rfl (fun _ S w g _ _ d=>(kx (gK (ag2 g d.2.2.2.2.2.2.1 D.r0.lk (by decide)) (by rw [j6 ok.1]; rfl)))) ?_
    refine n9 (.one (.bb true)) rfl (fun _ S w g _ _ d=>(kx (gK (ab2 g d.2.2.2.2.2.2.1 d.2.2.2.2.2.1 D.r0.lk D.tP (by decide) (by decide)) (by rw [j6 (an0.1 ok.2.1)]; rfl)))) ?_
    refine n9 (.one (.bb true)) rfl (fun _ S w g _ _ d=>(kx (gK (cn6 g d.2.2.2.2.2.1 d.2.1 D.tP D.r0.tL (by decide)) (by rw [j6 ok.2.2]; rfl)))) ?_
    refine a8 8 ?_
    refine a6 7 ?_
    refine f4 12 l7 (K0.sec P (rq L P 3)) (fun _ _ S w g _ _ d _=>(kx (bt8 g d.2.2.2.2.2.2.1 d.2.2.2.2.2.1 d.2.1 D.r0.lk D.tP D.r0.tL (by decide)))) ?_
    refine b6 1 (fun g d=>(l7 (d 7) (K0.sec P (rq L P 3))).and g) (fun g _=>(by kernel_rfl)) ?_
    intro η_5
    refine n9 (.one (.bb true)) rfl (fun _ S w g _ d s=>(kx (c12 (ht.to d) g s.2.1.2 s.1 D.r0.ts (by decide) (D.r0.nn ok) (D.r0.eq ok)))) ?_
    exact x7 () hso trivial (fun S w _ _=>⟨z8 rfl,fun p hp=>by cases hp⟩) (fun S w _ g=>g.2.2)
   have E : ax4 K0 P L = 61:=if_neg ok
   refine a8 12 ?_
   refine a6 1 ?_
   refine f4 18 al3 K0 (fun _ _ S w g _ _ d _=>(kx (a60 g d.2.2.2.2.2.1 D.r0.lk (by decide)))) ?_
   refine a6 1 ?_
   refine f4 9 j5 P (fun _ _ S w g _ _ d _=>(kx (A1 g d.2.2.2.2.1 D.tP (by decide)))) ?_
   refine a6 1 ?_
   refine f4 9 j5 L (fun _ _ S w g _ _ d _=>(kx (A1 g d.1 D.r0.tL (by decide)))) ?_
   refine h_1 (fun x0=>pr (.ag 9 (N6 x0)) (.lit .i64 61)) (fun x0=>W6 x0 (⟨0,0,0⟩ : T3) 61) (fun _=>(by kernel_rfl)) (fun _ _ _ h=>⟨bd0 h.2.ok trivial,h.1.symm⟩) (fun _ g S w d _ s _ t=>(kx ((av3 (ht.to s) d (j8 t 1 : (al3 (g 1) K0).p S w) (j8 t 3 : (j5 (g 3) P).p S w) (j8 t 5 : (j5 (g 5) L).p S w) D.r0.lk D.tP D.r0.tL (by decide) (by decide) D.r0.tR (by decide) D.r0.ck D.r0.bp D.r0.bL).mono fun v' w' h=>⟨h.1,by have h2:=h.2; rw [E,if_neg (by decide)] at h2; exact h2⟩))) ?_
   refine a6 5 ?_
   refine b6 1 (fun g d=>(W6 (d 6) (⟨0,0,0⟩ : T3) 61).and g) (fun g _=>(by kernel_rfl)) ?_
   intro η_4
   by_cases d : K0.mat.det = 0
   ·refine n9 (.one (.bb false)) rfl (fun _ S w s _ _ t=>(kx (gK (ag2 s t.2.2.2.2.2.2.1 D.r0.lk (by decide)) (by rw [j2 fun g=>g d]; rfl)))) ?_
    refine n9 (.one (.bb true)) rfl (fun _ S w g _ _ d=>(kx (ao5 g d.1.2 ⟨rfl,rfl,rfl⟩))) ?_
    exact x7 () hso trivial (fun S w _ _=>⟨z8 rfl,fun p hp=>by cases hp⟩) (fun S w _ g=>g.2)
   refine n9 (.one (.bb true)) rfl (fun _ S w g _ _ s=>(kx (gK (ag2 g s.2.2.2.2.2.2.1 D.r0.lk (by decide)) (by rw [j6 d]; rfl)))) ?_
   by_cases v : K0.val P = 0
   ·refine n9 (.one (.bb true)) rfl (fun _ S w g _ _ d=>(kx (gK (ab2 g d.2.2.2.2.2.2.1 d.2.2.2.2.2.1 D.r0.lk D.tP (by decide) (by decide)) (by rw [j6 (an0.1 v)]; rfl)))) ?_
    refine n9 (.one (.bb false)) rfl (fun _ S w s _ _ t=>(kx (gK (cn6 s t.2.2.2.2.2.1 t.2.1 D.tP D.r0.tL (by decide)) (by rw [j2 fun g=>ok ⟨d,v,g⟩]; rfl)))) ?_
    refine n9 (.one (.bb true)) rfl (fun _ S w g _ _ d=>(kx (ao5 g d.1.2 ⟨rfl,rfl,rfl⟩))) ?_
    exact x7 () hso trivial (fun S w _ _=>⟨z8 rfl,fun p hp=>by cases hp⟩) (fun S w _ g=>g.2)
   refine n9 (.one (.bb false)) rfl (fun _ S w d _ _ s=>(kx (gK (ab2 d s.2.2.2.2.2.2.1 s.2.2.2.2.2.1 D.r0.lk D.tP (by decide) (by decide)) (by rw [j2 fun g=>v (an0.2 g)]; rfl)))) ?_
   refine n9 (.one (.bb true)) rfl (fun _ S w g _ _ d=>(kx (ao5 g d.1.2 ⟨rfl,rfl,rfl⟩))) ?_
   exact x7 () hso trivial (fun S w _ _=>⟨z8 rfl,fun p hp=>by cases hp⟩) (fun S w _ g=>g.2)
  refine o6 24 au1 K1 (fun _ S w g _ _ _=>(kx ((b53 g).mono fun v' w' h=>⟨h.1,EC ▸ h.2⟩))) ?_
  intro z00
  refine i1 ?_
  refine ac3 (ι:=Unit) 1 1 [(6,6),(13,14),(68,110)] (fun x=>[]) (fun _=>[]) (fun _ g=>g) (fun x=>True) ⟨c8,hS,l8⟩ (by kernel_rfl) (by kernel_rfl) (fun hso=>?_) (fun x hx=>?_)
  ·by_cases ok : ay1 K1 P L
   ·have E : ax4 K1 P L = 0:=if_pos ok
    refine a8 12 ?_
    refine a6 1 ?_
    refine f4 18 al3 K1 (fun _ _ S w g _ _ d _=>(kx (a60 g d.1 D.r1.lk (by decide)))) ?_
    refine a6 1 ?_
    refine f4 9 j5 P (fun _ _ S w g _ _ d _=>(kx (A1 g d.2.2.2.2.2.1 D.tP (by decide)))) ?_
    refine a6 1 ?_
    refine f4 9 j5 L (fun _ _ S w g _ _ d _=>(kx (A1 g d.2.1 D.r0.tL (by decide)))) ?_
    refine h_1 (fun x0=>pr (.ag 9 (N6 x0)) (.lit .i64 0)) (fun x0=>W6 x0 (am3 K1 P (m6 L P)) 0) (fun _=>(by kernel_rfl)) (fun _ _ _ h=>cq0 h) (fun _ g S w d _ s _ t=>(kx ((av3 (ht.to s) d (j8 t 1 : (al3 (g 1) K1).p S w) (j8 t 3 : (j5 (g 3) P).p S w) (j8 t 5 : (j5 (g 5) L).p S w) D.r1.lk D.tP D.r0.tL (by decide) (by decide) D.r1.tR (by decide) D.r1.ck D.r1.bp D.r1.bL).mono fun v' w' h=>⟨h.1,by have h2:=h.2; rw [E,if_pos rfl] at h2; exact h2⟩))) ?_
    refine a6 5 ?_
    refine b6 1 (fun g d=>(W6 (d 6) (am3 K1 P (m6 L P)) 0).and g) (fun g _=>(by kernel_rfl)) ?_
    intro η_4
    refine n9 (.one (.bb true)) rfl (fun _ S w g _ _ d=>(kx (gK (ag2 g d.2.1 D.r1.lk (by decide)) (by rw [j6 ok.1]; rfl)))) ?_
    refine n9 (.one (.bb true)) rfl (fun _ S w g _ _ d=>(kx (gK (ab2 g d.2.1 d.2.2.2.2.2.2.1 D.r1.lk D.tP (by decide) (by decide)) (by rw [j6 (an0.1 ok.2.1)]; rfl)))) ?_
    refine n9 (.one (.bb true)) rfl (fun _ S w g _ _ d=>(kx (gK (cn6 g d.2.2.2.2.2.2.1 d.2.2.1 D.tP D.r0.tL (by decide)) (by rw [j6 ok.2.2]; rfl)))) ?_
    refine a8 8 ?_
    refine a6 7 ?_
    refine f4 12 l7 (K1.sec P (rq L P 3)) (fun _ _ S w g _ _ d _=>(kx (bt8 g d.2.1 d.2.2.2.2.2.2.1 d.2.2.1 D.r1.lk D.tP D.r0.tL (by decide)))) ?_
    refine b6 1 (fun g d=>(l7 (d 7) (K1.sec P (rq L P 3))).and g) (fun g _=>(by kernel_rfl)) ?_
    intro η_5
    refine n9 (.one (.bb true)) rfl (fun _ S w g _ d s=>(kx (c12 (ht.to d) g s.2.1.2 s.1 D.r1.ts (by decide) (D.r1.nn ok) (D.r1.eq ok)))) ?_
    exact x7 () hso trivial (fun S w _ _=>⟨z8 rfl,fun p hp=>by cases hp⟩) (fun S w _ g=>g.2.2)
   have E : ax4 K1 P L = 61:=if_neg ok
   refine a8 12 ?_
   refine a6 1 ?_
   refine f4 18 al3 K1 (fun _ _ S w g _ _ d _=>(kx (a60 g d.1 D.r1.lk (by decide)))) ?_
   refine a6 1 ?_
   refine f4 9 j5 P (fun _ _ S w g _ _ d _=>(kx (A1 g d.2.2.2.2.2.1 D.tP (by decide)))) ?_
   refine a6 1 ?_
   refine f4 9 j5 L (fun _ _ S w g _ _ d _=>(kx (A1 g d.2.1 D.r0.tL (by decide)))) ?_
   refine h_1 (fun x0=>pr (.ag 9 (N6 x0)) (.lit .i64 61)) (fun x0=>W6 x0 (⟨0,0,0⟩ : T3) 61) (fun _=>(by kernel_rfl)) (fun _ _ _ h=>⟨bd0 h.2.ok trivial,h.1.symm⟩) (fun _ g S w d _ s _ t=>(kx ((av3 (ht.to s) d (j8 t 1 : (al3 (g 1) K1).p S w) (j8 t 3 : (j5 (g 3) P).p S w) (j8 t 5 : (j5 (g 5) L).p S w) D.r1.lk D.tP D.r0.tL (by decide) (by decide) D.r1.tR (by decide) D.r1.ck D.r1.bp D.r1.bL).mono fun v' w' h=>⟨h.1,by have h2:=h.2; rw [E,if_neg (by decide)] at h2; exact h2⟩))) ?_
   refine a6 5 ?_
   refine b6 1 (fun g d=>(W6 (d 6) (⟨0,0,0⟩ : T3) 61).and g) (fun g _=>(by kernel_rfl)) ?_
   intro η_4
   by_cases d : K1.mat.det = 0
   ·refine n9 (.one (.bb false)) rfl (fun _ S w s _ _ t=>(kx (gK (ag2 s t.2.1 D.r1.lk (by decide)) (by rw [j2 fun g=>g d]; rfl)))) ?_
    refine n9 (.one (.bb true)) rfl (fun _ S w g _ _ d=>(kx (ao5 g d.1.2 ⟨rfl,rfl,rfl⟩))) ?_
    exact x7 () hso trivial (fun S w _ _=>⟨z8 rfl,fun p hp=>by cases hp⟩) (fun S w _ g=>g.2)
   refine n9 (.one (.bb true)) rfl (fun _ S w g _ _ s=>(kx (gK (ag2 g s.2.1 D.r1.lk (by decide)) (by rw [j6 d]; rfl)))) ?_
   by_cases v : K1.val P = 0
   ·refine n9 (.one (.bb true)) rfl (fun _ S w g _ _ d=>(kx (gK (ab2 g d.2.1 d.2.2.2.2.2.2.1 D.r1.lk D.tP (by decide) (by decide)) (by rw [j6 (an0.1 v)]; rfl)))) ?_
    refine n9 (.one (.bb false)) rfl (fun _ S w s _ _ t=>(kx (gK (cn6 s t.2.2.2.2.2.2.1 t.2.2.1 D.tP D.r0.tL (by decide)) (by rw [j2 fun g=>ok ⟨d,v,g⟩]; rfl)))) ?_
    refine n9 (.one (.bb true)) rfl (fun _ S w g _ _ d=>(kx (ao5 g d.1.2 ⟨rfl,rfl,rfl⟩))) ?_
    exact x7 () hso trivial (fun S w _ _=>⟨z8 rfl,fun p hp=>by cases hp⟩) (fun S w _ g=>g.2)
   refine n9 (.one (.bb false)) rfl (fun _ S w d _ _ s=>(kx (gK (ab2 d s.2.1 s.2.2.2.2.2.2.1 D.r1.lk D.tP (by decide) (by decide)) (by rw [j2 fun g=>v (an0.2 g)]; rfl)))) ?_
   refine n9 (.one (.bb true)) rfl (fun _ S w g _ _ d=>(kx (ao5 g d.1.2 ⟨rfl,rfl,rfl⟩))) ?_
   exact x7 () hso trivial (fun S w _ _=>⟨z8 rfl,fun p hp=>by cases hp⟩) (fun S w _ g=>g.2)
  refine o6 24 au1 K1 (fun _ S w g _ _ _=>(kx ((b53 g).mono fun v' w' h=>⟨h.1,EC ▸ h.2⟩))) ?_
  intro z01
  refine i1 ?_
  exact x7 z01 hso0 trivial (fun S w _ g=>⟨I4 trivial,E6 ⟨I2 ⟨okA g.1.ok,trivial⟩,trivial⟩⟩) (fun S w _ g=>⟨g.1,g.2.2⟩)
 refine ac3 (ι:=(Nat → Value) × (Nat → Value)) 0 1 [(17,17),(113,153)] (fun W=>[]) (fun W=>[(8,.blk 69 [.ag 12 (W.1 0),.ag 12 (W.1 1),.ag 12 (W.1 2),.ag 12 (W.1 3),.ag 12 (W.1 4),.ag 12 (W.1 5)]),(9,.blk 70 [.ag 9 (W.2 0),.ag 9 (W.2 1),.ag 9 (W.2 2),.ag 9 (W.2 3),.ag 9 (W.2 4),.ag 9 (W.2 5)])]) (fun W g=>(l7 (W.1 0) s.p0).and ((l7 (W.1 1) s.p1).and ((l7 (W.1 2) s.p2).and ((l7 (W.1 3) s.p3).and ((l7 (W.1 4) s.p4).and ((l7 (W.1 5) s.p5).and ((j5 (W.2 0) s.p0).and ((j5 (W.2 1) s.p1).and ((j5 (W.2 2) s.p2).and ((j5 (W.2 3) s.p3).and ((j5 (W.2 4) s.p4).and ((j5 (W.2 5) s.p5).and g)))))))))))) (fun W=>True) ⟨c8,hS,l8⟩ (by kernel_rfl) (by kernel_rfl) (fun hso0=>?_) (fun W hW=>?_)
 ·by_cases c3 : IntKind.u64.wrap (n 0) % 3 = 0
  ·have E0 : M.apply (onT (n 2)) = s.p0:=by rw [← ES]; exact (if_neg fun h=>absurd h.2 (by decide)).symm
   refine i1 ?_
   refine a8 8 ?_
   refine a6 6 ?_
   refine f4 12 l7 (onT (n 2)) (fun _ _ S w g _ _ _ _=>(kx (aj8 g))) ?_
   refine f4 12 l7 s.p0 (fun _ g S w d _ _ s t=>(kx ((M4 d s.2.2.2.2.2.2.2.1 (j8 t 6 : (l7 (g 6) (onT (n 2))).p S w) D.lM ((ad9 _).tl (by decide)) (by decide)).mono fun v' w' h=>⟨h.1,E0 ▸ h.2⟩))) ?_
   refine b6 1 (fun g d=>(l7 (d 7) s.p0).and g) (fun g _=>(by kernel_rfl)) ?_
   intro η_4
   refine P9 (ps:=[0 ≤ IntKind.u64.wrap (n 0) ∧ (0 : Int) < 3]) (by simp only [I3,and_true]; exact ⟨B0 _,by decide⟩) ?_
   refine K9 (p:=IntKind.u64.wrap (n 0) % 3 = 0) 131 c3 ?_
   refine o6 9 j5 s.p0 (fun _ S w g _ _ d=>(kx (A1 g d.1 F.t0 (by decide)))) ?_
   intro h0
   have E1 : a63 (r7 (n 3)) (ae4 (n 1)) 1 = s.p1:=by rw [← ES]; exact (if_pos ⟨c3,rfl⟩).symm
   refine i1 ?_
   refine a8 8 ?_
   refine a6 6 ?_
   refine f4 12 l7 (onT (n 3)) (fun _ _ S w g _ _ _ _=>(kx (aj8 g))) ?_
   refine f4 12 l7 (M.apply (onT (n 3))) (fun _ g S w d _ _ s t=>(kx (M4 d s.2.2.2.2.2.2.2.2.2.1 (j8 t 6 : (l7 (g 6) (onT (n 3))).p S w) D.lM ((ad9 _).tl (by decide)) (by decide)))) ?_
   refine b6 0 (fun g _=>g) (fun g _=>(by kernel_rfl)) ?_
   intro η_5
   refine P9 (ps:=[0 ≤ IntKind.u64.wrap (n 0) ∧ (0 : Int) < 3]) (by simp only [I3,and_true]; exact ⟨B0 _,by decide⟩) ?_
   refine K9 (p:=IntKind.u64.wrap (n 0) % 3 = 0) 131 c3 ?_
   refine a8 11 ?_
   refine a6 5 ?_
   refine af4 (.one (.int .i64 (r7 (n 3)))) rfl (fun _ _ S w g _ _ _ _=>(kx (B6 g))) ?_
   refine a6 3 ?_
   refine af4 (.one (.int .i64 (ae4 (n 1)))) rfl (fun _ _ S w g _ _ _ _=>(kx (a80 g))) ?_
   refine f4 12 l7 s.p1 (fun _ _ S w g _ _ _ _=>(kx ((bg6 g (cd2 _) (c80 _) (ac4 (by decide))).mono fun v' w' h=>⟨h.1,E1 ▸ h.2⟩))) ?_
   refine b6 1 (fun g d=>(l7 (d 10) s.p1).and g) (fun g _=>(by kernel_rfl)) ?_
   intro η_6
   refine o6 9 j5 s.p1 (fun _ S w g _ _ d=>(kx (A1 g d.1 F.t1 (by decide)))) ?_
   intro h1
   have E2 : M.apply (onT (n 4)) = s.p2:=by rw [← ES]; exact (if_neg fun h=>absurd h.2 (by decide)).symm
   refine i1 ?_
   refine a8 8 ?_
   refine a6 6 ?_
   refine f4 12 l7 (onT (n 4)) (fun _ _ S w g _ _ _ _=>(kx (aj8 g))) ?_
   refine f4 12 l7 s.p2 (fun _ g S w d _ _ s t=>(kx ((M4 d s.2.2.2.2.2.2.2.2.2.2.2.1 (j8 t 6 : (l7 (g 6) (onT (n 4))).p S w) D.lM ((ad9 _).tl (by decide)) (by decide)).mono fun v' w' h=>⟨h.1,E2 ▸ h.2⟩))) ?_
   refine b6 1 (fun g d=>(l7 (d 7) s.p2).and g) (fun g _=>(by kernel_rfl)) ?_
   intro η_7
   refine P9 (ps:=[0 ≤ IntKind.u64.wrap (n 0) ∧ (0 : Int) < 3]) (by simp only [I3,and_true]; exact ⟨B0 _,by decide⟩) ?_
   refine K9 (p:=IntKind.u64.wrap (n 0) % 3 = 0) 131 c3 ?_
   refine o6 9 j5 s.p2 (fun _ S w g _ _ d=>(kx (A1 g d.1 F.t2 (by decide)))) ?_
   intro h2
   have E3 : a63 (r7 (n 5)) (ae4 (n 3)) 1 = s.p3:=by rw [← ES]; exact (if_pos ⟨c3,rfl⟩).symm
   refine i1 ?_
   refine a8 8 ?_
   refine a6 6 ?_
   refine f4 12 l7 (onT (n 5)) (fun _ _ S w g _ _ _ _=>(kx (aj8 g))) ?_
   refine f4 12 l7 (M.apply (onT (n 5))) (fun _ g S w d _ _ s t=>(kx (M4 d s.2.2.2.2.2.2.2.2.2.2.2.2.2.1 (j8 t 6 : (l7 (g 6) (onT (n 5))).p S w) D.lM ((ad9 _).tl (by decide)) (by decide)))) ?_
   refine b6 0 (fun g _=>g) (fun g _=>(by kernel_rfl)) ?_
   intro η_8
   refine P9 (ps:=[0 ≤ IntKind.u64.wrap (n 0) ∧ (0 : Int) < 3]) (by simp only [I3,and_true]; exact ⟨B0 _,by decide⟩) ?_
   refine K9 (p:=IntKind.u64.wrap (n 0) % 3 = 0) 131 c3 ?_
   refine a8 11 ?_
   refine a6 5 ?_
   refine af4 (.one (.int .i64 (r7 (n 5)))) rfl (fun _ _ S w g _ _ _ _=>(kx (B6 g))) ?_
   refine a6 3 ?_
   refine af4 (.one (.int .i64 (ae4 (n 3)))) rfl (fun _ _ S w g _ _ _ _=>(kx (a80 g))) ?_
   refine f4 12 l7 s.p3 (fun _ _ S w g _ _ _ _=>(kx ((bg6 g (cd2 _) (c80 _) (ac4 (by decide))).mono fun v' w' h=>⟨h.1,E3 ▸ h.2⟩))) ?_
   refine b6 1 (fun g d=>(l7 (d 10) s.p3).and g) (fun g _=>(by kernel_rfl)) ?_
   intro η_9
   refine o6 9 j5 s.p3 (fun _ S w g _ _ d=>(kx (A1 g d.1 F.t3 (by decide)))) ?_
   intro h3
   have E4 : M.apply (onT (n 6)) = s.p4:=by rw [← ES]; exact (if_neg fun h=>absurd h.2 (by decide)).symm
   refine i1 ?_
   refine a8 8 ?_
   refine a6 6 ?_
   refine f4 12 l7 (onT (n 6)) (fun _ _ S w g _ _ _ _=>(kx (aj8 g))) ?_
   refine f4 12 l7 s.p4 (fun _ g S w d _ _ s t=>(kx ((M4 d s.2.2.2.2.2.2.2.2.2.2.2.2.2.2.2.1 (j8 t 6 : (l7 (g 6) (onT (n 6))).p S w) D.lM ((ad9 _).tl (by decide)) (by decide)).mono fun v' w' h=>⟨h.1,E4 ▸ h.2⟩))) ?_
   refine b6 1 (fun g d=>(l7 (d 7) s.p4).and g) (fun g _=>(by kernel_rfl)) ?_
   intro η_10
   refine P9 (ps:=[0 ≤ IntKind.u64.wrap (n 0) ∧ (0 : Int) < 3]) (by simp only [I3,and_true]; exact ⟨B0 _,by decide⟩) ?_
   refine K9 (p:=IntKind.u64.wrap (n 0) % 3 = 0) 131 c3 ?_
   refine o6 9 j5 s.p4 (fun _ S w g _ _ d=>(kx (A1 g d.1 F.t4 (by decide)))) ?_
   intro h4
   have E5 : a63 (r7 (n 7)) (ae4 (n 5)) 1 = s.p5:=by rw [← ES]; exact (if_pos ⟨c3,rfl⟩).symm
   refine i1 ?_
   refine a8 8 ?_
   refine a6 6 ?_
   refine f4 12 l7 (onT (n 7)) (fun _ _ S w g _ _ _ _=>(kx (aj8 g))) ?_
   refine f4 12 l7 (M.apply (onT (n 7))) (fun _ g S w d _ _ s t=>(kx (M4 d s.2.2.2.2.2.2.2.2.2.2.2.2.2.2.2.2.2.1 (j8 t 6 : (l7 (g 6) (onT (n 7))).p S w) D.lM ((ad9 _).tl (by decide)) (by decide)))) ?_
   refine b6 0 (fun g _=>g) (fun g _=>(by kernel_rfl)) ?_
   intro η_11
   refine P9 (ps:=[0 ≤ IntKind.u64.wrap (n 0) ∧ (0 : Int) < 3]) (by simp only [I3,and_true]; exact ⟨B0 _,by decide⟩) ?_
   refine K9 (p:=IntKind.u64.wrap (n 0) % 3 = 0) 131 c3 ?_
   refine a8 11 ?_
   refine a6 5 ?_
   refine af4 (.one (.int .i64 (r7 (n 7)))) rfl (fun _ _ S w g _ _ _ _=>(kx (B6 g))) ?_
   refine a6 3 ?_
   refine af4 (.one (.int .i64 (ae4 (n 5)))) rfl (fun _ _ S w g _ _ _ _=>(kx (a80 g))) ?_
   refine f4 12 l7 s.p5 (fun _ _ S w g _ _ _ _=>(kx ((bg6 g (cd2 _) (c80 _) (ac4 (by decide))).mono fun v' w' h=>⟨h.1,E5 ▸ h.2⟩))) ?_
   refine b6 1 (fun g d=>(l7 (d 10) s.p5).and g) (fun g _=>(by kernel_rfl)) ?_
   intro η_12
   refine o6 9 j5 s.p5 (fun _ S w g _ _ d=>(kx (A1 g d.1 F.t5 (by decide)))) ?_
   intro h5
   refine i1 ?_
   exact x7 (fun i=>[(η_4 7),(η_6 10),(η_7 7),(η_9 10),(η_10 7),(η_12 10)].getD i undef,fun i=>[h0,h1,h2,h3,h4,h5].getD i undef) hso0 trivial (fun S w _ g=>⟨I4 trivial,E6 ⟨I2 ⟨okA g.2.2.2.2.2.2.2.2.2.2.2.1.ok,okA g.2.2.2.2.2.2.2.2.2.1.ok,okA g.2.2.2.2.2.2.2.1.ok,okA g.2.2.2.2.2.1.ok,okA g.2.2.2.1.ok,okA g.2.1.ok,trivial⟩,I2 ⟨okA g.2.2.2.2.2.2.2.2.2.2.1.ok,okA g.2.2.2.2.2.2.2.2.1.ok,okA g.2.2.2.2.2.2.1.ok,okA g.2.2.2.2.1.ok,okA g.2.2.1.ok,okA g.1.ok,trivial⟩,trivial⟩⟩) (fun S w _ g=>⟨g.2.2.2.2.2.2.2.2.2.2.2.1,g.2.2.2.2.2.2.2.2.2.1,g.2.2.2.2.2.2.2.1,g.2.2.2.2.2.1,g.2.2.2.1,g.2.1,g.2.2.2.2.2.2.2.2.2.2.1,g.2.2.2.2.2.2.2.2.1,g.2.2.2.2.2.2.1,g.2.2.2.2.1,g.2.2.1,g.1,g.2.2.2.2.2.2.2.2.2.2.2.2⟩)
  have E0 : M.apply (onT (n 2)) = s.p0:=by rw [← ES]; exact (if_neg fun h=>c3 h.1).symm
  refine i1 ?_
  refine a8 8 ?_
  refine a6 6 ?_
  refine f4 12 l7 (onT (n 2)) (fun _ _ S w g _ _ _ _=>(kx (aj8 g))) ?_
  refine f4 12 l7 s.p0 (fun _ g S w d _ _ s t=>(kx ((M4 d s.2.2.2.2.2.2.2.1 (j8 t 6 : (l7 (g 6) (onT (n 2))).p S w) D.lM ((ad9 _).tl (by decide)) (by decide)).mono fun v' w' h=>⟨h.1,E0 ▸ h.2⟩))) ?_
  refine b6 1 (fun g d=>(l7 (d 7) s.p0).and g) (fun g _=>(by kernel_rfl)) ?_
  intro η_4
  refine P9 (ps:=[0 ≤ IntKind.u64.wrap (n 0) ∧ (0 : Int) < 3]) (by simp only [I3,and_true]; exact ⟨B0 _,by decide⟩) ?_
  refine Q1 (p:=IntKind.u64.wrap (n 0) % 3 = 0) 131 c3 ?_
  refine o6 9 j5 s.p0 (fun _ S w g _ _ d=>(kx (A1 g d.1 F.t0 (by decide)))) ?_
  intro h0
  have E1 : M.apply (onT (n 3)) = s.p1:=by rw [← ES]; exact (if_neg fun h=>c3 h.1).symm
  refine i1 ?_
  refine a8 8 ?_
  refine a6 6 ?_
  refine f4 12 l7 (onT (n 3)) (fun _ _ S w g _ _ _ _=>(kx (aj8 g))) ?_
  refine f4 12 l7 s.p1 (fun _ g S w d _ _ s t=>(kx ((M4 d s.2.2.2.2.2.2.2.2.2.1 (j8 t 6 : (l7 (g 6) (onT (n 3))).p S w) D.lM ((ad9 _).tl (by decide)) (by decide)).mono fun v' w' h=>⟨h.1,E1 ▸ h.2⟩))) ?_
  refine b6 1 (fun g d=>(l7 (d 7) s.p1).and g) (fun g _=>(by kernel_rfl)) ?_
  intro η_5
  refine P9 (ps:=[0 ≤ IntKind.u64.wrap (n 0) ∧ (0 : Int) < 3]) (by simp only [I3,and_true]; exact ⟨B0 _,by decide⟩) ?_
  refine Q1 (p:=IntKind.u64.wrap (n 0) % 3 = 0) 131 c3 ?_
  refine o6 9 j5 s.p1 (fun _ S w g _ _ d=>(kx (A1 g d.1 F.t1 (by decide)))) ?_
  intro h1
  have E2 : M.apply (onT (n 4)) = s.p2:=by rw [← ES]; exact (if_neg fun h=>c3 h.1).symm
  refine i1 ?_
  refine a8 8 ?_
  refine a6 6 ?_
  refine f4 12 l7 (onT (n 4)) (fun _ _ S w g _ _ _ _=>(kx (aj8 g))) ?_
  refine f4 12 l7 s.p2 (fun _ g S w d _ _ s t=>(kx ((M4 d s.2.2.2.2.2.2.2.2.2.2.2.1 (j8 t 6 : (l7 (g 6) (onT (n 4))).p S w) D.lM ((ad9 _).tl (by decide)) (by decide)).mono fun v' w' h=>⟨h.1,E2 ▸ h.2⟩))) ?_
  refine b6 1 (fun g d=>(l7 (d 7) s.p2).and g) (fun g _=>(by kernel_rfl)) ?_
  intro η_6
  refine P9 (ps:=[0 ≤ IntKind.u64.wrap (n 0) ∧ (0 : Int) < 3]) (by simp only [I3,and_true]; exact ⟨B0 _,by decide⟩) ?_
  refine Q1 (p:=IntKind.u64.wrap (n 0) % 3 = 0) 131 c3 ?_
  refine o6 9 j5 s.p2 (fun _ S w g _ _ d=>(kx (A1 g d.1 F.t2 (by decide)))) ?_
  intro h2
  have E3 : M.apply (onT (n 5)) = s.p3:=by rw [← ES]; exact (if_neg fun h=>c3 h.1).symm
  refine i1 ?_
  refine a8 8 ?_
  refine a6 6 ?_
  refine f4 12 l7 (onT (n 5)) (fun _ _ S w g _ _ _ _=>(kx (aj8 g))) ?_
  refine f4 12 l7 s.p3 (fun _ g S w d _ _ s t=>(kx ((M4 d s.2.2.2.2.2.2.2.2.2.2.2.2.2.1 (j8 t 6 : (l7 (g 6) (onT (n 5))).p S w) D.lM ((ad9 _).tl (by decide)) (by decide)).mono fun v' w' h=>⟨h.1,E3 ▸ h.2⟩))) ?_
  refine b6 1 (fun g d=>(l7 (d 7) s.p3).and g) (fun g _=>(by kernel_rfl)) ?_
  intro η_7
  refine P9 (ps:=[0 ≤ IntKind.u64.wrap (n 0) ∧ (0 : Int) < 3]) (by simp only [I3,and_true]; exact ⟨B0 _,by decide⟩) ?_
  refine Q1 (p:=IntKind.u64.wrap (n 0) % 3 = 0) 131 c3 ?_
  refine o6 9 j5 s.p3 (fun _ S w g _ _ d=>(kx (A1 g d.1 F.t3 (by decide)))) ?_
  intro h3
  have E4 : M.apply (onT (n 6)) = s.p4:=by rw [← ES]; exact (if_neg fun h=>c3 h.1).symm
  refine i1 ?_
  refine a8 8 ?_
  refine a6 6 ?_
  refine f4 12 l7 (onT (n 6)) (fun _ _ S w g _ _ _ _=>(kx (aj8 g))) ?_
  refine f4 12 l7 s.p4 (fun _ g S w d _ _ s t=>(kx ((M4 d s.2.2.2.2.2.2.2.2.2.2.2.2.2.2.2.1 (j8 t 6 : (l7 (g 6) (onT (n 6))).p S w) D.lM ((ad9 _).tl (by decide)) (by decide)).mono fun v' w' h=>⟨h.1,E4 ▸ h.2⟩))) ?_
  refine b6 1 (fun g d=>(l7 (d 7) s.p4).and g) (fun g _=>(by kernel_rfl)) ?_
  intro η_8
  refine P9 (ps:=[0 ≤ IntKind.u64.wrap (n 0) ∧ (0 : Int) < 3]) (by simp only [I3,and_true]; exact ⟨B0 _,by decide⟩) ?_
  refine Q1 (p:=IntKind.u64.wrap (n 0) % 3 = 0) 131 c3 ?_
  refine o6 9 j5 s.p4 (fun _ S w g _ _ d=>(kx (A1 g d.1 F.t4 (by decide)))) ?_
  intro h4
  have E5 : M.apply (onT (n 7)) = s.p5:=by rw [← ES]; exact (if_neg fun h=>c3 h.1).symm
  refine i1 ?_
  refine a8 8 ?_
  refine a6 6 ?_
  refine f4 12 l7 (onT (n 7)) (fun _ _ S w g _ _ _ _=>(kx (aj8 g))) ?_
  refine f4 12 l7 s.p5 (fun _ g S w d _ _ s t=>(kx ((M4 d s.2.2.2.2.2.2.2.2.2.2.2.2.2.2.2.2.2.1 (j8 t 6 : (l7 (g 6) (onT (n 7))).p S w) D.lM ((ad9 _).tl (by decide)) (by decide)).mono fun v' w' h=>⟨h.1,E5 ▸ h.2⟩))) ?_
  refine b6 1 (fun g d=>(l7 (d 7) s.p5).and g) (fun g _=>(by kernel_rfl)) ?_
  intro η_9
  refine P9 (ps:=[0 ≤ IntKind.u64.wrap (n 0) ∧ (0 : Int) < 3]) (by simp only [I3,and_true]; exact ⟨B0 _,by decide⟩) ?_
  refine Q1 (p:=IntKind.u64.wrap (n 0) % 3 = 0) 131 c3 ?_
  refine o6 9 j5 s.p5 (fun _ S w g _ _ d=>(kx (A1 g d.1 F.t5 (by decide)))) ?_
  intro h5
  refine i1 ?_
  exact x7 (fun i=>[(η_4 7),(η_5 7),(η_6 7),(η_7 7),(η_8 7),(η_9 7)].getD i undef,fun i=>[h0,h1,h2,h3,h4,h5].getD i undef) hso0 trivial (fun S w _ g=>⟨I4 trivial,E6 ⟨I2 ⟨okA g.2.2.2.2.2.2.2.2.2.2.2.1.ok,okA g.2.2.2.2.2.2.2.2.2.1.ok,okA g.2.2.2.2.2.2.2.1.ok,okA g.2.2.2.2.2.1.ok,okA g.2.2.2.1.ok,okA g.2.1.ok,trivial⟩,I2 ⟨okA g.2.2.2.2.2.2.2.2.2.2.1.ok,okA g.2.2.2.2.2.2.2.2.1.ok,okA g.2.2.2.2.2.2.1.ok,okA g.2.2.2.2.1.ok,okA g.2.2.1.ok,okA g.1.ok,trivial⟩,trivial⟩⟩) (fun S w _ g=>⟨g.2.2.2.2.2.2.2.2.2.2.2.1,g.2.2.2.2.2.2.2.2.2.1,g.2.2.2.2.2.2.2.1,g.2.2.2.2.2.1,g.2.2.2.1,g.2.1,g.2.2.2.2.2.2.2.2.2.2.1,g.2.2.2.2.2.2.2.2.1,g.2.2.2.2.2.2.1,g.2.2.2.2.1,g.2.2.1,g.1,g.2.2.2.2.2.2.2.2.2.2.2.2⟩)
 refine ah1 (fun x0=>pr (.ag 9 (N6 x0)) (.int .i64 s.hexE)) (fun x0=>W6 x0 (if s.hexE = 0 then s.line else ⟨0,0,0⟩) s.hexE) (fun _ _ _ h=>a19 h) (fun _ S w g _ d s=>(kx (dk8 (ht.to d) g (dy7 s.2.2.2.2.2.2.1 s.2.2.2.2.2.2.2.1 s.2.2.2.2.2.2.2.2.1 s.2.2.2.2.2.2.2.2.2.1 s.2.2.2.2.2.2.2.2.2.2.1 s.2.2.2.2.2.2.2.2.2.2.2.1) F (by decide) B))) ?_
 intro r
 refine ah1 (fun x0=>pr (.ag 12 (O3 x0 0)) (.tp s.Ok)) (fun x0=>rhG x0 s) (fun _ _ _ h=>⟨bd0 h.2.1 trivial,h.1.symm⟩) (fun _ S w g _ _ d=>(kx (d65 g d.2.1 d.2.2.1 d.2.2.2.1 d.2.2.2.2.1 d.2.2.2.2.2.1 d.2.2.2.2.2.2.1 F (by decide)))) ?_
 intro r2
 refine z7 (p:=¬ s.Ok) (fun e=>?_) (fun e=>?_)
 ·have E : s.hexE = 61:=if_neg e
  refine K9 (p:=s.hexE = 61) 168 E ?_
  refine n9 (.one (.bb true)) rfl (fun _ S w g _ _ d=>(kx (ao5 g (show TripV _ _ _ ⟨0,0,0⟩ by have h:=d.2.1.2; rw [E,if_neg (by decide)] at h; exact h) ⟨rfl,rfl,rfl⟩))) ?_
  refine n9 (.one (.bb true)) rfl (fun _ S w _ _ g _=>(kx (bs9 (ht.to g)))) ?_
  exact j9 (.bool true) rfl (fun S w _ g _=>⟨rfl,g⟩)
 have ok : s.Ok:=Classical.not_not.1 e
 have E : s.hexE = 0:=if_pos ok
 refine K9 (p:=s.hexE = 0) 177 E ?_
 refine n9 (.one (.bb true)) rfl (fun _ S w g _ d t=>(kx (c12 (ht.to d) g (show TripV _ _ _ s.line by have h:=t.2.1.2; rw [E,if_pos rfl] at h; exact h) (t.1.2.2 ok) (R ok).2.2.2 (by decide) (R ok).2.2.1 ((R ok).1.trans (R ok).2.1.symm)))) ?_
 refine n9 (.one (.bb true)) rfl (fun _ S w _ _ g _=>(kx (bs9 (ht.to g)))) ?_
 exact j9 (.bool true) rfl (fun S w _ g _=>⟨rfl,g⟩)
theorem bq2 {n m : Nat → Int} (ht : Tab w) :
  Gives prog 3 [.agg #[.int .i64 (n 0),.int .i64 (n 1),.int .i64 (n 2),.int .i64 (n 3),.int .i64 (n 4),.int .i64 (n 5),.int .i64 (n 6),.int .i64 (n 7)],.agg #[.int .i64 (f 0),.int .i64 (f 1),.int .i64 (f 2),.int .i64 (f 3),.int .i64 (f 4),.int .i64 (f 5)],.agg #[.int .i64 (m 0),.int .i64 (m 1),.int .i64 (m 2),.int .i64 (m 3),.int .i64 (m 4),.int .i64 (m 5),.int .i64 (m 6),.int .i64 (m 7),.int .i64 (m 8)]] w fun v' w'=>v' = .bool true ∧ Ext w w':=
 have h:=dp7 (n:=n) (cq2 m) (b70 m)
 bo9 ht rfl rfl rfl rfl rfl rfl rfl rfl (dt0 rfl rfl rfl rfl rfl) h.1 h.2 (dq5 h.1)
end Go.Proofs.YtmkhgjccoolfjaaGreatDoor
end
section
namespace Go.Proofs.YtmkhgjccoolfjaaGreatDoor
open Go Go.RowKit Go.ChangeShapes Go.WideShapes Go.Proofs.Tryz
variable {H : Type} {P : Program} {w : World} {base n : Nat} {spare : Nat → Bool} {held : Bool} {f : TypeId} {r : Reach} {v : Value}
theorem do6 {enc : TypeId × Value → H} {e : TypeId} {fuel : Nat} {cs : List Value} {x : DataW H × List MemPlace}
  (he : P.underlying e = some (.array n f)) (hf : P.underlying f = some (.int .i64)) (hcf : P.cellsOf f = 1) (hce : P.cellsOf e = n) (h : DataW.trod enc P w base spare held fuel e cs = some x) : ∃ a : Nat → Int,cs = (List.range n).map (fun i=>Value.int .i64 (a i)) ∧ ∀ i,i < n → -9223372036854775808 ≤ a i ∧ a i ≤ 9223372036854775807:=by
 cases fuel with
 | zero=>simp [DataW.trod] at h
 | succ fuel=>
  rw [DataW.trod_step] at h
  unfold DataW.trodStep at h
  rw [he] at h
  simp only at h
  split at h
  ·rename_i hl
   rw [hce] at hl
   simp only [Option.map_eq_some_iff] at h
   obtain ⟨xs,hx,rfl⟩:=h
   have hel : ∀ i,i < n → ∃ z : Int,(cs.drop i).take 1 = [.int .i64 z] ∧ -9223372036854775808 ≤ z ∧ z ≤ 9223372036854775807:=by
    intro i hi
    have h1:=mapM_some_get hx i i (by rw [List.getElem?_range hi])
    have hxl:=mapM_some_length hx
    simp at hxl
    rw [List.getElem?_eq_getElem (by omega)] at h1
    rw [hcf,Nat.mul_one] at h1
    obtain ⟨z,h2,_,h3⟩:=DataW.trod_int hf h1
    refine ⟨z,h2,?_⟩
    simp only [Lit.wf,IntKind.min,IntKind.max,IntKind.signed,IntKind.bits,Bool.and_eq_true,decide_eq_true_eq] at h3
    refine ⟨?_,?_⟩ <;> · have h4:=h3; simp at h4; omega
   have hall : ∀ i : Nat,∃ z : Int,i < n → (cs.drop i).take 1 = [.int .i64 z] ∧ -9223372036854775808 ≤ z ∧ z ≤ 9223372036854775807:=by
    intro i
    by_cases hi : i < n
    ·obtain ⟨z,hz⟩:=hel i hi
     exact ⟨z,fun _=>hz⟩
    exact ⟨0,fun h=>absurd h hi⟩
   refine ⟨fun i=>(hall i).choose,?_,fun i hi=>((hall i).choose_spec hi).2⟩
   refine List.ext_getElem? fun i=>?_
   by_cases hi : i < n
   ·have h1:=((hall i).choose_spec hi).1
    have h2 : ((cs.drop i).take 1)[0]? = cs[i]?:=by simp
    rw [List.getElem?_map,List.getElem?_range hi]
    exact h2.symm.trans (congrArg (fun l : List Value=>l[0]?) h1)
   rw [List.getElem?_eq_none (by omega),List.getElem?_eq_none (by simp; omega)]
  cases h
theorem bz4 {t e : TypeId} (ht : P.underlying t = some (.array n e)) (h : Value.okWide P w r base t v) : ∃ cs,v = .agg cs:=by
 unfold Value.okWide at h
 rw [ht] at h
 obtain ⟨cs,h1,_⟩:=h
 exact ⟨cs,h1⟩
def c34 (n : Nat) (a : Nat → Int) : Value:=.agg ((List.range n).map fun i=>Value.int .i64 (a i)).toArray
theorem a98 {enc : TypeId × Value → H} {W : World} {b2 : Nat} {e : TypeId} {d : DataW H} {p : List MemPlace}
  (he : P.underlying e = some (.array n f)) (hf : P.underlying f = some (.int .i64)) (hcf : P.cellsOf f = 1) (hce : P.cellsOf e = n) (hv : Value.okWide P W r b2 e v) (h : DataW.Trod enc P w base spare held e v d p) : ∃ a : Nat → Int,v = c34 n a ∧ ∀ i,i < n → -9223372036854775808 ≤ a i ∧ a i ≤ 9223372036854775807:=by
 obtain ⟨cs,rfl⟩:=bz4 he hv
 obtain ⟨fuel,h⟩:=h
 obtain ⟨a,h1,h2⟩:=do6 he hf hcf hce h
 refine ⟨a,?_,h2⟩
 unfold c34
 rw [← h1]
 simp [Value.cells]
end Go.Proofs.YtmkhgjccoolfjaaGreatDoor
end
section
namespace Go.Proofs.YtmkhgjccoolfjaaGreatDoor
open Go Go.ChangeShapes Go.WideShapes Go.ChangeAt Go.WideMaps Go.WideElems Go.RowKit Go.Proofs.Tryz
theorem own : ownKnob prog.godebug = none:=by kernel_rfl
theorem fe4 : prog.globalNamed "internal/strconv.uint64pow10" = some 3 := by kernel_rfl
theorem fd2 : (prog.globals[3]?).map (·.type) = some 295:=by kernel_rfl
theorem ff7 : prog.cellsOf 295 = 20:=by kernel_rfl
theorem fc2 : prog.cellsOf 197 = 1:=by kernel_rfl
theorem ff8 : (Rows.laid_internal_strconv_uint64pow10 : DataW Unit) = Lib.tabData .u64 Lib.pow10Tab:=by rfl
theorem dy0 {W : World} (h : laidMetH prog Rows.viewSecondsRow.laid W) : Tab W:=by
 rw [MakeChecks.laidMetH_plain _ _ _ (by kernel_rfl)] at h
 obtain ⟨ps,⟨g0,t0,cs0,f0,p0,q0,hg0,ht0,hv0,hd0,⟨g1,t1,cs1,f1,p1,q1,hg1,ht1,hv1,hd1,⟨g2,t2,cs2,f2,p2,q2,hg2,ht2,hv2,hd2,_⟩,_⟩,_⟩,_⟩:=h
 obtain rfl:=Option.some.inj (fe4.symm.trans hg2)
 obtain rfl:=Option.some.inj (fd2.symm.trans ht2)
 rw [ff8] at hd2
 unfold Tab Lib.TabIs
 rw [hv2,← Lib.cells_of_tab underlying295 underlying197 fc2 ff7 hd2]
theorem dq3 (os : Os) (args : Array Value) : laidMetH prog Rows.viewSecondsRow.laid ((World.laidAll prog os Rows.viewSecondsRow.laid).forCall (fun _ _=>0) ⟨#[],args,[]⟩).memory:=by
 rw [MakeChecks.laidMetH_plain _ _ _ (by kernel_rfl)]
 exact laidMet_laidAll _ (by kernel_rfl) (by kernel_rfl)
theorem bw1 : laidOutB prog = true:=by kernel_rfl
theorem ch1 : prog.cellsOf 3 = 1:=by kernel_rfl
theorem d42 : prog.cellsOf 22 = 8:=by kernel_rfl
theorem d19 : prog.cellsOf 23 = 6:=by kernel_rfl
theorem dz0 : prog.cellsOf 24 = 9:=by kernel_rfl
theorem bj0 (os : Os) (started : os.Started) (H : Type) (enc : TypeId × Value → H) :
  ReturnsInHanded {} Tryz.checked os 3 .any (fun w args=>(Rows.viewSecondsSpec.pre enc prog Tryz.f3 [] false w args ∧ laidMetH prog Rows.viewSecondsRow.laid w) ∧ sizedMet enc prog Tryz.f3 (OpenSpec.ofChange Rows.viewSecondsSpec) false w args)
   (Rows.viewSecondsSpec.post enc prog Tryz.f3 false true false false):=by
 refine returnsInHanded_of_change_and (C:=Tryz.checked) (X:=fun w _=>laidMetH prog Rows.viewSecondsRow.laid w) (fun _ _ _ hh h=>h.of_heap hh) own started (by kernel_rfl) func3
  (ChangeSpec.witness_shaped (enc:=enc) (C:=Tryz.checked) (os:=os) (X:=fun w _=>laidMetH prog Rows.viewSecondsRow.laid w) false (World.laidAll prog os Rows.viewSecondsRow.laid) #[.agg #[.int .i64 0,.int .i64 0,.int .i64 0,.int .i64 0,.int .i64 0,.int .i64 0,.int .i64 0,.int .i64 0],.agg #[.int .i64 0,.int .i64 0,.int .i64 0,.int .i64 0,.int .i64 0,.int .i64 0],.agg #[.int .i64 0,.int .i64 0,.int .i64 0,.int .i64 0,.int .i64 0,.int .i64 0,.int .i64 0,.int .i64 0,.int .i64 0]] 8 (World.laidAll_os _ _ _) (World.shaped_of_ZipB (by kernel_rfl) (by kernel_rfl)) (by kernel_rfl) (by kernel_rfl) (by kernel_rfl) (dq3 os _)) ?_
 intro W base args ds gs before hval0 hW _ _ hL _
 have Z1 : ∀ (j : Nat) t v,Tryz.f3.params[j]? = some t → args[j]? = some v → Value.okWide prog W .any base t v:=hval0
 have hW':=hW
 obtain ⟨p,q,hA0,hV,rfl,hfz,hnd⟩:=hW
 have hA : DataW.TrodAll enc prog W 0 (fun _=>true) true Tryz.f3.params.toList args.toList ds p:=hA0
 rw [params3] at hA Z1
 obtain ⟨v0,v1,v2,d0,d1,d2,p0,p1,p2,rfl,rfl,rfl,h0,h1,h2⟩:=trodAll_three hA
 obtain ⟨rfl,rfl⟩:=trodVars_none hV
 have h0k:=h0
 have h1k:=h1
 have h2k:=h2
 obtain ⟨a,rfl,ba⟩:=a98 underlying22 underlying3 ch1 d42 (Z1 0 22 v0 rfl rfl) h0
 obtain ⟨b,rfl,bb⟩:=a98 underlying23 underlying3 ch1 d19 (Z1 1 23 v1 rfl rfl) h1
 obtain ⟨c,rfl,bc⟩:=a98 underlying24 underlying3 ch1 dz0 (Z1 2 24 v2 rfl rfl) h2
 clear hA0 hval0
 have hlt : ∀ x ∈ p0 ++ p1 ++ p2,x.block < W.heap.size:=fun x hx=>hW'.lt x (List.mem_append_left _ hx)
 have hargs0 : ∀ (W' : World),Below W.heap.size W W' → DataW.Trod enc prog W' 0 (fun b=>decide (b < W.heap.size)) true 22 (c34 8 a) d0 p0:=
  fun W' hn=>Below.trod bw1 (by kernel_rfl) (of_decide_eq_true (by kernel_rfl)) h0k hn fun x hx=>hlt x (by simp [hx])
 have hargs1 : ∀ (W' : World),Below W.heap.size W W' → DataW.Trod enc prog W' 0 (fun b=>decide (b < W.heap.size)) true 23 (c34 6 b) d1 p1:=
  fun W' hn=>Below.trod bw1 (by kernel_rfl) (of_decide_eq_true (by kernel_rfl)) h1k hn fun x hx=>hlt x (by simp [hx])
 have hargs2 : ∀ (W' : World),Below W.heap.size W W' → DataW.Trod enc prog W' 0 (fun b=>decide (b < W.heap.size)) true 24 (c34 9 c) d2 p2:=
  fun W' hn=>Below.trod bw1 (by kernel_rfl) (of_decide_eq_true (by kernel_rfl)) h2k hn fun x hx=>hlt x (by simp [hx])
 refine Calls.mono (bq2 (n:=a) (f:=b) (m:=c) (dy0 hL)) fun e W' ⟨v,he,hv,hw⟩=>?_
 subst he hv
 refine ⟨_,rfl,_,_,_,[],p0 ++ p1 ++ p2,[],hW',?_,?_,rfl,hw.below.frame _,fun h=>by cases h⟩
 ·exact trodAll_mk1 (shut_bool underlying4 _)
 rw [List.append_assoc]; exact trodAll_mk3 (hargs0 W' hw.below) (hargs1 W' hw.below) (hargs2 W' hw.below)
theorem b49 : Rows.ViewSecondsSaid:=
 OpenClaim.holds_of_wide 3 Tryz.f3 rfl rfl rfl rfl rfl rfl rfl ⟨rfl,rfl,rfl,rfl,rfl⟩ rfl rfl rfl rfl rfl (by kernel_rfl) func3 (by kernel_rfl)
  (of_decide_eq_true (by kernel_rfl)) (by unfold Func.isWrapper; first | (rw [if_pos (by decide +kernel)]; kernel_rfl) | (rw [if_neg (by decide +kernel)]; exact ⟨rfl,rfl⟩))
  (fun os started H enc _=>bj0 os started H enc)
theorem seconds_holds : Rows.ViewSecondsCardSaid:=
 Claim7.holds_tied_plain_at .later [] [.data,.data,.data,.data,.sentinel,.sentinel,.pinned] true Rows.viewSecondsCard.stood.harness true
  b49 (fun _ h=>by cases h) (by kernel_rfl) (fun _ h=>by cases h) viewSeconds_row_tie rfl ⟨rfl,rfl⟩ (by kernel_rfl) rfl
  (fun f fn hf hfn=>by
   obtain rfl : f = 3 := Option.some.inj ((show prog.funcNamed "rabbet/rabbetlaw06.ViewSeconds" = some 3 by kernel_rfl).symm.trans hf) |>.symm
   obtain rfl : fn = Tryz.f3:=(Option.some.inj (func3.symm.trans hfn)).symm
   exact ⟨by kernel_rfl,fun j t ht=>by
    rw [params3] at ht
    rcases j with _ | _ | _ | j
    ·obtain rfl : t = 22:=by simpa using ht.symm
     exact (show prog.wantsStandIn 22 = false by kernel_rfl)
    ·obtain rfl : t = 23:=by simpa using ht.symm
     exact (show prog.wantsStandIn 23 = false by kernel_rfl)
    ·obtain rfl : t = 24:=by simpa using ht.symm
     exact (show prog.wantsStandIn 24 = false by kernel_rfl)
    simp at ht⟩)
  (by kernel_rfl)
end Go.Proofs.YtmkhgjccoolfjaaGreatDoor
end

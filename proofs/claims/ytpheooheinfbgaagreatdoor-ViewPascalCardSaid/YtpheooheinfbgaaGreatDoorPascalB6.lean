/- The statement ViewPascal, proved: for every six numbers and every nine numbers the law returns true; the listed tables of the library hold what the program's text lays (the given tie). -/
import Derived.Test.YtpheooheinfbgaaGreatDoorPascalB5
import Derived.Carry
import Derived.Test.YtpheooheinfbgaaGreatDoorPascalB2
import Derived.Test.YtpheooheinfbgaaGreatDoorCards
import Derived.Test.YtpheooheinfbgaaGreatDoorTie
import Derived.ProofKit
import Derived.LaidMore
import Derived.OpenShut
import Derived.Stop.Joined
import Derived.SevenTiedAt
import Derived.Lay
section
set_option linter.unusedVariables false
set_option linter.unusedSimpArgs false
namespace Go.Proofs.YtpheooheinfbgaaGreatDoor
open Go Go.RowKit
section
variable {c : Cx} {st : St} {G : Gh} {all : List Oper} {K : List HRec → Prop} {acc : List HRec} {ops : List Oper}
def atAH (c : Cx) (st : St) (acc : List HRec) (ops : List Oper) (η : Nat → Value) : Option (Value × Nat × Int × Nat):=match (opH ops).op with
 | .indexAddr T x ix=>match opd (frH st acc η) x,opd (frH st acc η) ix,kindOf c.E T with
  | some (.one (.val v)),some (.one (.lit _ z)),.array n e=>(c.E.get e).map fun te=>(v,n,z,te.size)
  | _,_,_=>none
 | _=>none
theorem y5 (u : Value) (n : Nat) (i : Int) (sz : Nat) (hc : c.Ok) (hok : ∀ η,hopOk all st acc ops η = true) (hq : ∀ η,atAH c st acc ops η = some (u,n,i,sz)) (h0 : 0 ≤ i) (h1 : i < n)
  (h : ∀ β η S w,Mem c.bs st.hp β w → Keeps c.K c.w0 w → G.p S w → depsH acc (opH ops).after.toList η S w → ∃ b k,u = .pointer (some ⟨b,k,none⟩))
  (k : Hd c st G all K (.spec ((opH ops).dst.getD 0) (fun x=>.one (.val x)) (fun x=>pureG (x = ptrAdd u (i.toNat * sz))) :: acc) (ops.drop 1)) : Hd c st G all K acc ops:=by
 refine az9 (fun x=>.one (.val x)) (fun x=>pureG (x = ptrAdd u (i.toNat * sz))) hok (fun β η S w F m ty hkn hup hM hS hw hG hd=>?_) k
 have hq:=hq η
 unfold atAH at hq
 split at hq <;> first | (cases hq; done) | skip
 rename_i T x ix hop
 split at hq <;> first | (cases hq; done) | skip
 rename_i v kd z n' e hx hix hk
 cases hte : c.E.get e with
 | none=>rw [hte] at hq; cases hq
 | some te=>
  rw [hte] at hq
  simp only [Option.map_some,Option.some.injEq,Prod.mk.injEq] at hq
  obtain ⟨rfl,rfl,rfl,rfl⟩:=hq
  have hkd:=C1 (t:=T) hc.env
  rw [hk] at hkd
  have hkd' : c.P.underlying T = some (.array n' e):=hkd
  obtain ⟨zz,hty,_⟩:=(hc.env.get hte).ty
  obtain ⟨b,k',hu⟩:=h β η S w hM hw hG hd
  rw [hop] at hkn ⊢
  have g1 : ev F x = .pointer (some ⟨b,k',none⟩):=by rw [(hkn x (by simp [Op.operands]) _ hx).1]; exact hu
  have g2:=(hkn ix (by simp [Op.operands]) _ hix).1
  refine ⟨ptrAdd v (z.toNat * te.size),?_,rfl,aq4 _ _,rfl⟩
  rw [hu]
  intro d pos aft g
  simp [execOp,g1,g2,SV.den,Ch.den,Instr.indexAt,asIntOf,run_underlying hkd',Instr.sureAddr,h0,h1,hty.runSize w,P5,ptrAdd]
end
theorem At.part {g : Bool} {s : Nat} {S : Nat → Prop} {w : World} {u : Value} {vs : List Value} (h : At S w u (catV vs)) (hl : ∀ x ∈ vs,Lies g s x) {i : Nat} {x : Value} (hx : vs[i]? = some x) : At S w (ptrAdd u (i * s)) x.cells.toList:=by
 obtain ⟨b,o,arr,T,fr,h1,h2,h3,h4,h5⟩:=h
 have hi:=(List.getElem?_eq_some_iff.1 hx).1
 have hx1:=(hl x (List.mem_of_getElem? hx)).1
 have hc:=L8 hl
 have h6:=X4 hl hx
 have hle : (i + 1) * s ≤ vs.length * s:=Nat.mul_le_mul_right _ hi
 rw [Nat.add_mul,Nat.one_mul] at hle
 refine ⟨b,o + i * s,arr,T,fr,by rw [h1]; rfl,h2,h3,by rw [hx1]; omega,?_⟩
 rw [hx1,← h6]
 show ((arr.toList.drop (o + i * s)).take s) = ((catV vs).drop (i * s)).take s
 rw [← h5,hc,List.drop_take,List.drop_drop,List.take_take]
 congr 1
 omega
def Six6.list (s : Six6) : List T3:=[s.p0,s.p1,s.p2,s.p3,s.p4,s.p5]
def HexP (S : Nat → Prop) (w : World) (u : Value) (s : Six6) : Prop:=∃ vs,At S w u (catV vs) ∧ ElsV true 9 triF S w vs s.list
abbrev hexP (u : Value) (s : Six6) : Gh:=⟨fun S w=>HexP S w u s,fun ⟨vs,h1,h2⟩ k=>⟨vs,h1.keep k,(elsG true 9 triF vs s.list).keep h2 k⟩,fun ⟨vs,h1,h2⟩ k=>⟨vs,h1.mono k,(elsG true 9 triF vs s.list).mono h2 k⟩⟩
section
variable {S : Nat → Prop} {w : World} {u : Value} {s : Six6}
theorem HexP.ptr (h : HexP S w u s) : ∃ b k,u = .pointer (some ⟨b,k,none⟩):=by
 obtain ⟨vs,⟨b,o,_,_,_,h1,_⟩,_⟩:=h
 exact ⟨b,o,h1⟩
theorem HexP.el (h : HexP S w u s) {i : Nat} {t : T3} {p : Value} (hi : s.list[i]? = some t) (hp : p = ptrAdd u (i * 9)) : ∃ S' x,Lies true 9 x ∧ At S' w p x.cells.toList ∧ (triG x t).p S w:=by
 subst hp
 obtain ⟨vs,h1,h2⟩:=h
 have hl : i < vs.length:=by rw [h2.len]; exact (List.getElem?_eq_some_iff.1 hi).1
 have hx : vs[i]? = some vs[i]:=List.getElem?_eq_getElem hl
 exact ⟨S,vs[i],h2.lies _ (List.getElem_mem _),h1.part h2.lies hx,h2.el i t _ hi hx⟩
theorem HexP.seq (h : HexP S w u s) : ∃ b k,u = .pointer (some ⟨b,k,none⟩) ∧ (trisG (.slice (some ⟨b,k,none⟩) 6 6) s.list).p S w:=by
 obtain ⟨vs,h1,h2⟩:=h
 exact ck8 h2 h1 (show 6 ≤ maxLen by decide)
end
theorem cr8 {s : Six6} {P : T3 → Prop} (h0 : P s.p0) (h1 : P s.p1) (h2 : P s.p2) (h3 : P s.p3) (h4 : P s.p4) (h5 : P s.p5) : ∀ t ∈ s.list,P t:=by
 intro t ht
 simp only [Six6.list,List.mem_cons,List.not_mem_nil,or_false] at ht
 rcases ht with rfl | rfl | rfl | rfl | rfl | rfl
 ·exact h0
 ·exact h1
 ·exact h2
 ·exact h3
 ·exact h4
 ·exact h5
namespace Six6
def n0 (s : Six6) : T3:=(s.l0.normal.cross s.l3.normal).normal
def n1 (s : Six6) : T3:=(s.l1.normal.cross s.l4.normal).normal
def n2 (s : Six6) : T3:=(s.l2.normal.cross s.l5.normal).normal
noncomputable def line (s : Six6) : T3:=if T3.Same s.n0 s.n1 then (s.n0.cross s.n2).normal else (s.n0.cross s.n1).normal
structure Few (s : Six6) (k : Nat) : Prop where
 t0 : tl s.p0 k
 t1 : tl s.p1 k
 t2 : tl s.p2 k
 t3 : tl s.p3 k
 t4 : tl s.p4 k
 t5 : tl s.p5 k
end Six6
theorem aa7 {p q : T3} {k : Nat} (hp : tl p k) (hq : tl q k) : tl (p.cross q).normal (6 * k + 1) ∧ il (p.cross q).normal (6 * k + 1):=by
 have h:=aq6 (a89 hp) (a89 hq)
 have h2 : il (p.cross q) (6 * k + 1):=bu8 h (by omega)
 exact ⟨ab5 h2 (by omega),aw0 h2⟩
theorem ay5 {u v : T3} {k : Nat} (hu : il u (6 * k + 1)) (hv : il v (6 * k + 1)) : tl (u.cross v).normal (12 * k + 3) ∧ il (u.cross v).normal (12 * k + 3):=by
 have h2 : il (u.cross v) (12 * k + 3):=bu8 (aq6 hu hv) (by omega)
 exact ⟨ab5 h2 (by omega),aw0 h2⟩
theorem bi9 {u v : T3} {k : Nat} (hu : il u (12 * k + 3)) (hv : il v (12 * k + 3)) : tl (u.cross v).normal (24 * k + 7):=ab5 (bu8 (aq6 hu hv) (by omega)) (by omega)
set_option maxRecDepth 100000 in
set_option maxHeartbeats 8000000 in
theorem bb3 {S : Nat → Prop} {w : World} {u : Value} {s : Six6} {k : Nat} (ht : Tab w) (hS : Up S w) (o : u.oneCell' = true) (h : HexP S w u s) (hk : s.Few k) (hk2 : k ≤ 10) (hb : ∀ t ∈ s.list,badE t = 0) (g : s.Ok) :
  Gives Tryz.prog 54 [u] w fun v' w'=>Ext w w' ∧ TripV S w' v' s.line:=by
 have S0:=aa7 hk.t0 hk.t1
 have D0 : ¬ T3.Same s.p0 s.p1:=fun e=>g.d01 (T3.same_symm e)
 have K0 : T3.Like s.l0.normal s.l0:=T3.like_normal D0
 have S1:=aa7 hk.t1 hk.t2
 have D1 : ¬ T3.Same s.p1 s.p2:=fun e=>g.d12 (T3.same_symm e)
 have K1 : T3.Like s.l1.normal s.l1:=T3.like_normal D1
 have S2:=aa7 hk.t2 hk.t3
 have D2 : ¬ T3.Same s.p2 s.p3:=fun e=>g.d23 (T3.same_symm e)
 have K2 : T3.Like s.l2.normal s.l2:=T3.like_normal D2
 have S3:=aa7 hk.t3 hk.t4
 have D3 : ¬ T3.Same s.p3 s.p4:=fun e=>g.d34 (T3.same_symm e)
 have K3 : T3.Like s.l3.normal s.l3:=T3.like_normal D3
 have S4:=aa7 hk.t4 hk.t5
 have D4 : ¬ T3.Same s.p4 s.p5:=fun e=>g.d45 (T3.same_symm e)
 have K4 : T3.Like s.l4.normal s.l4:=T3.like_normal D4
 have S5:=aa7 hk.t5 hk.t0
 have D5 : ¬ T3.Same s.p5 s.p0:=g.d05
 have K5 : T3.Like s.l5.normal s.l5:=T3.like_normal D5
 have M0:=ay5 S0.2 S3.2
 have O0 : ¬ T3.Same s.l0.normal s.l3.normal:=fun e=>g.o0 ((K0.same K3).1 e)
 have N0 : T3.Like s.n0 s.m0:=(T3.like_normal O0).trans (K0.cross K3)
 have M1:=ay5 S1.2 S4.2
 have O1 : ¬ T3.Same s.l1.normal s.l4.normal:=fun e=>g.o1 ((K1.same K4).1 e)
 have N1 : T3.Like s.n1 s.m1:=(T3.like_normal O1).trans (K1.cross K4)
 have M2:=ay5 S2.2 S5.2
 have O2 : ¬ T3.Same s.l2.normal s.l5.normal:=fun e=>g.o2 ((K2.same K5).1 e)
 have N2 : T3.Like s.n2 s.m2:=(T3.like_normal O2).trans (K2.cross K5)
 have F : T3.Flat s.n0 s.n1 s.n2:=(N0.flat N1 N2).2 g.fl
 have NS : T3.Same s.n0 s.n1 → ¬ T3.Same s.n0 s.n2:=fun e1 e2=>g.ns ⟨(N0.same N1).1 e1,(N0.same N2).1 e2⟩
 refine o8 (E:=env) (S0:=S) (G:=(hexP u s)) (l:=[.one (.val u)]) Tryz.func54 rfl rfl rfl ⟨o,trivial⟩ rfl h ?_
 refine q7 ⟨a8,hS,b7⟩ (by kernel_rfl) (cl6 u 6 (fun x0=>trisG x0 s.list) (by kernel_rfl) ⟨a8,hS,b7⟩ (fun β S w hM hw hG=>have h:=hG; h.seq) ?_)
 intro v0
 refine s_K (.und) ⟨a8,hS,b7⟩ (by kernel_rfl) (by kernel_rfl) (j9 rfl) rfl (fun β S w hS hs hw hG=>have hs0:=hG.1; ⟨_,(by kernel_rfl),R0 (ht.to hw) hS hs0 (cr8 (H4 hk.t0 (by omega)) (H4 hk.t1 (by omega)) (H4 hk.t2 (by omega)) (H4 hk.t3 (by omega)) (H4 hk.t4 (by omega)) (H4 hk.t5 (by omega))) hb⟩) ?_
 refine A5 ⟨a8,hS,b7⟩ (by kernel_rfl) ?_
 refine l8 6 ⟨a8,hS,b7⟩ (by kernel_rfl) (by kernel_rfl) (by kernel_rfl) ?_
 refine i1 1 (fun η=>(by kernel_rfl)) ?_
 refine y5 u 6 1 9 ⟨a8,hS,b7⟩ (fun η=>(by kernel_rfl)) (fun η=>(by kernel_rfl)) (by decide) (by decide) (fun β η S w hM hw hG hd=>have h:=hG.2; h.ptr) ?_
 refine s6 (fun η=>η 1) 44 9 true (fun x0=>.one (.ag 9 x0)) (fun x0=>triG x0 (s.p1)) (fun η=>(by kernel_rfl)) (fun η=>(by kernel_rfl)) ⟨a8,hS,b7⟩ (fun _ _ _ h=>⟨h.ok,rfl⟩) (fun β η S w hM hw hG hd=>have h:=hG.2; h.el (i:=1) rfl (dep hd 1 (by kernel_rfl) (by kernel_rfl) : (pureG ((η 1) = ptrAdd u (Int.toNat 1 * 9))).p S w)) ?_
 refine i1 1 (fun η=>(by kernel_rfl)) ?_
 refine y5 u 6 0 9 ⟨a8,hS,b7⟩ (fun η=>(by kernel_rfl)) (fun η=>(by kernel_rfl)) (by decide) (by decide) (fun β η S w hM hw hG hd=>have h:=hG.2; h.ptr) ?_
 refine s6 (fun η=>η 4) 44 9 true (fun x0=>.one (.ag 9 x0)) (fun x0=>triG x0 (s.p0)) (fun η=>(by kernel_rfl)) (fun η=>(by kernel_rfl)) ⟨a8,hS,b7⟩ (fun _ _ _ h=>⟨h.ok,rfl⟩) (fun β η S w hM hw hG hd=>have h:=hG.2; h.el (i:=0) rfl (dep hd 4 (by kernel_rfl) (by kernel_rfl) : (pureG ((η 4) = ptrAdd u (Int.toNat 0 * 9))).p S w)) ?_
 refine l6 [true,false,true,false] ((hexP u s).and (Gh.nil)) (by exact fun _ _ h=>⟨h.2,trivial⟩) (fun g η=>(triG (η 5) (s.p0)).and ((triG (η 2) (s.p1)).and g)) (by kernel_rfl) (fun g η=>(by kernel_rfl)) ?_
 intro η_1
 refine s_K (.one (.tp (T3.Same s.p1 s.p0))) ⟨a8,hS,b7⟩ (by kernel_rfl) (by kernel_rfl) (j9 rfl) rfl (fun β S w hS hs hw hG=>have y10:=hG.1; have x10:=hG.2.1; ⟨_,(by kernel_rfl),E7 hS x10 y10 hk.t1 hk.t0 (by omega)⟩) ?_
 refine I5 (p:=T3.Same s.p1 s.p0) ⟨a8,hS,b7⟩ (by kernel_rfl) (by kernel_rfl) (by kernel_rfl) (g.d01) ?_
 refine A5 ⟨a8,hS,b7⟩ (by kernel_rfl) ?_
 refine l8 6 ⟨a8,hS,b7⟩ (by kernel_rfl) (by kernel_rfl) (by kernel_rfl) ?_
 refine i1 1 (fun η=>(by kernel_rfl)) ?_
 refine y5 u 6 2 9 ⟨a8,hS,b7⟩ (fun η=>(by kernel_rfl)) (fun η=>(by kernel_rfl)) (by decide) (by decide) (fun β η S w hM hw hG hd=>have h:=hG.2.2.1; h.ptr) ?_
 refine s6 (fun η=>η 1) 44 9 true (fun x0=>.one (.ag 9 x0)) (fun x0=>triG x0 (s.p2)) (fun η=>(by kernel_rfl)) (fun η=>(by kernel_rfl)) ⟨a8,hS,b7⟩ (fun _ _ _ h=>⟨h.ok,rfl⟩) (fun β η S w hM hw hG hd=>have h:=hG.2.2.1; h.el (i:=2) rfl (dep hd 1 (by kernel_rfl) (by kernel_rfl) : (pureG ((η 1) = ptrAdd u (Int.toNat 2 * 9))).p S w)) ?_
 refine i1 1 (fun η=>(by kernel_rfl)) ?_
 refine y5 u 6 0 9 ⟨a8,hS,b7⟩ (fun η=>(by kernel_rfl)) (fun η=>(by kernel_rfl)) (by decide) (by decide) (fun β η S w hM hw hG hd=>have h:=hG.2.2.1; h.ptr) ?_
 refine s6 (fun η=>η 4) 44 9 true (fun x0=>.one (.ag 9 x0)) (fun x0=>triG x0 (s.p0)) (fun η=>(by kernel_rfl)) (fun η=>(by kernel_rfl)) ⟨a8,hS,b7⟩ (fun _ _ _ h=>⟨h.ok,rfl⟩) (fun β η S w hM hw hG hd=>have h:=hG.2.2.1; h.el (i:=0) rfl (dep hd 4 (by kernel_rfl) (by kernel_rfl) : (pureG ((η 4) = ptrAdd u (Int.toNat 0 * 9))).p S w)) ?_
 refine l6 [true,false,true,false] ((hexP u s).and (Gh.nil)) (by exact fun _ _ h=>⟨h.2.2.1,trivial⟩) (fun g η=>(triG (η 5) (s.p0)).and ((triG (η 2) (s.p2)).and g)) (by kernel_rfl) (fun g η=>(by kernel_rfl)) ?_
 intro η_2
 refine s_K (.one (.tp (T3.Same s.p2 s.p0))) ⟨a8,hS,b7⟩ (by kernel_rfl) (by kernel_rfl) (j9 rfl) rfl (fun β S w hS hs hw hG=>have y20:=hG.1; have x20:=hG.2.1; ⟨_,(by kernel_rfl),E7 hS x20 y20 hk.t2 hk.t0 (by omega)⟩) ?_
 refine I5 (p:=T3.Same s.p2 s.p0) ⟨a8,hS,b7⟩ (by kernel_rfl) (by kernel_rfl) (by kernel_rfl) (g.d02) ?_
 refine A5 ⟨a8,hS,b7⟩ (by kernel_rfl) ?_
 refine l8 6 ⟨a8,hS,b7⟩ (by kernel_rfl) (by kernel_rfl) (by kernel_rfl) ?_
 refine i1 1 (fun η=>(by kernel_rfl)) ?_
 refine y5 u 6 2 9 ⟨a8,hS,b7⟩ (fun η=>(by kernel_rfl)) (fun η=>(by kernel_rfl)) (by decide) (by decide) (fun β η S w hM hw hG hd=>have h:=hG.2.2.1; h.ptr) ?_
 refine s6 (fun η=>η 1) 44 9 true (fun x0=>.one (.ag 9 x0)) (fun x0=>triG x0 (s.p2)) (fun η=>(by kernel_rfl)) (fun η=>(by kernel_rfl)) ⟨a8,hS,b7⟩ (fun _ _ _ h=>⟨h.ok,rfl⟩) (fun β η S w hM hw hG hd=>have h:=hG.2.2.1; h.el (i:=2) rfl (dep hd 1 (by kernel_rfl) (by kernel_rfl) : (pureG ((η 1) = ptrAdd u (Int.toNat 2 * 9))).p S w)) ?_
 refine i1 1 (fun η=>(by kernel_rfl)) ?_
 refine y5 u 6 1 9 ⟨a8,hS,b7⟩ (fun η=>(by kernel_rfl)) (fun η=>(by kernel_rfl)) (by decide) (by decide) (fun β η S w hM hw hG hd=>have h:=hG.2.2.1; h.ptr) ?_
 refine s6 (fun η=>η 4) 44 9 true (fun x0=>.one (.ag 9 x0)) (fun x0=>triG x0 (s.p1)) (fun η=>(by kernel_rfl)) (fun η=>(by kernel_rfl)) ⟨a8,hS,b7⟩ (fun _ _ _ h=>⟨h.ok,rfl⟩) (fun β η S w hM hw hG hd=>have h:=hG.2.2.1; h.el (i:=1) rfl (dep hd 4 (by kernel_rfl) (by kernel_rfl) : (pureG ((η 4) = ptrAdd u (Int.toNat 1 * 9))).p S w)) ?_
 refine l6 [true,false,true,false] ((hexP u s).and (Gh.nil)) (by exact fun _ _ h=>⟨h.2.2.1,trivial⟩) (fun g η=>(triG (η 5) (s.p1)).and ((triG (η 2) (s.p2)).and g)) (by kernel_rfl) (fun g η=>(by kernel_rfl)) ?_
 intro η_3
 refine s_K (.one (.tp (T3.Same s.p2 s.p1))) ⟨a8,hS,b7⟩ (by kernel_rfl) (by kernel_rfl) (j9 rfl) rfl (fun β S w hS hs hw hG=>have y21:=hG.1; have x21:=hG.2.1; ⟨_,(by kernel_rfl),E7 hS x21 y21 hk.t2 hk.t1 (by omega)⟩) ?_
 refine I5 (p:=T3.Same s.p2 s.p1) ⟨a8,hS,b7⟩ (by kernel_rfl) (by kernel_rfl) (by kernel_rfl) (g.d12) ?_
 refine A5 ⟨a8,hS,b7⟩ (by kernel_rfl) ?_
 refine l8 6 ⟨a8,hS,b7⟩ (by kernel_rfl) (by kernel_rfl) (by kernel_rfl) ?_
 refine i1 1 (fun η=>(by kernel_rfl)) ?_
 refine y5 u 6 3 9 ⟨a8,hS,b7⟩ (fun η=>(by kernel_rfl)) (fun η=>(by kernel_rfl)) (by decide) (by decide) (fun β η S w hM hw hG hd=>have h:=hG.2.2.1; h.ptr) ?_
 refine s6 (fun η=>η 1) 44 9 true (fun x0=>.one (.ag 9 x0)) (fun x0=>triG x0 (s.p3)) (fun η=>(by kernel_rfl)) (fun η=>(by kernel_rfl)) ⟨a8,hS,b7⟩ (fun _ _ _ h=>⟨h.ok,rfl⟩) (fun β η S w hM hw hG hd=>have h:=hG.2.2.1; h.el (i:=3) rfl (dep hd 1 (by kernel_rfl) (by kernel_rfl) : (pureG ((η 1) = ptrAdd u (Int.toNat 3 * 9))).p S w)) ?_
 refine i1 1 (fun η=>(by kernel_rfl)) ?_
 refine y5 u 6 0 9 ⟨a8,hS,b7⟩ (fun η=>(by kernel_rfl)) (fun η=>(by kernel_rfl)) (by decide) (by decide) (fun β η S w hM hw hG hd=>have h:=hG.2.2.1; h.ptr) ?_
 refine s6 (fun η=>η 4) 44 9 true (fun x0=>.one (.ag 9 x0)) (fun x0=>triG x0 (s.p0)) (fun η=>(by kernel_rfl)) (fun η=>(by kernel_rfl)) ⟨a8,hS,b7⟩ (fun _ _ _ h=>⟨h.ok,rfl⟩) (fun β η S w hM hw hG hd=>have h:=hG.2.2.1; h.el (i:=0) rfl (dep hd 4 (by kernel_rfl) (by kernel_rfl) : (pureG ((η 4) = ptrAdd u (Int.toNat 0 * 9))).p S w)) ?_
 refine l6 [true,false,true,false] ((hexP u s).and (Gh.nil)) (by exact fun _ _ h=>⟨h.2.2.1,trivial⟩) (fun g η=>(triG (η 5) (s.p0)).and ((triG (η 2) (s.p3)).and g)) (by kernel_rfl) (fun g η=>(by kernel_rfl)) ?_
 intro η_4
 refine s_K (.one (.tp (T3.Same s.p3 s.p0))) ⟨a8,hS,b7⟩ (by kernel_rfl) (by kernel_rfl) (j9 rfl) rfl (fun β S w hS hs hw hG=>have y30:=hG.1; have x30:=hG.2.1; ⟨_,(by kernel_rfl),E7 hS x30 y30 hk.t3 hk.t0 (by omega)⟩) ?_
 refine I5 (p:=T3.Same s.p3 s.p0) ⟨a8,hS,b7⟩ (by kernel_rfl) (by kernel_rfl) (by kernel_rfl) (g.d03) ?_
 refine A5 ⟨a8,hS,b7⟩ (by kernel_rfl) ?_
 refine l8 6 ⟨a8,hS,b7⟩ (by kernel_rfl) (by kernel_rfl) (by kernel_rfl) ?_
 refine i1 1 (fun η=>(by kernel_rfl)) ?_
 refine y5 u 6 3 9 ⟨a8,hS,b7⟩ (fun η=>(by kernel_rfl)) (fun η=>(by kernel_rfl)) (by decide) (by decide) (fun β η S w hM hw hG hd=>have h:=hG.2.2.1; h.ptr) ?_
 refine s6 (fun η=>η 1) 44 9 true (fun x0=>.one (.ag 9 x0)) (fun x0=>triG x0 (s.p3)) (fun η=>(by kernel_rfl)) (fun η=>(by kernel_rfl)) ⟨a8,hS,b7⟩ (fun _ _ _ h=>⟨h.ok,rfl⟩) (fun β η S w hM hw hG hd=>have h:=hG.2.2.1; h.el (i:=3) rfl (dep hd 1 (by kernel_rfl) (by kernel_rfl) : (pureG ((η 1) = ptrAdd u (Int.toNat 3 * 9))).p S w)) ?_
 refine i1 1 (fun η=>(by kernel_rfl)) ?_
 refine y5 u 6 1 9 ⟨a8,hS,b7⟩ (fun η=>(by kernel_rfl)) (fun η=>(by kernel_rfl)) (by decide) (by decide) (fun β η S w hM hw hG hd=>have h:=hG.2.2.1; h.ptr) ?_
 refine s6 (fun η=>η 4) 44 9 true (fun x0=>.one (.ag 9 x0)) (fun x0=>triG x0 (s.p1)) (fun η=>(by kernel_rfl)) (fun η=>(by kernel_rfl)) ⟨a8,hS,b7⟩ (fun _ _ _ h=>⟨h.ok,rfl⟩) (fun β η S w hM hw hG hd=>have h:=hG.2.2.1; h.el (i:=1) rfl (dep hd 4 (by kernel_rfl) (by kernel_rfl) : (pureG ((η 4) = ptrAdd u (Int.toNat 1 * 9))).p S w)) ?_
 refine l6 [true,false,true,false] ((hexP u s).and (Gh.nil)) (by exact fun _ _ h=>⟨h.2.2.1,trivial⟩) (fun g η=>(triG (η 5) (s.p1)).and ((triG (η 2) (s.p3)).and g)) (by kernel_rfl) (fun g η=>(by kernel_rfl)) ?_
 intro η_5
 refine s_K (.one (.tp (T3.Same s.p3 s.p1))) ⟨a8,hS,b7⟩ (by kernel_rfl) (by kernel_rfl) (j9 rfl) rfl (fun β S w hS hs hw hG=>have y31:=hG.1; have x31:=hG.2.1; ⟨_,(by kernel_rfl),E7 hS x31 y31 hk.t3 hk.t1 (by omega)⟩) ?_
 refine I5 (p:=T3.Same s.p3 s.p1) ⟨a8,hS,b7⟩ (by kernel_rfl) (by kernel_rfl) (by kernel_rfl) (g.d13) ?_
 refine A5 ⟨a8,hS,b7⟩ (by kernel_rfl) ?_
 refine l8 6 ⟨a8,hS,b7⟩ (by kernel_rfl) (by kernel_rfl) (by kernel_rfl) ?_
 refine i1 1 (fun η=>(by kernel_rfl)) ?_
 refine y5 u 6 3 9 ⟨a8,hS,b7⟩ (fun η=>(by kernel_rfl)) (fun η=>(by kernel_rfl)) (by decide) (by decide) (fun β η S w hM hw hG hd=>have h:=hG.2.2.1; h.ptr) ?_
 refine s6 (fun η=>η 1) 44 9 true (fun x0=>.one (.ag 9 x0)) (fun x0=>triG x0 (s.p3)) (fun η=>(by kernel_rfl)) (fun η=>(by kernel_rfl)) ⟨a8,hS,b7⟩ (fun _ _ _ h=>⟨h.ok,rfl⟩) (fun β η S w hM hw hG hd=>have h:=hG.2.2.1; h.el (i:=3) rfl (dep hd 1 (by kernel_rfl) (by kernel_rfl) : (pureG ((η 1) = ptrAdd u (Int.toNat 3 * 9))).p S w)) ?_
 refine i1 1 (fun η=>(by kernel_rfl)) ?_
 refine y5 u 6 2 9 ⟨a8,hS,b7⟩ (fun η=>(by kernel_rfl)) (fun η=>(by kernel_rfl)) (by decide) (by decide) (fun β η S w hM hw hG hd=>have h:=hG.2.2.1; h.ptr) ?_
 refine s6 (fun η=>η 4) 44 9 true (fun x0=>.one (.ag 9 x0)) (fun x0=>triG x0 (s.p2)) (fun η=>(by kernel_rfl)) (fun η=>(by kernel_rfl)) ⟨a8,hS,b7⟩ (fun _ _ _ h=>⟨h.ok,rfl⟩) (fun β η S w hM hw hG hd=>have h:=hG.2.2.1; h.el (i:=2) rfl (dep hd 4 (by kernel_rfl) (by kernel_rfl) : (pureG ((η 4) = ptrAdd u (Int.toNat 2 * 9))).p S w)) ?_
 refine l6 [true,false,true,false] ((hexP u s).and (Gh.nil)) (by exact fun _ _ h=>⟨h.2.2.1,trivial⟩) (fun g η=>(triG (η 5) (s.p2)).and ((triG (η 2) (s.p3)).and g)) (by kernel_rfl) (fun g η=>(by kernel_rfl)) ?_
 intro η_6
 refine s_K (.one (.tp (T3.Same s.p3 s.p2))) ⟨a8,hS,b7⟩ (by kernel_rfl) (by kernel_rfl) (j9 rfl) rfl (fun β S w hS hs hw hG=>have y32:=hG.1; have x32:=hG.2.1; ⟨_,(by kernel_rfl),E7 hS x32 y32 hk.t3 hk.t2 (by omega)⟩) ?_
 refine I5 (p:=T3.Same s.p3 s.p2) ⟨a8,hS,b7⟩ (by kernel_rfl) (by kernel_rfl) (by kernel_rfl) (g.d23) ?_
 refine A5 ⟨a8,hS,b7⟩ (by kernel_rfl) ?_
 refine l8 6 ⟨a8,hS,b7⟩ (by kernel_rfl) (by kernel_rfl) (by kernel_rfl) ?_
 refine i1 1 (fun η=>(by kernel_rfl)) ?_
 refine y5 u 6 4 9 ⟨a8,hS,b7⟩ (fun η=>(by kernel_rfl)) (fun η=>(by kernel_rfl)) (by decide) (by decide) (fun β η S w hM hw hG hd=>have h:=hG.2.2.1; h.ptr) ?_
 refine s6 (fun η=>η 1) 44 9 true (fun x0=>.one (.ag 9 x0)) (fun x0=>triG x0 (s.p4)) (fun η=>(by kernel_rfl)) (fun η=>(by kernel_rfl)) ⟨a8,hS,b7⟩ (fun _ _ _ h=>⟨h.ok,rfl⟩) (fun β η S w hM hw hG hd=>have h:=hG.2.2.1; h.el (i:=4) rfl (dep hd 1 (by kernel_rfl) (by kernel_rfl) : (pureG ((η 1) = ptrAdd u (Int.toNat 4 * 9))).p S w)) ?_
 refine i1 1 (fun η=>(by kernel_rfl)) ?_
 refine y5 u 6 0 9 ⟨a8,hS,b7⟩ (fun η=>(by kernel_rfl)) (fun η=>(by kernel_rfl)) (by decide) (by decide) (fun β η S w hM hw hG hd=>have h:=hG.2.2.1; h.ptr) ?_
 refine s6 (fun η=>η 4) 44 9 true (fun x0=>.one (.ag 9 x0)) (fun x0=>triG x0 (s.p0)) (fun η=>(by kernel_rfl)) (fun η=>(by kernel_rfl)) ⟨a8,hS,b7⟩ (fun _ _ _ h=>⟨h.ok,rfl⟩) (fun β η S w hM hw hG hd=>have h:=hG.2.2.1; h.el (i:=0) rfl (dep hd 4 (by kernel_rfl) (by kernel_rfl) : (pureG ((η 4) = ptrAdd u (Int.toNat 0 * 9))).p S w)) ?_
 refine l6 [true,false,true,false] ((hexP u s).and (Gh.nil)) (by exact fun _ _ h=>⟨h.2.2.1,trivial⟩) (fun g η=>(triG (η 5) (s.p0)).and ((triG (η 2) (s.p4)).and g)) (by kernel_rfl) (fun g η=>(by kernel_rfl)) ?_
 intro η_7
 refine s_K (.one (.tp (T3.Same s.p4 s.p0))) ⟨a8,hS,b7⟩ (by kernel_rfl) (by kernel_rfl) (j9 rfl) rfl (fun β S w hS hs hw hG=>have y40:=hG.1; have x40:=hG.2.1; ⟨_,(by kernel_rfl),E7 hS x40 y40 hk.t4 hk.t0 (by omega)⟩) ?_
 refine I5 (p:=T3.Same s.p4 s.p0) ⟨a8,hS,b7⟩ (by kernel_rfl) (by kernel_rfl) (by kernel_rfl) (g.d04) ?_
 refine A5 ⟨a8,hS,b7⟩ (by kernel_rfl) ?_
 refine l8 6 ⟨a8,hS,b7⟩ (by kernel_rfl) (by kernel_rfl) (by kernel_rfl) ?_
 refine i1 1 (fun η=>(by kernel_rfl)) ?_
 refine y5 u 6 4 9 ⟨a8,hS,b7⟩ (fun η=>(by kernel_rfl)) (fun η=>(by kernel_rfl)) (by decide) (by decide) (fun β η S w hM hw hG hd=>have h:=hG.2.2.1; h.ptr) ?_
 refine s6 (fun η=>η 1) 44 9 true (fun x0=>.one (.ag 9 x0)) (fun x0=>triG x0 (s.p4)) (fun η=>(by kernel_rfl)) (fun η=>(by kernel_rfl)) ⟨a8,hS,b7⟩ (fun _ _ _ h=>⟨h.ok,rfl⟩) (fun β η S w hM hw hG hd=>have h:=hG.2.2.1; h.el (i:=4) rfl (dep hd 1 (by kernel_rfl) (by kernel_rfl) : (pureG ((η 1) = ptrAdd u (Int.toNat 4 * 9))).p S w)) ?_
 refine i1 1 (fun η=>(by kernel_rfl)) ?_
 refine y5 u 6 1 9 ⟨a8,hS,b7⟩ (fun η=>(by kernel_rfl)) (fun η=>(by kernel_rfl)) (by decide) (by decide) (fun β η S w hM hw hG hd=>have h:=hG.2.2.1; h.ptr) ?_
 refine s6 (fun η=>η 4) 44 9 true (fun x0=>.one (.ag 9 x0)) (fun x0=>triG x0 (s.p1)) (fun η=>(by kernel_rfl)) (fun η=>(by kernel_rfl)) ⟨a8,hS,b7⟩ (fun _ _ _ h=>⟨h.ok,rfl⟩) (fun β η S w hM hw hG hd=>have h:=hG.2.2.1; h.el (i:=1) rfl (dep hd 4 (by kernel_rfl) (by kernel_rfl) : (pureG ((η 4) = ptrAdd u (Int.toNat 1 * 9))).p S w)) ?_
 refine l6 [true,false,true,false] ((hexP u s).and (Gh.nil)) (by exact fun _ _ h=>⟨h.2.2.1,trivial⟩) (fun g η=>(triG (η 5) (s.p1)).and ((triG (η 2) (s.p4)).and g)) (by kernel_rfl) (fun g η=>(by kernel_rfl)) ?_
 intro η_8
 refine s_K (.one (.tp (T3.Same s.p4 s.p1))) ⟨a8,hS,b7⟩ (by kernel_rfl) (by kernel_rfl) (j9 rfl) rfl (fun β S w hS hs hw hG=>have y41:=hG.1; have x41:=hG.2.1; ⟨_,(by kernel_rfl),E7 hS x41 y41 hk.t4 hk.t1 (by omega)⟩) ?_
 refine I5 (p:=T3.Same s.p4 s.p1) ⟨a8,hS,b7⟩ (by kernel_rfl) (by kernel_rfl) (by kernel_rfl) (g.d14) ?_
 refine A5 ⟨a8,hS,b7⟩ (by kernel_rfl) ?_
 refine l8 6 ⟨a8,hS,b7⟩ (by kernel_rfl) (by kernel_rfl) (by kernel_rfl) ?_
 refine i1 1 (fun η=>(by kernel_rfl)) ?_
 refine y5 u 6 4 9 ⟨a8,hS,b7⟩ (fun η=>(by kernel_rfl)) (fun η=>(by kernel_rfl)) (by decide) (by decide) (fun β η S w hM hw hG hd=>have h:=hG.2.2.1; h.ptr) ?_
 refine s6 (fun η=>η 1) 44 9 true (fun x0=>.one (.ag 9 x0)) (fun x0=>triG x0 (s.p4)) (fun η=>(by kernel_rfl)) (fun η=>(by kernel_rfl)) ⟨a8,hS,b7⟩ (fun _ _ _ h=>⟨h.ok,rfl⟩) (fun β η S w hM hw hG hd=>have h:=hG.2.2.1; h.el (i:=4) rfl (dep hd 1 (by kernel_rfl) (by kernel_rfl) : (pureG ((η 1) = ptrAdd u (Int.toNat 4 * 9))).p S w)) ?_
 refine i1 1 (fun η=>(by kernel_rfl)) ?_
 refine y5 u 6 2 9 ⟨a8,hS,b7⟩ (fun η=>(by kernel_rfl)) (fun η=>(by kernel_rfl)) (by decide) (by decide) (fun β η S w hM hw hG hd=>have h:=hG.2.2.1; h.ptr) ?_
 refine s6 (fun η=>η 4) 44 9 true (fun x0=>.one (.ag 9 x0)) (fun x0=>triG x0 (s.p2)) (fun η=>(by kernel_rfl)) (fun η=>(by kernel_rfl)) ⟨a8,hS,b7⟩ (fun _ _ _ h=>⟨h.ok,rfl⟩) (fun β η S w hM hw hG hd=>have h:=hG.2.2.1; h.el (i:=2) rfl (dep hd 4 (by kernel_rfl) (by kernel_rfl) : (pureG ((η 4) = ptrAdd u (Int.toNat 2 * 9))).p S w)) ?_
 refine l6 [true,false,true,false] ((hexP u s).and (Gh.nil)) (by exact fun _ _ h=>⟨h.2.2.1,trivial⟩) (fun g η=>(triG (η 5) (s.p2)).and ((triG (η 2) (s.p4)).and g)) (by kernel_rfl) (fun g η=>(by kernel_rfl)) ?_
 intro η_9
 refine s_K (.one (.tp (T3.Same s.p4 s.p2))) ⟨a8,hS,b7⟩ (by kernel_rfl) (by kernel_rfl) (j9 rfl) rfl (fun β S w hS hs hw hG=>have y42:=hG.1; have x42:=hG.2.1; ⟨_,(by kernel_rfl),E7 hS x42 y42 hk.t4 hk.t2 (by omega)⟩) ?_
 refine I5 (p:=T3.Same s.p4 s.p2) ⟨a8,hS,b7⟩ (by kernel_rfl) (by kernel_rfl) (by kernel_rfl) (g.d24) ?_
 refine A5 ⟨a8,hS,b7⟩ (by kernel_rfl) ?_
 refine l8 6 ⟨a8,hS,b7⟩ (by kernel_rfl) (by kernel_rfl) (by kernel_rfl) ?_
 refine i1 1 (fun η=>(by kernel_rfl)) ?_
 refine y5 u 6 4 9 ⟨a8,hS,b7⟩ (fun η=>(by kernel_rfl)) (fun η=>(by kernel_rfl)) (by decide) (by decide) (fun β η S w hM hw hG hd=>have h:=hG.2.2.1; h.ptr) ?_
 refine s6 (fun η=>η 1) 44 9 true (fun x0=>.one (.ag 9 x0)) (fun x0=>triG x0 (s.p4)) (fun η=>(by kernel_rfl)) (fun η=>(by kernel_rfl)) ⟨a8,hS,b7⟩ (fun _ _ _ h=>⟨h.ok,rfl⟩) (fun β η S w hM hw hG hd=>have h:=hG.2.2.1; h.el (i:=4) rfl (dep hd 1 (by kernel_rfl) (by kernel_rfl) : (pureG ((η 1) = ptrAdd u (Int.toNat 4 * 9))).p S w)) ?_
 refine i1 1 (fun η=>(by kernel_rfl)) ?_
 refine y5 u 6 3 9 ⟨a8,hS,b7⟩ (fun η=>(by kernel_rfl)) (fun η=>(by kernel_rfl)) (by decide) (by decide) (fun β η S w hM hw hG hd=>have h:=hG.2.2.1; h.ptr) ?_
 refine s6 (fun η=>η 4) 44 9 true (fun x0=>.one (.ag 9 x0)) (fun x0=>triG x0 (s.p3)) (fun η=>(by kernel_rfl)) (fun η=>(by kernel_rfl)) ⟨a8,hS,b7⟩ (fun _ _ _ h=>⟨h.ok,rfl⟩) (fun β η S w hM hw hG hd=>have h:=hG.2.2.1; h.el (i:=3) rfl (dep hd 4 (by kernel_rfl) (by kernel_rfl) : (pureG ((η 4) = ptrAdd u (Int.toNat 3 * 9))).p S w)) ?_
 refine l6 [true,false,true,false] ((hexP u s).and (Gh.nil)) (by exact fun _ _ h=>⟨h.2.2.1,trivial⟩) (fun g η=>(triG (η 5) (s.p3)).and ((triG (η 2) (s.p4)).and g)) (by kernel_rfl) (fun g η=>(by kernel_rfl)) ?_
 intro η_10
 refine s_K (.one (.tp (T3.Same s.p4 s.p3))) ⟨a8,hS,b7⟩ (by kernel_rfl) (by kernel_rfl) (j9 rfl) rfl (fun β S w hS hs hw hG=>have y43:=hG.1; have x43:=hG.2.1; ⟨_,(by kernel_rfl),E7 hS x43 y43 hk.t4 hk.t3 (by omega)⟩) ?_
 refine I5 (p:=T3.Same s.p4 s.p3) ⟨a8,hS,b7⟩ (by kernel_rfl) (by kernel_rfl) (by kernel_rfl) (g.d34) ?_
 refine A5 ⟨a8,hS,b7⟩ (by kernel_rfl) ?_
 refine l8 6 ⟨a8,hS,b7⟩ (by kernel_rfl) (by kernel_rfl) (by kernel_rfl) ?_
 refine i1 1 (fun η=>(by kernel_rfl)) ?_
 refine y5 u 6 5 9 ⟨a8,hS,b7⟩ (fun η=>(by kernel_rfl)) (fun η=>(by kernel_rfl)) (by decide) (by decide) (fun β η S w hM hw hG hd=>have h:=hG.2.2.1; h.ptr) ?_
 refine s6 (fun η=>η 1) 44 9 true (fun x0=>.one (.ag 9 x0)) (fun x0=>triG x0 (s.p5)) (fun η=>(by kernel_rfl)) (fun η=>(by kernel_rfl)) ⟨a8,hS,b7⟩ (fun _ _ _ h=>⟨h.ok,rfl⟩) (fun β η S w hM hw hG hd=>have h:=hG.2.2.1; h.el (i:=5) rfl (dep hd 1 (by kernel_rfl) (by kernel_rfl) : (pureG ((η 1) = ptrAdd u (Int.toNat 5 * 9))).p S w)) ?_
 refine i1 1 (fun η=>(by kernel_rfl)) ?_
 refine y5 u 6 0 9 ⟨a8,hS,b7⟩ (fun η=>(by kernel_rfl)) (fun η=>(by kernel_rfl)) (by decide) (by decide) (fun β η S w hM hw hG hd=>have h:=hG.2.2.1; h.ptr) ?_
 refine s6 (fun η=>η 4) 44 9 true (fun x0=>.one (.ag 9 x0)) (fun x0=>triG x0 (s.p0)) (fun η=>(by kernel_rfl)) (fun η=>(by kernel_rfl)) ⟨a8,hS,b7⟩ (fun _ _ _ h=>⟨h.ok,rfl⟩) (fun β η S w hM hw hG hd=>have h:=hG.2.2.1; h.el (i:=0) rfl (dep hd 4 (by kernel_rfl) (by kernel_rfl) : (pureG ((η 4) = ptrAdd u (Int.toNat 0 * 9))).p S w)) ?_
 refine l6 [true,false,true,false] ((hexP u s).and (Gh.nil)) (by exact fun _ _ h=>⟨h.2.2.1,trivial⟩) (fun g η=>(triG (η 5) (s.p0)).and ((triG (η 2) (s.p5)).and g)) (by kernel_rfl) (fun g η=>(by kernel_rfl)) ?_
 intro η_11
 refine s_K (.one (.tp (T3.Same s.p5 s.p0))) ⟨a8,hS,b7⟩ (by kernel_rfl) (by kernel_rfl) (j9 rfl) rfl (fun β S w hS hs hw hG=>have y50:=hG.1; have x50:=hG.2.1; ⟨_,(by kernel_rfl),E7 hS x50 y50 hk.t5 hk.t0 (by omega)⟩) ?_
 refine I5 (p:=T3.Same s.p5 s.p0) ⟨a8,hS,b7⟩ (by kernel_rfl) (by kernel_rfl) (by kernel_rfl) (g.d05) ?_
 refine A5 ⟨a8,hS,b7⟩ (by kernel_rfl) ?_
 refine l8 6 ⟨a8,hS,b7⟩ (by kernel_rfl) (by kernel_rfl) (by kernel_rfl) ?_
 refine i1 1 (fun η=>(by kernel_rfl)) ?_
 refine y5 u 6 5 9 ⟨a8,hS,b7⟩ (fun η=>(by kernel_rfl)) (fun η=>(by kernel_rfl)) (by decide) (by decide) (fun β η S w hM hw hG hd=>have h:=hG.2.2.1; h.ptr) ?_
 refine s6 (fun η=>η 1) 44 9 true (fun x0=>.one (.ag 9 x0)) (fun x0=>triG x0 (s.p5)) (fun η=>(by kernel_rfl)) (fun η=>(by kernel_rfl)) ⟨a8,hS,b7⟩ (fun _ _ _ h=>⟨h.ok,rfl⟩) (fun β η S w hM hw hG hd=>have h:=hG.2.2.1; h.el (i:=5) rfl (dep hd 1 (by kernel_rfl) (by kernel_rfl) : (pureG ((η 1) = ptrAdd u (Int.toNat 5 * 9))).p S w)) ?_
 refine i1 1 (fun η=>(by kernel_rfl)) ?_
 refine y5 u 6 1 9 ⟨a8,hS,b7⟩ (fun η=>(by kernel_rfl)) (fun η=>(by kernel_rfl)) (by decide) (by decide) (fun β η S w hM hw hG hd=>have h:=hG.2.2.1; h.ptr) ?_
 refine s6 (fun η=>η 4) 44 9 true (fun x0=>.one (.ag 9 x0)) (fun x0=>triG x0 (s.p1)) (fun η=>(by kernel_rfl)) (fun η=>(by kernel_rfl)) ⟨a8,hS,b7⟩ (fun _ _ _ h=>⟨h.ok,rfl⟩) (fun β η S w hM hw hG hd=>have h:=hG.2.2.1; h.el (i:=1) rfl (dep hd 4 (by kernel_rfl) (by kernel_rfl) : (pureG ((η 4) = ptrAdd u (Int.toNat 1 * 9))).p S w)) ?_
 refine l6 [true,false,true,false] ((hexP u s).and (Gh.nil)) (by exact fun _ _ h=>⟨h.2.2.1,trivial⟩) (fun g η=>(triG (η 5) (s.p1)).and ((triG (η 2) (s.p5)).and g)) (by kernel_rfl) (fun g η=>(by kernel_rfl)) ?_
 intro η_12
 refine s_K (.one (.tp (T3.Same s.p5 s.p1))) ⟨a8,hS,b7⟩ (by kernel_rfl) (by kernel_rfl) (j9 rfl) rfl (fun β S w hS hs hw hG=>have y51:=hG.1; have x51:=hG.2.1; ⟨_,(by kernel_rfl),E7 hS x51 y51 hk.t5 hk.t1 (by omega)⟩) ?_
 refine I5 (p:=T3.Same s.p5 s.p1) ⟨a8,hS,b7⟩ (by kernel_rfl) (by kernel_rfl) (by kernel_rfl) (g.d15) ?_
 refine A5 ⟨a8,hS,b7⟩ (by kernel_rfl) ?_
 refine l8 6 ⟨a8,hS,b7⟩ (by kernel_rfl) (by kernel_rfl) (by kernel_rfl) ?_
 refine i1 1 (fun η=>(by kernel_rfl)) ?_
 refine y5 u 6 5 9 ⟨a8,hS,b7⟩ (fun η=>(by kernel_rfl)) (fun η=>(by kernel_rfl)) (by decide) (by decide) (fun β η S w hM hw hG hd=>have h:=hG.2.2.1; h.ptr) ?_
 refine s6 (fun η=>η 1) 44 9 true (fun x0=>.one (.ag 9 x0)) (fun x0=>triG x0 (s.p5)) (fun η=>(by kernel_rfl)) (fun η=>(by kernel_rfl)) ⟨a8,hS,b7⟩ (fun _ _ _ h=>⟨h.ok,rfl⟩) (fun β η S w hM hw hG hd=>have h:=hG.2.2.1; h.el (i:=5) rfl (dep hd 1 (by kernel_rfl) (by kernel_rfl) : (pureG ((η 1) = ptrAdd u (Int.toNat 5 * 9))).p S w)) ?_
 refine i1 1 (fun η=>(by kernel_rfl)) ?_
 refine y5 u 6 2 9 ⟨a8,hS,b7⟩ (fun η=>(by kernel_rfl)) (fun η=>(by kernel_rfl)) (by decide) (by decide) (fun β η S w hM hw hG hd=>have h:=hG.2.2.1; h.ptr) ?_
 refine s6 (fun η=>η 4) 44 9 true (fun x0=>.one (.ag 9 x0)) (fun x0=>triG x0 (s.p2)) (fun η=>(by kernel_rfl)) (fun η=>(by kernel_rfl)) ⟨a8,hS,b7⟩ (fun _ _ _ h=>⟨h.ok,rfl⟩) (fun β η S w hM hw hG hd=>have h:=hG.2.2.1; h.el (i:=2) rfl (dep hd 4 (by kernel_rfl) (by kernel_rfl) : (pureG ((η 4) = ptrAdd u (Int.toNat 2 * 9))).p S w)) ?_
 refine l6 [true,false,true,false] ((hexP u s).and (Gh.nil)) (by exact fun _ _ h=>⟨h.2.2.1,trivial⟩) (fun g η=>(triG (η 5) (s.p2)).and ((triG (η 2) (s.p5)).and g)) (by kernel_rfl) (fun g η=>(by kernel_rfl)) ?_
 intro η_13
 refine s_K (.one (.tp (T3.Same s.p5 s.p2))) ⟨a8,hS,b7⟩ (by kernel_rfl) (by kernel_rfl) (j9 rfl) rfl (fun β S w hS hs hw hG=>have y52:=hG.1; have x52:=hG.2.1; ⟨_,(by kernel_rfl),E7 hS x52 y52 hk.t5 hk.t2 (by omega)⟩) ?_
 refine I5 (p:=T3.Same s.p5 s.p2) ⟨a8,hS,b7⟩ (by kernel_rfl) (by kernel_rfl) (by kernel_rfl) (g.d25) ?_
 refine A5 ⟨a8,hS,b7⟩ (by kernel_rfl) ?_
 refine l8 6 ⟨a8,hS,b7⟩ (by kernel_rfl) (by kernel_rfl) (by kernel_rfl) ?_
 refine i1 1 (fun η=>(by kernel_rfl)) ?_
 refine y5 u 6 5 9 ⟨a8,hS,b7⟩ (fun η=>(by kernel_rfl)) (fun η=>(by kernel_rfl)) (by decide) (by decide) (fun β η S w hM hw hG hd=>have h:=hG.2.2.1; h.ptr) ?_
 refine s6 (fun η=>η 1) 44 9 true (fun x0=>.one (.ag 9 x0)) (fun x0=>triG x0 (s.p5)) (fun η=>(by kernel_rfl)) (fun η=>(by kernel_rfl)) ⟨a8,hS,b7⟩ (fun _ _ _ h=>⟨h.ok,rfl⟩) (fun β η S w hM hw hG hd=>have h:=hG.2.2.1; h.el (i:=5) rfl (dep hd 1 (by kernel_rfl) (by kernel_rfl) : (pureG ((η 1) = ptrAdd u (Int.toNat 5 * 9))).p S w)) ?_
 refine i1 1 (fun η=>(by kernel_rfl)) ?_
 refine y5 u 6 3 9 ⟨a8,hS,b7⟩ (fun η=>(by kernel_rfl)) (fun η=>(by kernel_rfl)) (by decide) (by decide) (fun β η S w hM hw hG hd=>have h:=hG.2.2.1; h.ptr) ?_
 refine s6 (fun η=>η 4) 44 9 true (fun x0=>.one (.ag 9 x0)) (fun x0=>triG x0 (s.p3)) (fun η=>(by kernel_rfl)) (fun η=>(by kernel_rfl)) ⟨a8,hS,b7⟩ (fun _ _ _ h=>⟨h.ok,rfl⟩) (fun β η S w hM hw hG hd=>have h:=hG.2.2.1; h.el (i:=3) rfl (dep hd 4 (by kernel_rfl) (by kernel_rfl) : (pureG ((η 4) = ptrAdd u (Int.toNat 3 * 9))).p S w)) ?_
 refine l6 [true,false,true,false] ((hexP u s).and (Gh.nil)) (by exact fun _ _ h=>⟨h.2.2.1,trivial⟩) (fun g η=>(triG (η 5) (s.p3)).and ((triG (η 2) (s.p5)).and g)) (by kernel_rfl) (fun g η=>(by kernel_rfl)) ?_
 intro η_14
 refine s_K (.one (.tp (T3.Same s.p5 s.p3))) ⟨a8,hS,b7⟩ (by kernel_rfl) (by kernel_rfl) (j9 rfl) rfl (fun β S w hS hs hw hG=>have y53:=hG.1; have x53:=hG.2.1; ⟨_,(by kernel_rfl),E7 hS x53 y53 hk.t5 hk.t3 (by omega)⟩) ?_
 refine I5 (p:=T3.Same s.p5 s.p3) ⟨a8,hS,b7⟩ (by kernel_rfl) (by kernel_rfl) (by kernel_rfl) (g.d35) ?_
 refine A5 ⟨a8,hS,b7⟩ (by kernel_rfl) ?_
 refine l8 6 ⟨a8,hS,b7⟩ (by kernel_rfl) (by kernel_rfl) (by kernel_rfl) ?_
 refine i1 1 (fun η=>(by kernel_rfl)) ?_
 refine y5 u 6 5 9 ⟨a8,hS,b7⟩ (fun η=>(by kernel_rfl)) (fun η=>(by kernel_rfl)) (by decide) (by decide) (fun β η S w hM hw hG hd=>have h:=hG.2.2.1; h.ptr) ?_
 refine s6 (fun η=>η 1) 44 9 true (fun x0=>.one (.ag 9 x0)) (fun x0=>triG x0 (s.p5)) (fun η=>(by kernel_rfl)) (fun η=>(by kernel_rfl)) ⟨a8,hS,b7⟩ (fun _ _ _ h=>⟨h.ok,rfl⟩) (fun β η S w hM hw hG hd=>have h:=hG.2.2.1; h.el (i:=5) rfl (dep hd 1 (by kernel_rfl) (by kernel_rfl) : (pureG ((η 1) = ptrAdd u (Int.toNat 5 * 9))).p S w)) ?_
 refine i1 1 (fun η=>(by kernel_rfl)) ?_
 refine y5 u 6 4 9 ⟨a8,hS,b7⟩ (fun η=>(by kernel_rfl)) (fun η=>(by kernel_rfl)) (by decide) (by decide) (fun β η S w hM hw hG hd=>have h:=hG.2.2.1; h.ptr) ?_
 refine s6 (fun η=>η 4) 44 9 true (fun x0=>.one (.ag 9 x0)) (fun x0=>triG x0 (s.p4)) (fun η=>(by kernel_rfl)) (fun η=>(by kernel_rfl)) ⟨a8,hS,b7⟩ (fun _ _ _ h=>⟨h.ok,rfl⟩) (fun β η S w hM hw hG hd=>have h:=hG.2.2.1; h.el (i:=4) rfl (dep hd 4 (by kernel_rfl) (by kernel_rfl) : (pureG ((η 4) = ptrAdd u (Int.toNat 4 * 9))).p S w)) ?_
 refine l6 [true,false,true,false] ((hexP u s).and (Gh.nil)) (by exact fun _ _ h=>⟨h.2.2.1,trivial⟩) (fun g η=>(triG (η 5) (s.p4)).and ((triG (η 2) (s.p5)).and g)) (by kernel_rfl) (fun g η=>(by kernel_rfl)) ?_
 intro η_15
 refine s_K (.one (.tp (T3.Same s.p5 s.p4))) ⟨a8,hS,b7⟩ (by kernel_rfl) (by kernel_rfl) (j9 rfl) rfl (fun β S w hS hs hw hG=>have y54:=hG.1; have x54:=hG.2.1; ⟨_,(by kernel_rfl),E7 hS x54 y54 hk.t5 hk.t4 (by omega)⟩) ?_
 refine I5 (p:=T3.Same s.p5 s.p4) ⟨a8,hS,b7⟩ (by kernel_rfl) (by kernel_rfl) (by kernel_rfl) (g.d45) ?_
 refine A5 ⟨a8,hS,b7⟩ (by kernel_rfl) ?_
 refine l8 20 ⟨a8,hS,b7⟩ (by kernel_rfl) (by kernel_rfl) (by kernel_rfl) ?_
 refine i1 2 (fun η=>(by kernel_rfl)) ?_
 refine y5 u 6 0 9 ⟨a8,hS,b7⟩ (fun η=>(by kernel_rfl)) (fun η=>(by kernel_rfl)) (by decide) (by decide) (fun β η S w hM hw hG hd=>have h:=hG.2.2.1; h.ptr) ?_
 refine s6 (fun η=>η 2) 44 9 true (fun x0=>.one (.ag 9 x0)) (fun x0=>triG x0 (s.p0)) (fun η=>(by kernel_rfl)) (fun η=>(by kernel_rfl)) ⟨a8,hS,b7⟩ (fun _ _ _ h=>⟨h.ok,rfl⟩) (fun β η S w hM hw hG hd=>have h:=hG.2.2.1; h.el (i:=0) rfl (dep hd 2 (by kernel_rfl) (by kernel_rfl) : (pureG ((η 2) = ptrAdd u (Int.toNat 0 * 9))).p S w)) ?_
 refine i1 2 (fun η=>(by kernel_rfl)) ?_
 refine y5 u 6 1 9 ⟨a8,hS,b7⟩ (fun η=>(by kernel_rfl)) (fun η=>(by kernel_rfl)) (by decide) (by decide) (fun β η S w hM hw hG hd=>have h:=hG.2.2.1; h.ptr) ?_
 refine s6 (fun η=>η 6) 44 9 true (fun x0=>.one (.ag 9 x0)) (fun x0=>triG x0 (s.p1)) (fun η=>(by kernel_rfl)) (fun η=>(by kernel_rfl)) ⟨a8,hS,b7⟩ (fun _ _ _ h=>⟨h.ok,rfl⟩) (fun β η S w hM hw hG hd=>have h:=hG.2.2.1; h.el (i:=1) rfl (dep hd 6 (by kernel_rfl) (by kernel_rfl) : (pureG ((η 6) = ptrAdd u (Int.toNat 1 * 9))).p S w)) ?_
 refine h_1 (fun x0=>.one (.ag 9 x0)) (fun x0=>triG x0 (s.l0.normal)) (fun η=>(by kernel_rfl)) (fun _ _ _ h=>⟨h.ok,rfl⟩) (fun β η S w hS hs hw hG hd=>⟨_,(by kernel_rfl),G0 hS (dep hd 3 (by kernel_rfl) (by kernel_rfl) : (triG (η 3) (s.p0)).p S w) (dep hd 7 (by kernel_rfl) (by kernel_rfl) : (triG (η 7) (s.p1)).p S w) hk.t0 hk.t1 (by omega) S0.1 (by omega) D0⟩) ?_
 refine i1 2 (fun η=>(by kernel_rfl)) ?_
 refine y5 u 6 3 9 ⟨a8,hS,b7⟩ (fun η=>(by kernel_rfl)) (fun η=>(by kernel_rfl)) (by decide) (by decide) (fun β η S w hM hw hG hd=>have h:=hG.2.2.1; h.ptr) ?_
 refine s6 (fun η=>η 11) 44 9 true (fun x0=>.one (.ag 9 x0)) (fun x0=>triG x0 (s.p3)) (fun η=>(by kernel_rfl)) (fun η=>(by kernel_rfl)) ⟨a8,hS,b7⟩ (fun _ _ _ h=>⟨h.ok,rfl⟩) (fun β η S w hM hw hG hd=>have h:=hG.2.2.1; h.el (i:=3) rfl (dep hd 11 (by kernel_rfl) (by kernel_rfl) : (pureG ((η 11) = ptrAdd u (Int.toNat 3 * 9))).p S w)) ?_
 refine i1 3 (fun η=>(by kernel_rfl)) ?_
 refine y5 u 6 4 9 ⟨a8,hS,b7⟩ (fun η=>(by kernel_rfl)) (fun η=>(by kernel_rfl)) (by decide) (by decide) (fun β η S w hM hw hG hd=>have h:=hG.2.2.1; h.ptr) ?_
 refine s6 (fun η=>η 16) 44 9 true (fun x0=>.one (.ag 9 x0)) (fun x0=>triG x0 (s.p4)) (fun η=>(by kernel_rfl)) (fun η=>(by kernel_rfl)) ⟨a8,hS,b7⟩ (fun _ _ _ h=>⟨h.ok,rfl⟩) (fun β η S w hM hw hG hd=>have h:=hG.2.2.1; h.el (i:=4) rfl (dep hd 16 (by kernel_rfl) (by kernel_rfl) : (pureG ((η 16) = ptrAdd u (Int.toNat 4 * 9))).p S w)) ?_
 refine h_1 (fun x0=>.one (.ag 9 x0)) (fun x0=>triG x0 (s.l3.normal)) (fun η=>(by kernel_rfl)) (fun _ _ _ h=>⟨h.ok,rfl⟩) (fun β η S w hS hs hw hG hd=>⟨_,(by kernel_rfl),G0 hS (dep hd 12 (by kernel_rfl) (by kernel_rfl) : (triG (η 12) (s.p3)).p S w) (dep hd 17 (by kernel_rfl) (by kernel_rfl) : (triG (η 17) (s.p4)).p S w) hk.t3 hk.t4 (by omega) S3.1 (by omega) D3⟩) ?_
 refine h_1 (fun x0=>.one (.ag 9 x0)) (fun x0=>triG x0 (s.n0)) (fun η=>(by kernel_rfl)) (fun _ _ _ h=>⟨h.ok,rfl⟩) (fun β η S w hS hs hw hG hd=>⟨_,(by kernel_rfl),G0 hS (dep hd 8 (by kernel_rfl) (by kernel_rfl) : (triG (η 8) (s.l0.normal)).p S w) (dep hd 18 (by kernel_rfl) (by kernel_rfl) : (triG (η 18) (s.l3.normal)).p S w) S0.1 S3.1 (by omega) M0.1 (by omega) O0⟩) ?_
 refine l6 [true,false,false,false,false,false,false,false,false,false,false] ((hexP u s).and (Gh.nil)) (by exact fun _ _ h=>⟨h.2.2.1,trivial⟩) (fun g η=>(triG (η 19) (s.n0)).and g) (by kernel_rfl) (fun g η=>(by kernel_rfl)) ?_
 intro η_16
 refine l8 20 ⟨a8,hS,b7⟩ (by kernel_rfl) (by kernel_rfl) (by kernel_rfl) ?_
 refine i1 2 (fun η=>(by kernel_rfl)) ?_
 refine y5 u 6 1 9 ⟨a8,hS,b7⟩ (fun η=>(by kernel_rfl)) (fun η=>(by kernel_rfl)) (by decide) (by decide) (fun β η S w hM hw hG hd=>have h:=hG.2.1; h.ptr) ?_
 refine s6 (fun η=>η 2) 44 9 true (fun x0=>.one (.ag 9 x0)) (fun x0=>triG x0 (s.p1)) (fun η=>(by kernel_rfl)) (fun η=>(by kernel_rfl)) ⟨a8,hS,b7⟩ (fun _ _ _ h=>⟨h.ok,rfl⟩) (fun β η S w hM hw hG hd=>have h:=hG.2.1; h.el (i:=1) rfl (dep hd 2 (by kernel_rfl) (by kernel_rfl) : (pureG ((η 2) = ptrAdd u (Int.toNat 1 * 9))).p S w)) ?_
 refine i1 2 (fun η=>(by kernel_rfl)) ?_
 refine y5 u 6 2 9 ⟨a8,hS,b7⟩ (fun η=>(by kernel_rfl)) (fun η=>(by kernel_rfl)) (by decide) (by decide) (fun β η S w hM hw hG hd=>have h:=hG.2.1; h.ptr) ?_
 refine s6 (fun η=>η 6) 44 9 true (fun x0=>.one (.ag 9 x0)) (fun x0=>triG x0 (s.p2)) (fun η=>(by kernel_rfl)) (fun η=>(by kernel_rfl)) ⟨a8,hS,b7⟩ (fun _ _ _ h=>⟨h.ok,rfl⟩) (fun β η S w hM hw hG hd=>have h:=hG.2.1; h.el (i:=2) rfl (dep hd 6 (by kernel_rfl) (by kernel_rfl) : (pureG ((η 6) = ptrAdd u (Int.toNat 2 * 9))).p S w)) ?_
 refine h_1 (fun x0=>.one (.ag 9 x0)) (fun x0=>triG x0 (s.l1.normal)) (fun η=>(by kernel_rfl)) (fun _ _ _ h=>⟨h.ok,rfl⟩) (fun β η S w hS hs hw hG hd=>⟨_,(by kernel_rfl),G0 hS (dep hd 3 (by kernel_rfl) (by kernel_rfl) : (triG (η 3) (s.p1)).p S w) (dep hd 7 (by kernel_rfl) (by kernel_rfl) : (triG (η 7) (s.p2)).p S w) hk.t1 hk.t2 (by omega) S1.1 (by omega) D1⟩) ?_
 refine i1 2 (fun η=>(by kernel_rfl)) ?_
 refine y5 u 6 4 9 ⟨a8,hS,b7⟩ (fun η=>(by kernel_rfl)) (fun η=>(by kernel_rfl)) (by decide) (by decide) (fun β η S w hM hw hG hd=>have h:=hG.2.1; h.ptr) ?_
 refine s6 (fun η=>η 11) 44 9 true (fun x0=>.one (.ag 9 x0)) (fun x0=>triG x0 (s.p4)) (fun η=>(by kernel_rfl)) (fun η=>(by kernel_rfl)) ⟨a8,hS,b7⟩ (fun _ _ _ h=>⟨h.ok,rfl⟩) (fun β η S w hM hw hG hd=>have h:=hG.2.1; h.el (i:=4) rfl (dep hd 11 (by kernel_rfl) (by kernel_rfl) : (pureG ((η 11) = ptrAdd u (Int.toNat 4 * 9))).p S w)) ?_
 refine i1 3 (fun η=>(by kernel_rfl)) ?_
 refine y5 u 6 5 9 ⟨a8,hS,b7⟩ (fun η=>(by kernel_rfl)) (fun η=>(by kernel_rfl)) (by decide) (by decide) (fun β η S w hM hw hG hd=>have h:=hG.2.1; h.ptr) ?_
 refine s6 (fun η=>η 16) 44 9 true (fun x0=>.one (.ag 9 x0)) (fun x0=>triG x0 (s.p5)) (fun η=>(by kernel_rfl)) (fun η=>(by kernel_rfl)) ⟨a8,hS,b7⟩ (fun _ _ _ h=>⟨h.ok,rfl⟩) (fun β η S w hM hw hG hd=>have h:=hG.2.1; h.el (i:=5) rfl (dep hd 16 (by kernel_rfl) (by kernel_rfl) : (pureG ((η 16) = ptrAdd u (Int.toNat 5 * 9))).p S w)) ?_
 refine h_1 (fun x0=>.one (.ag 9 x0)) (fun x0=>triG x0 (s.l4.normal)) (fun η=>(by kernel_rfl)) (fun _ _ _ h=>⟨h.ok,rfl⟩) (fun β η S w hS hs hw hG hd=>⟨_,(by kernel_rfl),G0 hS (dep hd 12 (by kernel_rfl) (by kernel_rfl) : (triG (η 12) (s.p4)).p S w) (dep hd 17 (by kernel_rfl) (by kernel_rfl) : (triG (η 17) (s.p5)).p S w) hk.t4 hk.t5 (by omega) S4.1 (by omega) D4⟩) ?_
 refine h_1 (fun x0=>.one (.ag 9 x0)) (fun x0=>triG x0 (s.n1)) (fun η=>(by kernel_rfl)) (fun _ _ _ h=>⟨h.ok,rfl⟩) (fun β η S w hS hs hw hG hd=>⟨_,(by kernel_rfl),G0 hS (dep hd 8 (by kernel_rfl) (by kernel_rfl) : (triG (η 8) (s.l1.normal)).p S w) (dep hd 18 (by kernel_rfl) (by kernel_rfl) : (triG (η 18) (s.l4.normal)).p S w) S1.1 S4.1 (by omega) M1.1 (by omega) O1⟩) ?_
 refine l6 [true,false,false,false,false,false,false,false,false,false,false] ((triG (η_16 19) (s.n0)).and ((hexP u s).and (Gh.nil))) (by exact fun _ _ h=>⟨h.1,h.2.1,trivial⟩) (fun g η=>(triG (η 19) (s.n1)).and g) (by kernel_rfl) (fun g η=>(by kernel_rfl)) ?_
 intro η_17
 refine l8 20 ⟨a8,hS,b7⟩ (by kernel_rfl) (by kernel_rfl) (by kernel_rfl) ?_
 refine i1 2 (fun η=>(by kernel_rfl)) ?_
 refine y5 u 6 2 9 ⟨a8,hS,b7⟩ (fun η=>(by kernel_rfl)) (fun η=>(by kernel_rfl)) (by decide) (by decide) (fun β η S w hM hw hG hd=>have h:=hG.2.2.1; h.ptr) ?_
 refine s6 (fun η=>η 2) 44 9 true (fun x0=>.one (.ag 9 x0)) (fun x0=>triG x0 (s.p2)) (fun η=>(by kernel_rfl)) (fun η=>(by kernel_rfl)) ⟨a8,hS,b7⟩ (fun _ _ _ h=>⟨h.ok,rfl⟩) (fun β η S w hM hw hG hd=>have h:=hG.2.2.1; h.el (i:=2) rfl (dep hd 2 (by kernel_rfl) (by kernel_rfl) : (pureG ((η 2) = ptrAdd u (Int.toNat 2 * 9))).p S w)) ?_
 refine i1 2 (fun η=>(by kernel_rfl)) ?_
 refine y5 u 6 3 9 ⟨a8,hS,b7⟩ (fun η=>(by kernel_rfl)) (fun η=>(by kernel_rfl)) (by decide) (by decide) (fun β η S w hM hw hG hd=>have h:=hG.2.2.1; h.ptr) ?_
 refine s6 (fun η=>η 6) 44 9 true (fun x0=>.one (.ag 9 x0)) (fun x0=>triG x0 (s.p3)) (fun η=>(by kernel_rfl)) (fun η=>(by kernel_rfl)) ⟨a8,hS,b7⟩ (fun _ _ _ h=>⟨h.ok,rfl⟩) (fun β η S w hM hw hG hd=>have h:=hG.2.2.1; h.el (i:=3) rfl (dep hd 6 (by kernel_rfl) (by kernel_rfl) : (pureG ((η 6) = ptrAdd u (Int.toNat 3 * 9))).p S w)) ?_
 refine h_1 (fun x0=>.one (.ag 9 x0)) (fun x0=>triG x0 (s.l2.normal)) (fun η=>(by kernel_rfl)) (fun _ _ _ h=>⟨h.ok,rfl⟩) (fun β η S w hS hs hw hG hd=>⟨_,(by kernel_rfl),G0 hS (dep hd 3 (by kernel_rfl) (by kernel_rfl) : (triG (η 3) (s.p2)).p S w) (dep hd 7 (by kernel_rfl) (by kernel_rfl) : (triG (η 7) (s.p3)).p S w) hk.t2 hk.t3 (by omega) S2.1 (by omega) D2⟩) ?_
 refine i1 2 (fun η=>(by kernel_rfl)) ?_
 refine y5 u 6 5 9 ⟨a8,hS,b7⟩ (fun η=>(by kernel_rfl)) (fun η=>(by kernel_rfl)) (by decide) (by decide) (fun β η S w hM hw hG hd=>have h:=hG.2.2.1; h.ptr) ?_
 refine s6 (fun η=>η 11) 44 9 true (fun x0=>.one (.ag 9 x0)) (fun x0=>triG x0 (s.p5)) (fun η=>(by kernel_rfl)) (fun η=>(by kernel_rfl)) ⟨a8,hS,b7⟩ (fun _ _ _ h=>⟨h.ok,rfl⟩) (fun β η S w hM hw hG hd=>have h:=hG.2.2.1; h.el (i:=5) rfl (dep hd 11 (by kernel_rfl) (by kernel_rfl) : (pureG ((η 11) = ptrAdd u (Int.toNat 5 * 9))).p S w)) ?_
 refine i1 3 (fun η=>(by kernel_rfl)) ?_
 refine y5 u 6 0 9 ⟨a8,hS,b7⟩ (fun η=>(by kernel_rfl)) (fun η=>(by kernel_rfl)) (by decide) (by decide) (fun β η S w hM hw hG hd=>have h:=hG.2.2.1; h.ptr) ?_
 refine s6 (fun η=>η 16) 44 9 true (fun x0=>.one (.ag 9 x0)) (fun x0=>triG x0 (s.p0)) (fun η=>(by kernel_rfl)) (fun η=>(by kernel_rfl)) ⟨a8,hS,b7⟩ (fun _ _ _ h=>⟨h.ok,rfl⟩) (fun β η S w hM hw hG hd=>have h:=hG.2.2.1; h.el (i:=0) rfl (dep hd 16 (by kernel_rfl) (by kernel_rfl) : (pureG ((η 16) = ptrAdd u (Int.toNat 0 * 9))).p S w)) ?_
 refine h_1 (fun x0=>.one (.ag 9 x0)) (fun x0=>triG x0 (s.l5.normal)) (fun η=>(by kernel_rfl)) (fun _ _ _ h=>⟨h.ok,rfl⟩) (fun β η S w hS hs hw hG hd=>⟨_,(by kernel_rfl),G0 hS (dep hd 12 (by kernel_rfl) (by kernel_rfl) : (triG (η 12) (s.p5)).p S w) (dep hd 17 (by kernel_rfl) (by kernel_rfl) : (triG (η 17) (s.p0)).p S w) hk.t5 hk.t0 (by omega) S5.1 (by omega) D5⟩) ?_
 refine h_1 (fun x0=>.one (.ag 9 x0)) (fun x0=>triG x0 (s.n2)) (fun η=>(by kernel_rfl)) (fun _ _ _ h=>⟨h.ok,rfl⟩) (fun β η S w hS hs hw hG hd=>⟨_,(by kernel_rfl),G0 hS (dep hd 8 (by kernel_rfl) (by kernel_rfl) : (triG (η 8) (s.l2.normal)).p S w) (dep hd 18 (by kernel_rfl) (by kernel_rfl) : (triG (η 18) (s.l5.normal)).p S w) S2.1 S5.1 (by omega) M2.1 (by omega) O2⟩) ?_
 refine l6 [true,false,false,false,false,false,false,false,false,false,false] ((triG (η_17 19) (s.n1)).and ((triG (η_16 19) (s.n0)).and (Gh.nil))) (by exact fun _ _ h=>⟨h.1,h.2.1,trivial⟩) (fun g η=>(triG (η 19) (s.n2)).and g) (by kernel_rfl) (fun g η=>(by kernel_rfl)) ?_
 intro η_18
 refine s_K (.one (.tp (T3.Flat s.n0 s.n1 s.n2))) ⟨a8,hS,b7⟩ (by kernel_rfl) (by kernel_rfl) (j9 rfl) rfl (fun β S w hS hs hw hG=>have q2:=hG.1; have q1:=hG.2.1; have q0:=hG.2.2.1; ⟨_,(by kernel_rfl),an8 hS q0 q1 q2 M0.1 M1.1 M2.1 (by omega)⟩) ?_
 refine I5 (p:=¬ T3.Flat s.n0 s.n1 s.n2) ⟨a8,hS,b7⟩ (by kernel_rfl) (by kernel_rfl) (by kernel_rfl) (fun e=>e F) ?_
 refine s_K (.one (.tp (T3.Same s.n0 s.n1))) ⟨a8,hS,b7⟩ (by kernel_rfl) (by kernel_rfl) (j9 rfl) rfl (fun β S w hS hs hw hG=>have q1:=hG.2.1; have q0:=hG.2.2.1; ⟨_,(by kernel_rfl),E7 hS q0 q1 M0.1 M1.1 (by omega)⟩) ?_
 refine X3 (p:=T3.Same s.n0 s.n1) ⟨a8,hS,b7⟩ (by kernel_rfl) (by kernel_rfl) (by kernel_rfl) (fun hsm=>?_) (fun hsm=>?_)
 ·refine s_1 (fun x0=>.one (.ag 9 x0)) (fun x0=>triG x0 ((s.n0.cross s.n2).normal)) ⟨a8,hS,b7⟩ (by kernel_rfl) (by kernel_rfl) (fun _ _ _ h=>⟨h.ok,rfl⟩) (fun β S w hS hs hw hG=>have q2:=hG.1; have q0:=hG.2.2.1; ⟨_,(by kernel_rfl),G0 hS q0 q2 M0.1 M2.1 (by omega) (bi9 M0.2 M2.2) (by omega) (NS hsm)⟩) ?_
  intro r
  exact q8 (r) ⟨a8,hS,b7⟩ (by kernel_rfl) rfl (by kernel_rfl) (fun β=>(by kernel_rfl)) (fun S w hs hw hG=>have hr:=hG.1; ⟨hw,by unfold Six6.line; rw [if_pos hsm]; exact hr.mono fun k _ hk=>hs k hk⟩)
 ·refine s_1 (fun x0=>.one (.ag 9 x0)) (fun x0=>triG x0 ((s.n0.cross s.n1).normal)) ⟨a8,hS,b7⟩ (by kernel_rfl) (by kernel_rfl) (fun _ _ _ h=>⟨h.ok,rfl⟩) (fun β S w hS hs hw hG=>have q1:=hG.2.1; have q0:=hG.2.2.1; ⟨_,(by kernel_rfl),G0 hS q0 q1 M0.1 M1.1 (by omega) (bi9 M0.2 M1.2) (by omega) hsm⟩) ?_
  intro r
  exact q8 (r) ⟨a8,hS,b7⟩ (by kernel_rfl) rfl (by kernel_rfl) (fun β=>(by kernel_rfl)) (fun S w hs hw hG=>have hr:=hG.1; ⟨hw,by unfold Six6.line; rw [if_neg hsm]; exact hr.mono fun k _ hk=>hs k hk⟩)
end Go.Proofs.YtpheooheinfbgaaGreatDoor
end
section
set_option linter.unusedVariables false
set_option linter.unusedSimpArgs false
namespace Go.Proofs.YtpheooheinfbgaaGreatDoor
open Go Go.RowKit
def HexV (S : Nat → Prop) (w : World) (v : Value) (s : Six6) : Prop:=(SV.one (.ag 54 v)).Ok 0 ∧ ∃ vs,v.cells.toList = catV vs ∧ ElsV true 9 triF S w vs s.list
abbrev hexG (v : Value) (s : Six6) : Gh:=⟨fun S w=>HexV S w v s,fun ⟨o,vs,h1,h2⟩ k=>⟨o,vs,h1,(elsG true 9 triF vs s.list).keep h2 k⟩,fun ⟨o,vs,h1,h2⟩ k=>⟨o,vs,h1,(elsG true 9 triF vs s.list).mono h2 k⟩⟩
theorem HexV.ok {S : Nat → Prop} {w : World} {v : Value} {s : Six6} (h : HexV S w v s) : (SV.one (.ag 54 v)).Ok 0:=h.1
theorem b54 {S : Nat → Prop} {w : World} {u v : Value} {s : Six6} {T : TypeId} (h : (blkG u T (cellsL (fun _=>0) [.ag 54 v])).p S w) (hv : HexV S w v s) : HexP S w u s:=by
 obtain ⟨b,rfl,hs,hB⟩:=h
 rw [V2] at hB
 obtain ⟨_,vs,e1,e2⟩:=hv
 refine ⟨vs,?_,e2⟩
 rw [← e1]
 exact ⟨b,0,v.cells.toList.toArray,T,(0,0),rfl,hs,hB,by simp,by rw [List.drop_zero]; exact List.take_of_length_le (Nat.le_refl _)⟩
theorem bb4 {S : Nat → Prop} {w : World} {u : Value} {s : Six6} {k : Nat} (ht : Tab w) (hS : Up S w) (o : u.oneCell' = true) (h : HexP S w u s) (hk : s.Few k) (hk2 : k ≤ 10) (hb : ∀ t ∈ s.list,badE t = 0) (g : s.Ok) :
  Gives Tryz.prog 40 [.func (.func 54) #[] #[u]] w fun v' w'=>Ext w w' ∧ (ttryG v' s.line 0).p S w':=by
 have key : ∀ S' w',Up S' w' → Ext w w' → (∀ k,S' k → S k) → (∀ k,k < w.heap.size → S k → S' k) → GivesE Tryz.prog 54 [u] w' (fun v w''=>Ext w' w'' ∧ TripV S' w'' v s.line ∧ True) fun ch w''=>ch = failE 0 ∧ Ext w' w'' ∧ False:=by
  intro S' w' hS' k' _ hs'
  have g1:=(hexP u s).keep ((hexP u s).mono h hs') (.of k')
  exact Gives.toE ((bb3 (ht.to k') hS' o g1 hk hk2 hb g).mono fun v w'' h=>⟨h.1,h.2,trivial⟩)
 refine (ap2 (F:=54) (cap:=[u]) hS key).mono ?_
 rintro v' w' ⟨k',hh⟩
 obtain ⟨x,rfl,hx,_⟩:=hh.resolve_right fun h=>h.2
 exact ⟨k',rfl,hx⟩
set_option maxRecDepth 100000 in
theorem as5 {S : Nat → Prop} {w : World} {v : Value} {s : Six6} {k : Nat} (ht : Tab w) (hS : Up S w) (h : HexV S w v s) (hk : s.Few k) (hk2 : k ≤ 10) (hb : ∀ t ∈ s.list,badE t = 0) (g : s.Ok) :
  Gives Tryz.prog 24 [v] w fun v' w'=>Ext w w' ∧ (ttryG v' s.line 0).p S w':=by
 refine o8 (E:=env) (S0:=S) (G:=(hexG v s)) (l:=[.one (.ag 54 v)]) Tryz.func24 rfl rfl rfl ⟨h.ok,trivial⟩ rfl h ?_
 refine q7 ⟨a8,hS,b7⟩ (by kernel_rfl) (ab2 0 64 ([.ag 54 v]) (by kernel_rfl) (by kernel_rfl) ⟨a8,hS,b7⟩ (fun u1=>?_))
 refine s_1 (fun x0=>pr (.ag 9 (tupAt x0)) (.int .i64 ((0)))) (fun x0=>ttryG x0 (s.line) ((0))) ⟨a8,hS,b7⟩ (by kernel_rfl) (by kernel_rfl) (fun _ _ _ h=>a39 h) (fun β S w hS hs hw hG=>have hb1:=hG.1; have h:=hG.2; ⟨_,(by kernel_rfl),bb4 (ht.to hw) hS (ab6 hb1) (b54 hb1 h) hk hk2 hb g⟩) ?_
 intro r
 exact q8 (.tuple #[tupAt r,.int .i64 (0)]) ⟨a8,hS,b7⟩ (by kernel_rfl) rfl (by kernel_rfl) (fun β=>(by kernel_rfl)) (fun S w hs hw hG=>have hr:=hG.1; ⟨hw,rfl,hr.2.mono fun k _ hk=>hs k hk⟩)
theorem Six6.line_ne {s : Six6} (g : s.Ok) : ¬ s.line.None:=by
 have D : ∀ {p q : T3},¬ T3.Same p q → T3.Like (p.cross q).normal (p.cross q):=fun h=>T3.like_normal h
 have L0 : T3.Like s.l0.normal s.l0:=D fun e=>g.d01 (T3.same_symm e)
 have L1 : T3.Like s.l1.normal s.l1:=D fun e=>g.d12 (T3.same_symm e)
 have L2 : T3.Like s.l2.normal s.l2:=D fun e=>g.d23 (T3.same_symm e)
 have L3 : T3.Like s.l3.normal s.l3:=D fun e=>g.d34 (T3.same_symm e)
 have L4 : T3.Like s.l4.normal s.l4:=D fun e=>g.d45 (T3.same_symm e)
 have L5 : T3.Like s.l5.normal s.l5:=D g.d05
 have N0 : T3.Like s.n0 s.m0:=(D fun e=>g.o0 ((L0.same L3).1 e)).trans (L0.cross L3)
 have N1 : T3.Like s.n1 s.m1:=(D fun e=>g.o1 ((L1.same L4).1 e)).trans (L1.cross L4)
 have N2 : T3.Like s.n2 s.m2:=(D fun e=>g.o2 ((L2.same L5).1 e)).trans (L2.cross L5)
 unfold Six6.line
 split
 ·rename_i h1
  exact fun e=>g.ns ⟨(N0.same N1).1 h1,(N0.same N2).1 (T3.normal_none.1 e)⟩
 ·rename_i h1
  exact fun e=>h1 (T3.normal_none.1 e)
end Go.Proofs.YtpheooheinfbgaaGreatDoor
end
section
set_option linter.unusedVariables false
set_option linter.unusedSimpArgs false
namespace Go.Proofs.YtpheooheinfbgaaGreatDoor
open Go Go.RowKit
noncomputable def small3 (z : Int) : Int:=IntKind.u64.wrap z % 7 - 3
noncomputable def small5 (z : Int) : Int:=IntKind.u64.wrap z % 11 - 5
theorem as6 (z : Int) : -3 ≤ small3 z ∧ small3 z ≤ 3:=by unfold small3; omega
theorem H6 (z : Int) : -5 ≤ small5 z ∧ small5 z ≤ 5:=by unfold small5; omega
set_option maxRecDepth 100000 in
theorem I4 {S : Nat → Prop} {w : World} {z : Int} (hS : Up S w) :
  Gives Tryz.prog 20 [.int .i64 z,.int .i64 3] w fun v' w'=>v' = .int .i64 (small3 z) ∧ Ext w w':=by
 have hz:=P6 z
 refine o8 (E:=env) (S0:=S) (G:=Gh.nil) (l:=[.one (.int .i64 z),.one (.lit .i64 3)]) Tryz.func20 rfl rfl rfl ⟨trivial,trivial,trivial⟩ rfl trivial ?_
 refine I8 (ps:=[InR .i64 (IntKind.u64.wrap z % 7 - 3),InR .i64 (IntKind.u64.wrap z % 7),0 ≤ IntKind.u64.wrap z ∧ (0 : Int) < 7]) ⟨a8,hS,b7⟩ (by kernel_rfl) (by simp only [AllT,InR,and_true]; omega) ?_
 exact q8 (.int .i64 (IntKind.u64.wrap z % 7 - 3)) ⟨a8,hS,b7⟩ (by kernel_rfl) rfl (by kernel_rfl) (fun β=>(by kernel_rfl)) (fun S w hs hw hG=>⟨rfl,hw⟩)
set_option maxRecDepth 100000 in
theorem N4 {S : Nat → Prop} {w : World} {z : Int} (hS : Up S w) :
  Gives Tryz.prog 20 [.int .i64 z,.int .i64 5] w fun v' w'=>v' = .int .i64 (small5 z) ∧ Ext w w':=by
 have hz:=P6 z
 refine o8 (E:=env) (S0:=S) (G:=Gh.nil) (l:=[.one (.int .i64 z),.one (.lit .i64 5)]) Tryz.func20 rfl rfl rfl ⟨trivial,trivial,trivial⟩ rfl trivial ?_
 refine I8 (ps:=[InR .i64 (IntKind.u64.wrap z % 11 - 5),InR .i64 (IntKind.u64.wrap z % 11),0 ≤ IntKind.u64.wrap z ∧ (0 : Int) < 11]) ⟨a8,hS,b7⟩ (by kernel_rfl) (by simp only [AllT,InR,and_true]; omega) ?_
 exact q8 (.int .i64 (IntKind.u64.wrap z % 11 - 5)) ⟨a8,hS,b7⟩ (by kernel_rfl) rfl (by kernel_rfl) (fun β=>(by kernel_rfl)) (fun S w hs hw hG=>⟨rfl,hw⟩)
theorem ak3 {z : Int} (h : z.natAbs < 1000000000) : rl (z : Rat) 1:=⟨F8 (k:=1) (by show z.natAbs < _; omega),F8 (k:=1) (show 1 < 1000000000 ^ 1 by decide)⟩
theorem a03 {z : Int} (h : z.natAbs < 1000000000) : I63 z:=by unfold I63; omega
noncomputable def onT (n : Int) : T3:=if small5 n = 5 then ⟨0,0,1⟩ else ⟨((small5 n : Int) : Rat),1,((small5 n * small5 n : Int) : Rat)⟩
theorem b41 {z : Int} (h : -5 ≤ z ∧ z ≤ 5) : (z * z).natAbs < 1000000000:=by
 rw [Int.natAbs_mul]
 have h1 : z.natAbs ≤ 5:=by omega
 have:=Nat.mul_le_mul h1 h1
 omega
theorem cn2 : rl (1 : Rat) 1:=D9 (by decide) (by decide)
theorem cp2 : rl (0 : Rat) 1:=D9 (by decide) (by decide)
theorem au4 (n : Int) : tl (onT n) 1:=by
 have hb:=H6 n
 unfold onT
 split
 ·exact ⟨cp2,cp2,cn2⟩
 ·exact ⟨ak3 (by omega),cn2,ak3 (b41 hb)⟩
set_option maxRecDepth 100000 in
theorem at6 {S : Nat → Prop} {w : World} {n : Int} (hS : Up S w) :
  Gives Tryz.prog 22 [.int .i64 n] w fun v' w'=>Ext w w' ∧ QTripV S w' v' (onT n):=by
 have hb:=H6 n
 have hq:=b41 hb
 have h1 : I63 (small5 n):=a03 (by omega)
 have h2 : I63 (small5 n * small5 n):=a03 hq
 refine o8 (E:=env) (S0:=S) (G:=Gh.nil) (l:=[.one (.int .i64 n)]) Tryz.func22 rfl rfl rfl ⟨trivial,trivial⟩ rfl trivial ?_
 refine s_K (.one (.int .i64 (small5 n))) ⟨a8,hS,b7⟩ (by kernel_rfl) (by kernel_rfl) (j9 rfl) rfl (fun β S w hS hs hw hG=>⟨_,(by kernel_rfl),N4 hS⟩) ?_
 refine X3 (p:=small5 n = 5) ⟨a8,hS,b7⟩ (by kernel_rfl) (by kernel_rfl) (by kernel_rfl) (fun h5=>?_) (fun h5=>?_)
 ·refine s_1 (fun x0=>.one (.ag 4 x0)) (fun x0=>qG x0 ((0 : Rat))) ⟨a8,hS,b7⟩ (by kernel_rfl) (by kernel_rfl) (fun _ _ _ h=>⟨h.ok,rfl⟩) (fun β S w hS hs hw hG=>⟨_,(by kernel_rfl),I7 hS⟩) ?_
  intro x1
  refine s_1 (fun x0=>.one (.ag 4 x0)) (fun x0=>qG x0 ((0 : Rat))) ⟨a8,hS,b7⟩ (by kernel_rfl) (by kernel_rfl) (fun _ _ _ h=>⟨h.ok,rfl⟩) (fun β S w hS hs hw hG=>⟨_,(by kernel_rfl),I7 hS⟩) ?_
  intro x2
  refine s_1 (fun x0=>.one (.ag 4 x0)) (fun x0=>qG x0 ((1 : Rat))) ⟨a8,hS,b7⟩ (by kernel_rfl) (by kernel_rfl) (fun _ _ _ h=>⟨h.ok,rfl⟩) (fun β S w hS hs hw hG=>⟨_,(by kernel_rfl),G5 hS⟩) ?_
  intro x3
  exact q8 (tri4 x1 x2 x3) ⟨a8,hS,b7⟩ (by kernel_rfl) rfl (by kernel_rfl) (fun β=>(by kernel_rfl)) (fun S w hs hw hG=>have a3:=hG.1; have a2:=hG.2.1; have a1:=hG.2.2.1; ⟨hw,by unfold onT; rw [if_pos h5]; exact ⟨x1,x2,x3,rfl,a1.mono fun k _ hk=>hs k hk,a2.mono fun k _ hk=>hs k hk,a3.mono fun k _ hk=>hs k hk⟩⟩)
 ·refine s_1 (fun x0=>.one (.ag 4 x0)) (fun x0=>qG x0 (((small5 n : Int) : Rat))) ⟨a8,hS,b7⟩ (by kernel_rfl) (by kernel_rfl) (fun _ _ _ h=>⟨h.ok,rfl⟩) (fun β S w hS hs hw hG=>⟨_,(by kernel_rfl),F4 hS h1.1 h1.2⟩) ?_
  intro x1
  refine s_1 (fun x0=>.one (.ag 4 x0)) (fun x0=>qG x0 ((1 : Rat))) ⟨a8,hS,b7⟩ (by kernel_rfl) (by kernel_rfl) (fun _ _ _ h=>⟨h.ok,rfl⟩) (fun β S w hS hs hw hG=>⟨_,(by kernel_rfl),G5 hS⟩) ?_
  intro x2
  refine I8 (ps:=[InR .i64 (small5 n * small5 n)]) ⟨a8,hS,b7⟩ (by kernel_rfl) (by simp only [AllT,InR,and_true]; exact h2) ?_
  refine s_1 (fun x0=>.one (.ag 4 x0)) (fun x0=>qG x0 (((small5 n * small5 n : Int) : Rat))) ⟨a8,hS,b7⟩ (by kernel_rfl) (by kernel_rfl) (fun _ _ _ h=>⟨h.ok,rfl⟩) (fun β S w hS hs hw hG=>⟨_,(by kernel_rfl),F4 hS h2.1 h2.2⟩) ?_
  intro x3
  exact q8 (tri4 x1 x2 x3) ⟨a8,hS,b7⟩ (by kernel_rfl) rfl (by kernel_rfl) (fun β=>(by kernel_rfl)) (fun S w hs hw hG=>have a3:=hG.1; have a2:=hG.2.1; have a1:=hG.2.2.1; ⟨hw,by unfold onT; rw [if_neg h5]; exact ⟨x1,x2,x3,rfl,a1.mono fun k _ hk=>hs k hk,a2.mono fun k _ hk=>hs k hk,a3.mono fun k _ hk=>hs k hk⟩⟩)
def nineV (a : Nat → Int) : Value:=.agg #[.int .i64 (a 0),.int .i64 (a 1),.int .i64 (a 2),.int .i64 (a 3),.int .i64 (a 4),.int .i64 (a 5),.int .i64 (a 6),.int .i64 (a 7),.int .i64 (a 8)]
theorem bi1 {a : Nat → Int} {m : Nat} : (SV.agg [.int .i64 (a 0),.int .i64 (a 1),.int .i64 (a 2),.int .i64 (a 3),.int .i64 (a 4),.int .i64 (a 5),.int .i64 (a 6),.int .i64 (a 7),.int .i64 (a 8)]).Ok m:=G7 ⟨trivial,trivial,trivial,trivial,trivial,trivial,trivial,trivial,trivial,trivial⟩
noncomputable def smallM (a : Nat → Int) : M3:=⟨⟨((small3 (a 0) : Int) : Rat),((small3 (a 1) : Int) : Rat),((small3 (a 2) : Int) : Rat)⟩,⟨((small3 (a 3) : Int) : Rat),((small3 (a 4) : Int) : Rat),((small3 (a 5) : Int) : Rat)⟩,⟨((small3 (a 6) : Int) : Rat),((small3 (a 7) : Int) : Rat),((small3 (a 8) : Int) : Rat)⟩⟩
def unitM : M3:=⟨⟨1,0,0⟩,⟨0,1,0⟩,⟨0,0,1⟩⟩
noncomputable def gridM (a : Nat → Int) : M3:=if (smallM a).det = 0 then unitM else smallM a
theorem a25 (a : Nat → Int) : ml (smallM a) 1:=by
 have h : ∀ i,rl ((small3 (a i) : Int) : Rat) 1:=fun i=>ak3 (by have:=as6 (a i); omega)
 exact ⟨⟨h 0,h 1,h 2⟩,⟨h 3,h 4,h 5⟩,⟨h 6,h 7,h 8⟩⟩
theorem F6 (a : Nat → Int) : ml (gridM a) 1:=by
 unfold gridM
 split
 ·exact ⟨⟨D9 (by decide) (by decide),D9 (by decide) (by decide),D9 (by decide) (by decide)⟩,⟨D9 (by decide) (by decide),D9 (by decide) (by decide),D9 (by decide) (by decide)⟩,⟨D9 (by decide) (by decide),D9 (by decide) (by decide),D9 (by decide) (by decide)⟩⟩
 ·exact a25 a
theorem ar6 (a : Nat → Int) : (gridM a).det ≠ 0:=by
 unfold gridM
 split
 ·decide +kernel
 ·assumption
set_option maxRecDepth 100000 in
set_option maxHeartbeats 8000000 in
theorem cb4 {S : Nat → Prop} {w : World} {a : Nat → Int} (hS : Up S w) :
  Gives Tryz.prog 19 [nineV a] w fun v' w'=>Ext w w' ∧ QMapV S w' v' (gridM a):=by
 have hi : ∀ i,I63 (small3 (a i)):=fun i=>a03 (by have:=as6 (a i); omega)
 refine o8 (E:=env) (S0:=S) (G:=Gh.nil) (l:=[.agg [.int .i64 (a 0),.int .i64 (a 1),.int .i64 (a 2),.int .i64 (a 3),.int .i64 (a 4),.int .i64 (a 5),.int .i64 (a 6),.int .i64 (a 7),.int .i64 (a 8)]]) Tryz.func19 rfl rfl rfl ⟨bi1,trivial⟩ rfl trivial ?_
 refine A5 ⟨a8,hS,b7⟩ (by kernel_rfl) ?_
 refine l8 12 ⟨a8,hS,b7⟩ (by kernel_rfl) (by kernel_rfl) (by kernel_rfl) ?_
 refine i1 8 (fun η=>(by kernel_rfl)) ?_
 refine h_K (.one (.int .i64 (small3 (a 0)))) (fun η=>(by kernel_rfl)) (j9 rfl) rfl (fun β η S w hS hs hw hG hd=>⟨_,(by kernel_rfl),I4 hS⟩) ?_
 refine h_1 (fun x0=>.one (.ag 4 x0)) (fun x0=>qG x0 (((small3 (a 0) : Int) : Rat))) (fun η=>(by kernel_rfl)) (fun _ _ _ h=>⟨h.ok,rfl⟩) (fun β η S w hS hs hw hG hd=>⟨_,(by kernel_rfl),F4 hS (hi 0).1 (hi 0).2⟩) ?_
 refine i1 2 (fun η=>(by kernel_rfl)) ?_
 refine l6 [true,true] (Gh.nil) (by exact fun _ _ h=>trivial) (fun g η=>(qG (η 9) (((small3 (a 0) : Int) : Rat))).and ((Gh.nil).and g)) (by kernel_rfl) (fun g η=>(by kernel_rfl)) ?_
 intro η_1
 refine A5 ⟨a8,hS,b7⟩ (by kernel_rfl) ?_
 refine l8 12 ⟨a8,hS,b7⟩ (by kernel_rfl) (by kernel_rfl) (by kernel_rfl) ?_
 refine i1 8 (fun η=>(by kernel_rfl)) ?_
 refine h_K (.one (.int .i64 (small3 (a 1)))) (fun η=>(by kernel_rfl)) (j9 rfl) rfl (fun β η S w hS hs hw hG hd=>⟨_,(by kernel_rfl),I4 hS⟩) ?_
 refine h_1 (fun x0=>.one (.ag 4 x0)) (fun x0=>qG x0 (((small3 (a 1) : Int) : Rat))) (fun η=>(by kernel_rfl)) (fun _ _ _ h=>⟨h.ok,rfl⟩) (fun β η S w hS hs hw hG hd=>⟨_,(by kernel_rfl),F4 hS (hi 1).1 (hi 1).2⟩) ?_
 refine i1 2 (fun η=>(by kernel_rfl)) ?_
 refine l6 [true,true] ((qG (η_1 9) (((small3 (a 0) : Int) : Rat))).and (Gh.nil)) (by exact fun _ _ h=>⟨h.1,trivial⟩) (fun g η=>(qG (η 9) (((small3 (a 1) : Int) : Rat))).and ((Gh.nil).and g)) (by kernel_rfl) (fun g η=>(by kernel_rfl)) ?_
 intro η_2
 refine A5 ⟨a8,hS,b7⟩ (by kernel_rfl) ?_
 refine l8 12 ⟨a8,hS,b7⟩ (by kernel_rfl) (by kernel_rfl) (by kernel_rfl) ?_
 refine i1 8 (fun η=>(by kernel_rfl)) ?_
 refine h_K (.one (.int .i64 (small3 (a 2)))) (fun η=>(by kernel_rfl)) (j9 rfl) rfl (fun β η S w hS hs hw hG hd=>⟨_,(by kernel_rfl),I4 hS⟩) ?_
 refine h_1 (fun x0=>.one (.ag 4 x0)) (fun x0=>qG x0 (((small3 (a 2) : Int) : Rat))) (fun η=>(by kernel_rfl)) (fun _ _ _ h=>⟨h.ok,rfl⟩) (fun β η S w hS hs hw hG hd=>⟨_,(by kernel_rfl),F4 hS (hi 2).1 (hi 2).2⟩) ?_
 refine i1 2 (fun η=>(by kernel_rfl)) ?_
 refine l6 [true,true] ((qG (η_2 9) (((small3 (a 1) : Int) : Rat))).and ((qG (η_1 9) (((small3 (a 0) : Int) : Rat))).and (Gh.nil))) (by exact fun _ _ h=>⟨h.1,h.2.2.1,trivial⟩) (fun g η=>(qG (η 9) (((small3 (a 2) : Int) : Rat))).and ((Gh.nil).and g)) (by kernel_rfl) (fun g η=>(by kernel_rfl)) ?_
 intro η_3
 refine A5 ⟨a8,hS,b7⟩ (by kernel_rfl) ?_
 refine l8 12 ⟨a8,hS,b7⟩ (by kernel_rfl) (by kernel_rfl) (by kernel_rfl) ?_
 refine i1 8 (fun η=>(by kernel_rfl)) ?_
 refine h_K (.one (.int .i64 (small3 (a 3)))) (fun η=>(by kernel_rfl)) (j9 rfl) rfl (fun β η S w hS hs hw hG hd=>⟨_,(by kernel_rfl),I4 hS⟩) ?_
 refine h_1 (fun x0=>.one (.ag 4 x0)) (fun x0=>qG x0 (((small3 (a 3) : Int) : Rat))) (fun η=>(by kernel_rfl)) (fun _ _ _ h=>⟨h.ok,rfl⟩) (fun β η S w hS hs hw hG hd=>⟨_,(by kernel_rfl),F4 hS (hi 3).1 (hi 3).2⟩) ?_
 refine i1 2 (fun η=>(by kernel_rfl)) ?_
 refine l6 [true,true] ((qG (η_3 9) (((small3 (a 2) : Int) : Rat))).and ((qG (η_2 9) (((small3 (a 1) : Int) : Rat))).and ((qG (η_1 9) (((small3 (a 0) : Int) : Rat))).and (Gh.nil)))) (by exact fun _ _ h=>⟨h.1,h.2.2.1,h.2.2.2.1,trivial⟩) (fun g η=>(qG (η 9) (((small3 (a 3) : Int) : Rat))).and ((Gh.nil).and g)) (by kernel_rfl) (fun g η=>(by kernel_rfl)) ?_
 intro η_4
 refine A5 ⟨a8,hS,b7⟩ (by kernel_rfl) ?_
 refine l8 12 ⟨a8,hS,b7⟩ (by kernel_rfl) (by kernel_rfl) (by kernel_rfl) ?_
 refine i1 8 (fun η=>(by kernel_rfl)) ?_
 refine h_K (.one (.int .i64 (small3 (a 4)))) (fun η=>(by kernel_rfl)) (j9 rfl) rfl (fun β η S w hS hs hw hG hd=>⟨_,(by kernel_rfl),I4 hS⟩) ?_
 refine h_1 (fun x0=>.one (.ag 4 x0)) (fun x0=>qG x0 (((small3 (a 4) : Int) : Rat))) (fun η=>(by kernel_rfl)) (fun _ _ _ h=>⟨h.ok,rfl⟩) (fun β η S w hS hs hw hG hd=>⟨_,(by kernel_rfl),F4 hS (hi 4).1 (hi 4).2⟩) ?_
 refine i1 2 (fun η=>(by kernel_rfl)) ?_
 refine l6 [true,true] ((qG (η_4 9) (((small3 (a 3) : Int) : Rat))).and ((qG (η_3 9) (((small3 (a 2) : Int) : Rat))).and ((qG (η_2 9) (((small3 (a 1) : Int) : Rat))).and ((qG (η_1 9) (((small3 (a 0) : Int) : Rat))).and (Gh.nil))))) (by exact fun _ _ h=>⟨h.1,h.2.2.1,h.2.2.2.1,h.2.2.2.2.1,trivial⟩) (fun g η=>(qG (η 9) (((small3 (a 4) : Int) : Rat))).and ((Gh.nil).and g)) (by kernel_rfl) (fun g η=>(by kernel_rfl)) ?_
 intro η_5
 refine A5 ⟨a8,hS,b7⟩ (by kernel_rfl) ?_
 refine l8 12 ⟨a8,hS,b7⟩ (by kernel_rfl) (by kernel_rfl) (by kernel_rfl) ?_
 refine i1 8 (fun η=>(by kernel_rfl)) ?_
 refine h_K (.one (.int .i64 (small3 (a 5)))) (fun η=>(by kernel_rfl)) (j9 rfl) rfl (fun β η S w hS hs hw hG hd=>⟨_,(by kernel_rfl),I4 hS⟩) ?_
 refine h_1 (fun x0=>.one (.ag 4 x0)) (fun x0=>qG x0 (((small3 (a 5) : Int) : Rat))) (fun η=>(by kernel_rfl)) (fun _ _ _ h=>⟨h.ok,rfl⟩) (fun β η S w hS hs hw hG hd=>⟨_,(by kernel_rfl),F4 hS (hi 5).1 (hi 5).2⟩) ?_
 refine i1 2 (fun η=>(by kernel_rfl)) ?_
 refine l6 [true,true] ((qG (η_5 9) (((small3 (a 4) : Int) : Rat))).and ((qG (η_4 9) (((small3 (a 3) : Int) : Rat))).and ((qG (η_3 9) (((small3 (a 2) : Int) : Rat))).and ((qG (η_2 9) (((small3 (a 1) : Int) : Rat))).and ((qG (η_1 9) (((small3 (a 0) : Int) : Rat))).and (Gh.nil)))))) (by exact fun _ _ h=>⟨h.1,h.2.2.1,h.2.2.2.1,h.2.2.2.2.1,h.2.2.2.2.2.1,trivial⟩) (fun g η=>(qG (η 9) (((small3 (a 5) : Int) : Rat))).and ((Gh.nil).and g)) (by kernel_rfl) (fun g η=>(by kernel_rfl)) ?_
 intro η_6
 refine A5 ⟨a8,hS,b7⟩ (by kernel_rfl) ?_
 refine l8 12 ⟨a8,hS,b7⟩ (by kernel_rfl) (by kernel_rfl) (by kernel_rfl) ?_
 refine i1 8 (fun η=>(by kernel_rfl)) ?_
 refine h_K (.one (.int .i64 (small3 (a 6)))) (fun η=>(by kernel_rfl)) (j9 rfl) rfl (fun β η S w hS hs hw hG hd=>⟨_,(by kernel_rfl),I4 hS⟩) ?_
 refine h_1 (fun x0=>.one (.ag 4 x0)) (fun x0=>qG x0 (((small3 (a 6) : Int) : Rat))) (fun η=>(by kernel_rfl)) (fun _ _ _ h=>⟨h.ok,rfl⟩) (fun β η S w hS hs hw hG hd=>⟨_,(by kernel_rfl),F4 hS (hi 6).1 (hi 6).2⟩) ?_
 refine i1 2 (fun η=>(by kernel_rfl)) ?_
 refine l6 [true,true] ((qG (η_6 9) (((small3 (a 5) : Int) : Rat))).and ((qG (η_5 9) (((small3 (a 4) : Int) : Rat))).and ((qG (η_4 9) (((small3 (a 3) : Int) : Rat))).and ((qG (η_3 9) (((small3 (a 2) : Int) : Rat))).and ((qG (η_2 9) (((small3 (a 1) : Int) : Rat))).and ((qG (η_1 9) (((small3 (a 0) : Int) : Rat))).and (Gh.nil))))))) (by exact fun _ _ h=>⟨h.1,h.2.2.1,h.2.2.2.1,h.2.2.2.2.1,h.2.2.2.2.2.1,h.2.2.2.2.2.2.1,trivial⟩) (fun g η=>(qG (η 9) (((small3 (a 6) : Int) : Rat))).and ((Gh.nil).and g)) (by kernel_rfl) (fun g η=>(by kernel_rfl)) ?_
 intro η_7
 refine A5 ⟨a8,hS,b7⟩ (by kernel_rfl) ?_
 refine l8 12 ⟨a8,hS,b7⟩ (by kernel_rfl) (by kernel_rfl) (by kernel_rfl) ?_
 refine i1 8 (fun η=>(by kernel_rfl)) ?_
 refine h_K (.one (.int .i64 (small3 (a 7)))) (fun η=>(by kernel_rfl)) (j9 rfl) rfl (fun β η S w hS hs hw hG hd=>⟨_,(by kernel_rfl),I4 hS⟩) ?_
 refine h_1 (fun x0=>.one (.ag 4 x0)) (fun x0=>qG x0 (((small3 (a 7) : Int) : Rat))) (fun η=>(by kernel_rfl)) (fun _ _ _ h=>⟨h.ok,rfl⟩) (fun β η S w hS hs hw hG hd=>⟨_,(by kernel_rfl),F4 hS (hi 7).1 (hi 7).2⟩) ?_
 refine i1 2 (fun η=>(by kernel_rfl)) ?_
 refine l6 [true,true] ((qG (η_7 9) (((small3 (a 6) : Int) : Rat))).and ((qG (η_6 9) (((small3 (a 5) : Int) : Rat))).and ((qG (η_5 9) (((small3 (a 4) : Int) : Rat))).and ((qG (η_4 9) (((small3 (a 3) : Int) : Rat))).and ((qG (η_3 9) (((small3 (a 2) : Int) : Rat))).and ((qG (η_2 9) (((small3 (a 1) : Int) : Rat))).and ((qG (η_1 9) (((small3 (a 0) : Int) : Rat))).and (Gh.nil)))))))) (by exact fun _ _ h=>⟨h.1,h.2.2.1,h.2.2.2.1,h.2.2.2.2.1,h.2.2.2.2.2.1,h.2.2.2.2.2.2.1,h.2.2.2.2.2.2.2.1,trivial⟩) (fun g η=>(qG (η 9) (((small3 (a 7) : Int) : Rat))).and ((Gh.nil).and g)) (by kernel_rfl) (fun g η=>(by kernel_rfl)) ?_
 intro η_8
 refine A5 ⟨a8,hS,b7⟩ (by kernel_rfl) ?_
 refine l8 12 ⟨a8,hS,b7⟩ (by kernel_rfl) (by kernel_rfl) (by kernel_rfl) ?_
 refine i1 8 (fun η=>(by kernel_rfl)) ?_
 refine h_K (.one (.int .i64 (small3 (a 8)))) (fun η=>(by kernel_rfl)) (j9 rfl) rfl (fun β η S w hS hs hw hG hd=>⟨_,(by kernel_rfl),I4 hS⟩) ?_
 refine h_1 (fun x0=>.one (.ag 4 x0)) (fun x0=>qG x0 (((small3 (a 8) : Int) : Rat))) (fun η=>(by kernel_rfl)) (fun _ _ _ h=>⟨h.ok,rfl⟩) (fun β η S w hS hs hw hG hd=>⟨_,(by kernel_rfl),F4 hS (hi 8).1 (hi 8).2⟩) ?_
 refine i1 2 (fun η=>(by kernel_rfl)) ?_
 refine l6 [true,true] ((qG (η_8 9) (((small3 (a 7) : Int) : Rat))).and ((qG (η_7 9) (((small3 (a 6) : Int) : Rat))).and ((qG (η_6 9) (((small3 (a 5) : Int) : Rat))).and ((qG (η_5 9) (((small3 (a 4) : Int) : Rat))).and ((qG (η_4 9) (((small3 (a 3) : Int) : Rat))).and ((qG (η_3 9) (((small3 (a 2) : Int) : Rat))).and ((qG (η_2 9) (((small3 (a 1) : Int) : Rat))).and ((qG (η_1 9) (((small3 (a 0) : Int) : Rat))).and (Gh.nil))))))))) (by exact fun _ _ h=>⟨h.1,h.2.2.1,h.2.2.2.1,h.2.2.2.2.1,h.2.2.2.2.2.1,h.2.2.2.2.2.2.1,h.2.2.2.2.2.2.2.1,h.2.2.2.2.2.2.2.2.1,trivial⟩) (fun g η=>(qG (η 9) (((small3 (a 8) : Int) : Rat))).and ((Gh.nil).and g)) (by kernel_rfl) (fun g η=>(by kernel_rfl)) ?_
 intro η_9
 refine s_K (.one (.int .i64 (if (smallM a).det = 0 then 60 else 0))) ⟨a8,hS,b7⟩ (by kernel_rfl) (by kernel_rfl) (j9 rfl) rfl (fun β S w hS hs hw hG=>have g8:=hG.1; have g7:=hG.2.2.1; have g6:=hG.2.2.2.1; have g5:=hG.2.2.2.2.1; have g4:=hG.2.2.2.2.2.1; have g3:=hG.2.2.2.2.2.2.1; have g2:=hG.2.2.2.2.2.2.2.1; have g1:=hG.2.2.2.2.2.2.2.2.1; have g0:=hG.2.2.2.2.2.2.2.2.2.1; ⟨_,(by kernel_rfl),a90 hS ⟨_,_,_,_,_,_,_,_,_,rfl,⟨g0,g1,g2,g3,g4,g5,g6,g7,g8⟩⟩ (a25 a) (by decide)⟩) ?_
 by_cases hd : (smallM a).det = 0
 ·refine R9 (p:=¬ (if (smallM a).det = 0 then (60 : Int) else 0) = 0) ⟨a8,hS,b7⟩ (by kernel_rfl) (by kernel_rfl) (by kernel_rfl) (by rw [if_pos hd]; decide) ?_
  refine A5 ⟨a8,hS,b7⟩ (by kernel_rfl) ?_
  refine l8 5 ⟨a8,hS,b7⟩ (by kernel_rfl) (by kernel_rfl) (by kernel_rfl) ?_
  refine i1 2 (fun η=>(by kernel_rfl)) ?_
  refine h_1 (fun x0=>.one (.ag 4 x0)) (fun x0=>qG x0 ((0 : Rat))) (fun η=>(by kernel_rfl)) (fun _ _ _ h=>⟨h.ok,rfl⟩) (fun β η S w hS hs hw hG hd=>⟨_,(by kernel_rfl),I7 hS⟩) ?_
  refine i1 2 (fun η=>(by kernel_rfl)) ?_
  refine l6 [false] ((qG (η_9 9) (((small3 (a 8) : Int) : Rat))).and ((qG (η_8 9) (((small3 (a 7) : Int) : Rat))).and ((qG (η_7 9) (((small3 (a 6) : Int) : Rat))).and ((qG (η_6 9) (((small3 (a 5) : Int) : Rat))).and ((qG (η_5 9) (((small3 (a 4) : Int) : Rat))).and ((qG (η_4 9) (((small3 (a 3) : Int) : Rat))).and ((qG (η_3 9) (((small3 (a 2) : Int) : Rat))).and ((qG (η_2 9) (((small3 (a 1) : Int) : Rat))).and ((qG (η_1 9) (((small3 (a 0) : Int) : Rat))).and (Gh.nil)))))))))) (by exact fun _ _ h=>⟨h.1,h.2.2.1,h.2.2.2.1,h.2.2.2.2.1,h.2.2.2.2.2.1,h.2.2.2.2.2.2.1,h.2.2.2.2.2.2.2.1,h.2.2.2.2.2.2.2.2.1,h.2.2.2.2.2.2.2.2.2.1,trivial⟩) (fun g η=>g) (by kernel_rfl) (fun g η=>(by kernel_rfl)) ?_
  intro η_10
  refine A5 ⟨a8,hS,b7⟩ (by kernel_rfl) ?_
  refine l8 5 ⟨a8,hS,b7⟩ (by kernel_rfl) (by kernel_rfl) (by kernel_rfl) ?_
  refine i1 2 (fun η=>(by kernel_rfl)) ?_
  refine h_1 (fun x0=>.one (.ag 4 x0)) (fun x0=>qG x0 ((0 : Rat))) (fun η=>(by kernel_rfl)) (fun _ _ _ h=>⟨h.ok,rfl⟩) (fun β η S w hS hs hw hG hd=>⟨_,(by kernel_rfl),I7 hS⟩) ?_
  refine i1 2 (fun η=>(by kernel_rfl)) ?_
  refine l6 [true] ((qG (η_9 9) (((small3 (a 8) : Int) : Rat))).and ((qG (η_8 9) (((small3 (a 7) : Int) : Rat))).and ((qG (η_7 9) (((small3 (a 6) : Int) : Rat))).and ((qG (η_6 9) (((small3 (a 5) : Int) : Rat))).and ((qG (η_5 9) (((small3 (a 4) : Int) : Rat))).and ((qG (η_4 9) (((small3 (a 3) : Int) : Rat))).and ((qG (η_3 9) (((small3 (a 2) : Int) : Rat))).and ((qG (η_2 9) (((small3 (a 1) : Int) : Rat))).and ((qG (η_1 9) (((small3 (a 0) : Int) : Rat))).and (Gh.nil)))))))))) (by exact fun _ _ h=>⟨h.1,h.2.1,h.2.2.1,h.2.2.2.1,h.2.2.2.2.1,h.2.2.2.2.2.1,h.2.2.2.2.2.2.1,h.2.2.2.2.2.2.2.1,h.2.2.2.2.2.2.2.2.1,trivial⟩) (fun g η=>(qG (η 2) ((0 : Rat))).and g) (by kernel_rfl) (fun g η=>(by kernel_rfl)) ?_
  intro η_11
  refine A5 ⟨a8,hS,b7⟩ (by kernel_rfl) ?_
  refine l8 5 ⟨a8,hS,b7⟩ (by kernel_rfl) (by kernel_rfl) (by kernel_rfl) ?_
  refine i1 2 (fun η=>(by kernel_rfl)) ?_
  refine h_1 (fun x0=>.one (.ag 4 x0)) (fun x0=>qG x0 ((0 : Rat))) (fun η=>(by kernel_rfl)) (fun _ _ _ h=>⟨h.ok,rfl⟩) (fun β η S w hS hs hw hG hd=>⟨_,(by kernel_rfl),I7 hS⟩) ?_
  refine i1 2 (fun η=>(by kernel_rfl)) ?_
  refine l6 [true] ((qG (η_11 2) ((0 : Rat))).and ((qG (η_9 9) (((small3 (a 8) : Int) : Rat))).and ((qG (η_8 9) (((small3 (a 7) : Int) : Rat))).and ((qG (η_7 9) (((small3 (a 6) : Int) : Rat))).and ((qG (η_6 9) (((small3 (a 5) : Int) : Rat))).and ((qG (η_5 9) (((small3 (a 4) : Int) : Rat))).and ((qG (η_4 9) (((small3 (a 3) : Int) : Rat))).and ((qG (η_3 9) (((small3 (a 2) : Int) : Rat))).and ((qG (η_2 9) (((small3 (a 1) : Int) : Rat))).and ((qG (η_1 9) (((small3 (a 0) : Int) : Rat))).and (Gh.nil))))))))))) (by exact fun _ _ h=>⟨h.1,h.2.1,h.2.2.1,h.2.2.2.1,h.2.2.2.2.1,h.2.2.2.2.2.1,h.2.2.2.2.2.2.1,h.2.2.2.2.2.2.2.1,h.2.2.2.2.2.2.2.2.1,h.2.2.2.2.2.2.2.2.2.1,trivial⟩) (fun g η=>(qG (η 2) ((0 : Rat))).and g) (by kernel_rfl) (fun g η=>(by kernel_rfl)) ?_
  intro η_12
  refine A5 ⟨a8,hS,b7⟩ (by kernel_rfl) ?_
  refine l8 5 ⟨a8,hS,b7⟩ (by kernel_rfl) (by kernel_rfl) (by kernel_rfl) ?_
  refine i1 2 (fun η=>(by kernel_rfl)) ?_
  refine h_1 (fun x0=>.one (.ag 4 x0)) (fun x0=>qG x0 ((1 : Rat))) (fun η=>(by kernel_rfl)) (fun _ _ _ h=>⟨h.ok,rfl⟩) (fun β η S w hS hs hw hG hd=>⟨_,(by kernel_rfl),G5 hS⟩) ?_
  refine i1 2 (fun η=>(by kernel_rfl)) ?_
  refine l6 [true] ((qG (η_12 2) ((0 : Rat))).and ((qG (η_11 2) ((0 : Rat))).and ((qG (η_9 9) (((small3 (a 8) : Int) : Rat))).and ((qG (η_8 9) (((small3 (a 7) : Int) : Rat))).and ((qG (η_7 9) (((small3 (a 6) : Int) : Rat))).and ((qG (η_6 9) (((small3 (a 5) : Int) : Rat))).and ((qG (η_5 9) (((small3 (a 4) : Int) : Rat))).and ((qG (η_4 9) (((small3 (a 3) : Int) : Rat))).and ((qG (η_3 9) (((small3 (a 2) : Int) : Rat))).and ((qG (η_2 9) (((small3 (a 1) : Int) : Rat))).and ((qG (η_1 9) (((small3 (a 0) : Int) : Rat))).and (Gh.nil)))))))))))) (by exact fun _ _ h=>⟨h.1,h.2.1,h.2.2.1,h.2.2.2.1,h.2.2.2.2.1,h.2.2.2.2.2.1,h.2.2.2.2.2.2.1,h.2.2.2.2.2.2.2.1,h.2.2.2.2.2.2.2.2.1,h.2.2.2.2.2.2.2.2.2.1,h.2.2.2.2.2.2.2.2.2.2.1,trivial⟩) (fun g η=>(qG (η 2) ((1 : Rat))).and g) (by kernel_rfl) (fun g η=>(by kernel_rfl)) ?_
  intro η_13
  refine A5 ⟨a8,hS,b7⟩ (by kernel_rfl) ?_
  refine l8 5 ⟨a8,hS,b7⟩ (by kernel_rfl) (by kernel_rfl) (by kernel_rfl) ?_
  refine i1 2 (fun η=>(by kernel_rfl)) ?_
  refine h_1 (fun x0=>.one (.ag 4 x0)) (fun x0=>qG x0 ((0 : Rat))) (fun η=>(by kernel_rfl)) (fun _ _ _ h=>⟨h.ok,rfl⟩) (fun β η S w hS hs hw hG hd=>⟨_,(by kernel_rfl),I7 hS⟩) ?_
  refine i1 2 (fun η=>(by kernel_rfl)) ?_
  refine l6 [true] ((qG (η_13 2) ((1 : Rat))).and ((qG (η_12 2) ((0 : Rat))).and ((qG (η_11 2) ((0 : Rat))).and ((qG (η_9 9) (((small3 (a 8) : Int) : Rat))).and ((qG (η_8 9) (((small3 (a 7) : Int) : Rat))).and ((qG (η_7 9) (((small3 (a 6) : Int) : Rat))).and ((qG (η_6 9) (((small3 (a 5) : Int) : Rat))).and ((qG (η_5 9) (((small3 (a 4) : Int) : Rat))).and ((qG (η_4 9) (((small3 (a 3) : Int) : Rat))).and ((qG (η_3 9) (((small3 (a 2) : Int) : Rat))).and ((qG (η_2 9) (((small3 (a 1) : Int) : Rat))).and ((qG (η_1 9) (((small3 (a 0) : Int) : Rat))).and (Gh.nil))))))))))))) (by exact fun _ _ h=>⟨h.1,h.2.1,h.2.2.1,h.2.2.2.1,h.2.2.2.2.1,h.2.2.2.2.2.1,h.2.2.2.2.2.2.1,h.2.2.2.2.2.2.2.1,h.2.2.2.2.2.2.2.2.1,h.2.2.2.2.2.2.2.2.2.1,h.2.2.2.2.2.2.2.2.2.2.1,h.2.2.2.2.2.2.2.2.2.2.2.1,trivial⟩) (fun g η=>(qG (η 2) ((0 : Rat))).and g) (by kernel_rfl) (fun g η=>(by kernel_rfl)) ?_
  intro η_14
  refine A5 ⟨a8,hS,b7⟩ (by kernel_rfl) ?_
  refine l8 5 ⟨a8,hS,b7⟩ (by kernel_rfl) (by kernel_rfl) (by kernel_rfl) ?_
  refine i1 2 (fun η=>(by kernel_rfl)) ?_
  refine h_1 (fun x0=>.one (.ag 4 x0)) (fun x0=>qG x0 ((0 : Rat))) (fun η=>(by kernel_rfl)) (fun _ _ _ h=>⟨h.ok,rfl⟩) (fun β η S w hS hs hw hG hd=>⟨_,(by kernel_rfl),I7 hS⟩) ?_
  refine i1 2 (fun η=>(by kernel_rfl)) ?_
  refine l6 [false] ((qG (η_14 2) ((0 : Rat))).and ((qG (η_13 2) ((1 : Rat))).and ((qG (η_12 2) ((0 : Rat))).and ((qG (η_11 2) ((0 : Rat))).and ((qG (η_9 9) (((small3 (a 8) : Int) : Rat))).and ((qG (η_8 9) (((small3 (a 7) : Int) : Rat))).and ((qG (η_7 9) (((small3 (a 6) : Int) : Rat))).and ((qG (η_6 9) (((small3 (a 5) : Int) : Rat))).and ((qG (η_5 9) (((small3 (a 4) : Int) : Rat))).and ((qG (η_4 9) (((small3 (a 3) : Int) : Rat))).and ((qG (η_3 9) (((small3 (a 2) : Int) : Rat))).and ((qG (η_2 9) (((small3 (a 1) : Int) : Rat))).and ((qG (η_1 9) (((small3 (a 0) : Int) : Rat))).and (Gh.nil)))))))))))))) (by exact fun _ _ h=>⟨h.1,h.2.1,h.2.2.1,h.2.2.2.1,h.2.2.2.2.1,h.2.2.2.2.2.1,h.2.2.2.2.2.2.1,h.2.2.2.2.2.2.2.1,h.2.2.2.2.2.2.2.2.1,h.2.2.2.2.2.2.2.2.2.1,h.2.2.2.2.2.2.2.2.2.2.1,h.2.2.2.2.2.2.2.2.2.2.2.1,h.2.2.2.2.2.2.2.2.2.2.2.2.1,trivial⟩) (fun g η=>g) (by kernel_rfl) (fun g η=>(by kernel_rfl)) ?_
  intro η_15
  refine A5 ⟨a8,hS,b7⟩ (by kernel_rfl) ?_
  refine l8 5 ⟨a8,hS,b7⟩ (by kernel_rfl) (by kernel_rfl) (by kernel_rfl) ?_
  refine i1 2 (fun η=>(by kernel_rfl)) ?_
  refine h_1 (fun x0=>.one (.ag 4 x0)) (fun x0=>qG x0 ((0 : Rat))) (fun η=>(by kernel_rfl)) (fun _ _ _ h=>⟨h.ok,rfl⟩) (fun β η S w hS hs hw hG hd=>⟨_,(by kernel_rfl),I7 hS⟩) ?_
  refine i1 2 (fun η=>(by kernel_rfl)) ?_
  refine l6 [true] ((qG (η_14 2) ((0 : Rat))).and ((qG (η_13 2) ((1 : Rat))).and ((qG (η_12 2) ((0 : Rat))).and ((qG (η_11 2) ((0 : Rat))).and ((qG (η_9 9) (((small3 (a 8) : Int) : Rat))).and ((qG (η_8 9) (((small3 (a 7) : Int) : Rat))).and ((qG (η_7 9) (((small3 (a 6) : Int) : Rat))).and ((qG (η_6 9) (((small3 (a 5) : Int) : Rat))).and ((qG (η_5 9) (((small3 (a 4) : Int) : Rat))).and ((qG (η_4 9) (((small3 (a 3) : Int) : Rat))).and ((qG (η_3 9) (((small3 (a 2) : Int) : Rat))).and ((qG (η_2 9) (((small3 (a 1) : Int) : Rat))).and ((qG (η_1 9) (((small3 (a 0) : Int) : Rat))).and (Gh.nil)))))))))))))) (by exact fun _ _ h=>⟨h.1,h.2.1,h.2.2.1,h.2.2.2.1,h.2.2.2.2.1,h.2.2.2.2.2.1,h.2.2.2.2.2.2.1,h.2.2.2.2.2.2.2.1,h.2.2.2.2.2.2.2.2.1,h.2.2.2.2.2.2.2.2.2.1,h.2.2.2.2.2.2.2.2.2.2.1,h.2.2.2.2.2.2.2.2.2.2.2.1,h.2.2.2.2.2.2.2.2.2.2.2.2.1,trivial⟩) (fun g η=>(qG (η 2) ((0 : Rat))).and g) (by kernel_rfl) (fun g η=>(by kernel_rfl)) ?_
  intro η_16
  refine A5 ⟨a8,hS,b7⟩ (by kernel_rfl) ?_
  refine l8 5 ⟨a8,hS,b7⟩ (by kernel_rfl) (by kernel_rfl) (by kernel_rfl) ?_
  refine i1 2 (fun η=>(by kernel_rfl)) ?_
  refine h_1 (fun x0=>.one (.ag 4 x0)) (fun x0=>qG x0 ((1 : Rat))) (fun η=>(by kernel_rfl)) (fun _ _ _ h=>⟨h.ok,rfl⟩) (fun β η S w hS hs hw hG hd=>⟨_,(by kernel_rfl),G5 hS⟩) ?_
  refine i1 2 (fun η=>(by kernel_rfl)) ?_
  refine l6 [true] ((qG (η_16 2) ((0 : Rat))).and ((qG (η_14 2) ((0 : Rat))).and ((qG (η_13 2) ((1 : Rat))).and ((qG (η_12 2) ((0 : Rat))).and ((qG (η_11 2) ((0 : Rat))).and ((qG (η_9 9) (((small3 (a 8) : Int) : Rat))).and ((qG (η_8 9) (((small3 (a 7) : Int) : Rat))).and ((qG (η_7 9) (((small3 (a 6) : Int) : Rat))).and ((qG (η_6 9) (((small3 (a 5) : Int) : Rat))).and ((qG (η_5 9) (((small3 (a 4) : Int) : Rat))).and ((qG (η_4 9) (((small3 (a 3) : Int) : Rat))).and ((qG (η_3 9) (((small3 (a 2) : Int) : Rat))).and ((qG (η_2 9) (((small3 (a 1) : Int) : Rat))).and ((qG (η_1 9) (((small3 (a 0) : Int) : Rat))).and (Gh.nil))))))))))))))) (by exact fun _ _ h=>⟨h.1,h.2.1,h.2.2.1,h.2.2.2.1,h.2.2.2.2.1,h.2.2.2.2.2.1,h.2.2.2.2.2.2.1,h.2.2.2.2.2.2.2.1,h.2.2.2.2.2.2.2.2.1,h.2.2.2.2.2.2.2.2.2.1,h.2.2.2.2.2.2.2.2.2.2.1,h.2.2.2.2.2.2.2.2.2.2.2.1,h.2.2.2.2.2.2.2.2.2.2.2.2.1,h.2.2.2.2.2.2.2.2.2.2.2.2.2.1,trivial⟩) (fun g η=>(qG (η 2) ((1 : Rat))).and g) (by kernel_rfl) (fun g η=>(by kernel_rfl)) ?_
  intro η_17
  refine A5 ⟨a8,hS,b7⟩ (by kernel_rfl) ?_
  refine l8 5 ⟨a8,hS,b7⟩ (by kernel_rfl) (by kernel_rfl) (by kernel_rfl) ?_
  refine i1 2 (fun η=>(by kernel_rfl)) ?_
  refine h_1 (fun x0=>.one (.ag 4 x0)) (fun x0=>qG x0 ((0 : Rat))) (fun η=>(by kernel_rfl)) (fun _ _ _ h=>⟨h.ok,rfl⟩) (fun β η S w hS hs hw hG hd=>⟨_,(by kernel_rfl),I7 hS⟩) ?_
  refine i1 2 (fun η=>(by kernel_rfl)) ?_
  refine l6 [true] ((qG (η_17 2) ((1 : Rat))).and ((qG (η_16 2) ((0 : Rat))).and ((qG (η_14 2) ((0 : Rat))).and ((qG (η_13 2) ((1 : Rat))).and ((qG (η_12 2) ((0 : Rat))).and ((qG (η_11 2) ((0 : Rat))).and ((qG (η_9 9) (((small3 (a 8) : Int) : Rat))).and ((qG (η_8 9) (((small3 (a 7) : Int) : Rat))).and ((qG (η_7 9) (((small3 (a 6) : Int) : Rat))).and ((qG (η_6 9) (((small3 (a 5) : Int) : Rat))).and ((qG (η_5 9) (((small3 (a 4) : Int) : Rat))).and ((qG (η_4 9) (((small3 (a 3) : Int) : Rat))).and ((qG (η_3 9) (((small3 (a 2) : Int) : Rat))).and ((qG (η_2 9) (((small3 (a 1) : Int) : Rat))).and ((qG (η_1 9) (((small3 (a 0) : Int) : Rat))).and (Gh.nil)))))))))))))))) (by exact fun _ _ h=>⟨h.1,h.2.1,h.2.2.1,h.2.2.2.1,h.2.2.2.2.1,h.2.2.2.2.2.1,h.2.2.2.2.2.2.1,h.2.2.2.2.2.2.2.1,h.2.2.2.2.2.2.2.2.1,h.2.2.2.2.2.2.2.2.2.1,h.2.2.2.2.2.2.2.2.2.2.1,h.2.2.2.2.2.2.2.2.2.2.2.1,h.2.2.2.2.2.2.2.2.2.2.2.2.1,h.2.2.2.2.2.2.2.2.2.2.2.2.2.1,h.2.2.2.2.2.2.2.2.2.2.2.2.2.2.1,trivial⟩) (fun g η=>(qG (η 2) ((0 : Rat))).and g) (by kernel_rfl) (fun g η=>(by kernel_rfl)) ?_
  intro η_18
  refine A5 ⟨a8,hS,b7⟩ (by kernel_rfl) ?_
  refine l8 5 ⟨a8,hS,b7⟩ (by kernel_rfl) (by kernel_rfl) (by kernel_rfl) ?_
  refine i1 2 (fun η=>(by kernel_rfl)) ?_
  refine h_1 (fun x0=>.one (.ag 4 x0)) (fun x0=>qG x0 ((0 : Rat))) (fun η=>(by kernel_rfl)) (fun _ _ _ h=>⟨h.ok,rfl⟩) (fun β η S w hS hs hw hG hd=>⟨_,(by kernel_rfl),I7 hS⟩) ?_
  refine i1 2 (fun η=>(by kernel_rfl)) ?_
  refine l6 [true] ((qG (η_18 2) ((0 : Rat))).and ((qG (η_17 2) ((1 : Rat))).and ((qG (η_16 2) ((0 : Rat))).and ((qG (η_14 2) ((0 : Rat))).and ((qG (η_13 2) ((1 : Rat))).and ((qG (η_12 2) ((0 : Rat))).and ((qG (η_11 2) ((0 : Rat))).and ((qG (η_9 9) (((small3 (a 8) : Int) : Rat))).and ((qG (η_8 9) (((small3 (a 7) : Int) : Rat))).and ((qG (η_7 9) (((small3 (a 6) : Int) : Rat))).and ((qG (η_6 9) (((small3 (a 5) : Int) : Rat))).and ((qG (η_5 9) (((small3 (a 4) : Int) : Rat))).and ((qG (η_4 9) (((small3 (a 3) : Int) : Rat))).and ((qG (η_3 9) (((small3 (a 2) : Int) : Rat))).and ((qG (η_2 9) (((small3 (a 1) : Int) : Rat))).and ((qG (η_1 9) (((small3 (a 0) : Int) : Rat))).and (Gh.nil))))))))))))))))) (by exact fun _ _ h=>⟨h.1,h.2.1,h.2.2.1,h.2.2.2.1,h.2.2.2.2.1,h.2.2.2.2.2.1,h.2.2.2.2.2.2.1,h.2.2.2.2.2.2.2.1,h.2.2.2.2.2.2.2.2.1,h.2.2.2.2.2.2.2.2.2.1,h.2.2.2.2.2.2.2.2.2.2.1,h.2.2.2.2.2.2.2.2.2.2.2.1,h.2.2.2.2.2.2.2.2.2.2.2.2.1,h.2.2.2.2.2.2.2.2.2.2.2.2.2.1,h.2.2.2.2.2.2.2.2.2.2.2.2.2.2.1,h.2.2.2.2.2.2.2.2.2.2.2.2.2.2.2.1,trivial⟩) (fun g η=>(qG (η 2) ((0 : Rat))).and g) (by kernel_rfl) (fun g η=>(by kernel_rfl)) ?_
  intro η_19
  refine A5 ⟨a8,hS,b7⟩ (by kernel_rfl) ?_
  refine l8 5 ⟨a8,hS,b7⟩ (by kernel_rfl) (by kernel_rfl) (by kernel_rfl) ?_
  refine i1 2 (fun η=>(by kernel_rfl)) ?_
  refine h_1 (fun x0=>.one (.ag 4 x0)) (fun x0=>qG x0 ((0 : Rat))) (fun η=>(by kernel_rfl)) (fun _ _ _ h=>⟨h.ok,rfl⟩) (fun β η S w hS hs hw hG hd=>⟨_,(by kernel_rfl),I7 hS⟩) ?_
  refine i1 2 (fun η=>(by kernel_rfl)) ?_
  refine l6 [false] ((qG (η_19 2) ((0 : Rat))).and ((qG (η_18 2) ((0 : Rat))).and ((qG (η_17 2) ((1 : Rat))).and ((qG (η_16 2) ((0 : Rat))).and ((qG (η_14 2) ((0 : Rat))).and ((qG (η_13 2) ((1 : Rat))).and ((qG (η_12 2) ((0 : Rat))).and ((qG (η_11 2) ((0 : Rat))).and ((qG (η_9 9) (((small3 (a 8) : Int) : Rat))).and ((qG (η_8 9) (((small3 (a 7) : Int) : Rat))).and ((qG (η_7 9) (((small3 (a 6) : Int) : Rat))).and ((qG (η_6 9) (((small3 (a 5) : Int) : Rat))).and ((qG (η_5 9) (((small3 (a 4) : Int) : Rat))).and ((qG (η_4 9) (((small3 (a 3) : Int) : Rat))).and ((qG (η_3 9) (((small3 (a 2) : Int) : Rat))).and ((qG (η_2 9) (((small3 (a 1) : Int) : Rat))).and ((qG (η_1 9) (((small3 (a 0) : Int) : Rat))).and (Gh.nil)))))))))))))))))) (by exact fun _ _ h=>⟨h.1,h.2.1,h.2.2.1,h.2.2.2.1,h.2.2.2.2.1,h.2.2.2.2.2.1,h.2.2.2.2.2.2.1,h.2.2.2.2.2.2.2.1,h.2.2.2.2.2.2.2.2.1,h.2.2.2.2.2.2.2.2.2.1,h.2.2.2.2.2.2.2.2.2.2.1,h.2.2.2.2.2.2.2.2.2.2.2.1,h.2.2.2.2.2.2.2.2.2.2.2.2.1,h.2.2.2.2.2.2.2.2.2.2.2.2.2.1,h.2.2.2.2.2.2.2.2.2.2.2.2.2.2.1,h.2.2.2.2.2.2.2.2.2.2.2.2.2.2.2.1,h.2.2.2.2.2.2.2.2.2.2.2.2.2.2.2.2.1,trivial⟩) (fun g η=>g) (by kernel_rfl) (fun g η=>(by kernel_rfl)) ?_
  intro η_20
  refine A5 ⟨a8,hS,b7⟩ (by kernel_rfl) ?_
  refine l8 5 ⟨a8,hS,b7⟩ (by kernel_rfl) (by kernel_rfl) (by kernel_rfl) ?_
  refine i1 2 (fun η=>(by kernel_rfl)) ?_
  refine h_1 (fun x0=>.one (.ag 4 x0)) (fun x0=>qG x0 ((1 : Rat))) (fun η=>(by kernel_rfl)) (fun _ _ _ h=>⟨h.ok,rfl⟩) (fun β η S w hS hs hw hG hd=>⟨_,(by kernel_rfl),G5 hS⟩) ?_
  refine i1 2 (fun η=>(by kernel_rfl)) ?_
  refine l6 [true] ((qG (η_19 2) ((0 : Rat))).and ((qG (η_18 2) ((0 : Rat))).and ((qG (η_17 2) ((1 : Rat))).and ((qG (η_16 2) ((0 : Rat))).and ((qG (η_14 2) ((0 : Rat))).and ((qG (η_13 2) ((1 : Rat))).and ((qG (η_12 2) ((0 : Rat))).and ((qG (η_11 2) ((0 : Rat))).and ((qG (η_9 9) (((small3 (a 8) : Int) : Rat))).and ((qG (η_8 9) (((small3 (a 7) : Int) : Rat))).and ((qG (η_7 9) (((small3 (a 6) : Int) : Rat))).and ((qG (η_6 9) (((small3 (a 5) : Int) : Rat))).and ((qG (η_5 9) (((small3 (a 4) : Int) : Rat))).and ((qG (η_4 9) (((small3 (a 3) : Int) : Rat))).and ((qG (η_3 9) (((small3 (a 2) : Int) : Rat))).and ((qG (η_2 9) (((small3 (a 1) : Int) : Rat))).and ((qG (η_1 9) (((small3 (a 0) : Int) : Rat))).and (Gh.nil)))))))))))))))))) (by exact fun _ _ h=>⟨h.1,h.2.1,h.2.2.1,h.2.2.2.1,h.2.2.2.2.1,h.2.2.2.2.2.1,h.2.2.2.2.2.2.1,h.2.2.2.2.2.2.2.1,h.2.2.2.2.2.2.2.2.1,h.2.2.2.2.2.2.2.2.2.1,h.2.2.2.2.2.2.2.2.2.2.1,h.2.2.2.2.2.2.2.2.2.2.2.1,h.2.2.2.2.2.2.2.2.2.2.2.2.1,h.2.2.2.2.2.2.2.2.2.2.2.2.2.1,h.2.2.2.2.2.2.2.2.2.2.2.2.2.2.1,h.2.2.2.2.2.2.2.2.2.2.2.2.2.2.2.1,h.2.2.2.2.2.2.2.2.2.2.2.2.2.2.2.2.1,trivial⟩) (fun g η=>(qG (η 2) ((1 : Rat))).and g) (by kernel_rfl) (fun g η=>(by kernel_rfl)) ?_
  intro η_21
  exact q8 (map4 (η_13 2) (η_11 2) (η_12 2) (η_14 2) (η_17 2) (η_16 2) (η_18 2) (η_19 2) (η_21 2)) ⟨a8,hS,b7⟩ (by kernel_rfl) rfl (by kernel_rfl) (fun β=>(by kernel_rfl)) (fun S w hs hw hG=>have o2:=hG.1; have z21:=hG.2.1; have z20:=hG.2.2.1; have o1:=hG.2.2.2.1; have z12:=hG.2.2.2.2.1; have z10:=hG.2.2.2.2.2.1; have o0:=hG.2.2.2.2.2.2.1; have z02:=hG.2.2.2.2.2.2.2.1; have z01:=hG.2.2.2.2.2.2.2.2.1; ⟨hw,by unfold gridM; rw [if_pos hd]; exact ⟨_,_,_,_,_,_,_,_,_,rfl,⟨o0.mono fun k _ hk=>hs k hk,z01.mono fun k _ hk=>hs k hk,z02.mono fun k _ hk=>hs k hk,z10.mono fun k _ hk=>hs k hk,o1.mono fun k _ hk=>hs k hk,z12.mono fun k _ hk=>hs k hk,z20.mono fun k _ hk=>hs k hk,z21.mono fun k _ hk=>hs k hk,o2.mono fun k _ hk=>hs k hk⟩⟩⟩)
 ·refine I5 (p:=¬ (if (smallM a).det = 0 then (60 : Int) else 0) = 0) ⟨a8,hS,b7⟩ (by kernel_rfl) (by kernel_rfl) (by kernel_rfl) (fun h=>h (by rw [if_neg hd])) ?_
  exact q8 (map4 (η_1 9) (η_2 9) (η_3 9) (η_4 9) (η_5 9) (η_6 9) (η_7 9) (η_8 9) (η_9 9)) ⟨a8,hS,b7⟩ (by kernel_rfl) rfl (by kernel_rfl) (fun β=>(by kernel_rfl)) (fun S w hs hw hG=>have g8:=hG.1; have g7:=hG.2.2.1; have g6:=hG.2.2.2.1; have g5:=hG.2.2.2.2.1; have g4:=hG.2.2.2.2.2.1; have g3:=hG.2.2.2.2.2.2.1; have g2:=hG.2.2.2.2.2.2.2.1; have g1:=hG.2.2.2.2.2.2.2.2.1; have g0:=hG.2.2.2.2.2.2.2.2.2.1; ⟨hw,by unfold gridM; rw [if_neg hd]; exact ⟨_,_,_,_,_,_,_,_,_,rfl,⟨g0.mono fun k _ hk=>hs k hk,g1.mono fun k _ hk=>hs k hk,g2.mono fun k _ hk=>hs k hk,g3.mono fun k _ hk=>hs k hk,g4.mono fun k _ hk=>hs k hk,g5.mono fun k _ hk=>hs k hk,g6.mono fun k _ hk=>hs k hk,g7.mono fun k _ hk=>hs k hk,g8.mono fun k _ hk=>hs k hk⟩⟩⟩)
end Go.Proofs.YtpheooheinfbgaaGreatDoor
end
section
set_option linter.unusedVariables false
set_option linter.unusedSimpArgs false
namespace Go.Proofs.YtpheooheinfbgaaGreatDoor
open Go Go.RowKit
section
variable {c : Cx} {o : Out} {G : Gh}
def ixOQ (E : Env) (o : Out) : Option (Nat × Nat × Int × Nat):=match opAt o with
 | some (_,.indexAddr T x ix)=>match opd o.st.fr x,opd o.st.fr ix,kindOf E T with
  | some (.one (.ptr b 0)),some (.one (.int _ z)),.array n e=>(E.get e).map fun te=>(b,n,z,te.size)
  | _,_,_=>none
 | _=>none
theorem Y2 (b n : Nat) (i : Int) (sz : Nat) (hq : ixOQ c.E o = some (b,n,i,sz)) (hb : b < o.st.hp.length) (hc : c.Ok) (h0 : 0 ≤ i) (h1 : i < n)
  (hn : Run c (opNext o (.one (.ptr b (i.toNat * sz))) o.st.hp) G) : Run c o G:=by
 unfold ixOQ at hq
 split at hq <;> first | (cases hq; done) | skip
 rename_i d T x ix hop
 split at hq <;> first | (cases hq; done) | skip
 rename_i b' kd z n' e hx hix hk
 cases hte : c.E.get e with
 | none=>rw [hte] at hq; cases hq
 | some te=>
  rw [hte] at hq
  simp only [Option.map_some,Option.some.injEq,Prod.mk.injEq] at hq
  obtain ⟨rfl,rfl,rfl,rfl⟩:=hq
  have hkd:=C1 (t:=T) hc.env
  rw [hk] at hkd
  have hkd' : c.P.underlying T = some (.array n' e):=hkd
  obtain ⟨zz,hty,_⟩:=(hc.env.get hte).ty
  refine am4 (α:=Unit) (fun _=>.one (.ptr b' (z.toNat * te.size))) (fun _=>.nil) hop (fun β S w F ty hkn hM hup hS hw hG=>⟨(),w,.refl,hb,trivial,?_,rfl⟩) hc fun _=>T9 (fun S w _ h=>h.2) hn
  have g1 : ev F x = .pointer (some ⟨β b',0,none⟩):=(hkn x (by simp [Op.operands]) _ hx).1
  have g2:=(hkn ix (by simp [Op.operands]) _ hix).1
  intro d pos aft g
  simp [execOp,g1,g2,SV.den,Ch.den,Instr.indexAt,asIntOf,run_underlying hkd',Instr.sureAddr,h0,h1,hty.runSize w,P5]
def ldOQ (E : Env) (o : Out) : Option (Nat × Nat):=match opAt o with
 | some (_,.load T x)=>match opd o.st.fr x with
  | some (.one (.ptr b k))=>(E.get T).bind fun te=>bif Nat.beq te.size 1 && !te.agg then some (b,k) else none
  | _=>none
 | _=>none
theorem av5 (b k : Nat) (T : TypeId) (l : List Ch) (y : Ch) (hq : ldOQ c.E o = some (b,k)) (hb : nth o.st.hp b = some (.blk T l)) (hc : c.Ok) (hy : ∀ β,(cellsL β l)[k]? = some (y.den β)) (hy1 : y.Ok o.st.hp.length)
  (hn : Run c (opNext o (.one y) o.st.hp) G) : Run c o G:=by
 unfold ldOQ at hq
 split at hq <;> first | (cases hq; done) | skip
 rename_i d T' x hop
 split at hq <;> first | (cases hq; done) | skip
 rename_i b' k' hx
 cases hte : c.E.get T' with
 | none=>rw [hte] at hq; cases hq
 | some te=>
  rw [hte] at hq
  simp only [Option.bind_some] at hq
  cases hs : (Nat.beq te.size 1 && !te.agg) with
  | false=>rw [hs] at hq; cases hq
  | true=>
   rw [hs] at hq
   simp only [cond_true,Option.some.injEq,Prod.mk.injEq] at hq
   obtain ⟨rfl,rfl⟩:=hq
   simp only [Bool.and_eq_true] at hs
   have h1:=Nat.eq_of_beq_eq_true hs.1
   have h2 : te.agg = false:=by simpa using hs.2
   obtain ⟨z,hty,_⟩:=(hc.env.get hte).ty
   rw [h1,h2] at hty
   refine am4 (α:=Unit) (fun _=>.one y) (fun _=>.nil) hop (fun β S w F ty hkn hM hup hS hw hG=>⟨(),w,.refl,hy1,trivial,?_,rfl⟩) hc fun _=>T9 (fun S w _ h=>h.2) hn
   rw [I9] at hb
   have hB:=(hM.blk b' T l hb).1
   have g1 : ev F x = .pointer (some ⟨β b',k',none⟩):=(hkn x (by simp [Op.operands]) _ hx).1
   have hl:=M4 hty (hB.cell (hy β))
   intro d pos aft g
   simp [execOp,g1,SV.den,Instr.loadAt,Instr.sureAddr,hl]
theorem ck0 (b : Nat) (T : TypeId) (l l' : List Ch) (hb : nth o.st.hp b = some (.blk T l)) (h : ∀ β,cellsL β l = cellsL β l') (hok : ∀ c ∈ l',c.Ok o.st.hp.length)
  (hn : Run c ⟨o.cur,o.k,⟨o.st.fr,setN o.st.hp b (.blk T l')⟩,[]⟩ G) : Run c o G:=by
 refine ⟨fun β ρ w hS hw hG=>?_⟩
 have hb2:=hb
 rw [I9] at hb2
 have hB:=(hS.mem.blk b T l hb2).1
 have hS2:=hS.wr hb2 hok (Keeps.refl (S:=fun k=>k ≠ β b)) (by rw [← h β]; exact hB)
 have h1:=hn.run
 rw [O7] at h1
 refine h1 β ρ w hS2 hw (G.mono hG fun k _ hk=>⟨hk.1,fun i hi=>?_⟩)
 rw [N6 hb2] at hi
 exact hk.2 i hi
theorem ac2 {β : Nat → Nat} {a b : List Ch} : cellsL β (a ++ b) = cellsL β a ++ cellsL β b:=by
 unfold cellsL
 exact List.flatMap_append
def tabL (n : Nat) (U : Nat → Prop) : List Ch:=(List.range n).map fun k=>Ch.tp (U k)
theorem W9 {n m : Nat} {U : Nat → Prop} : ∀ c ∈ tabL n U,c.Ok m:=by
 intro c hc
 obtain ⟨k,_,rfl⟩:=List.mem_map.1 hc
 trivial
theorem R8 {n : Nat} {U : Nat → Prop} {β : Nat → Nat} : cellsL β (tabL n U) = (List.range n).map fun k=>Value.bool (tst (U k)):=by
 unfold tabL
 induction n with
 | zero=>rfl
 | succ n ih=>rw [List.range_succ,List.map_append,List.map_append,ac2,ih]; rfl
theorem cb0 {n k : Nat} {U : Nat → Prop} {β : Nat → Nat} (h : k < n) : (cellsL β (tabL n U))[k]? = some ((Ch.tp (U k)).den β):=by
 rw [R8,List.getElem?_map,List.getElem?_range h]
 rfl
theorem b20 {n k : Nat} {U : Nat → Prop} {β : Nat → Nat} (h : k < n) : (cellsL β (tabL n U)).take k ++ cellsL β [.bb true] ++ (cellsL β (tabL n U)).drop (k + 1) = cellsL β (tabL n fun j=>j = k ∨ U j):=by
 rw [R8,R8]
 refine List.ext_getElem? fun j=>?_
 have e : cellsL β [.bb true] = [Value.bool true]:=rfl
 rw [e,List.append_assoc]
 rcases Nat.lt_trichotomy j k with hj | hj | hj
 ·rw [List.getElem?_append_left (by simp; omega),List.getElem?_take,if_pos hj,List.getElem?_map,List.getElem?_map,List.getElem?_range (by omega)]
  simp only [Option.map_some]
  congr 2
  exact congrArg tst (propext ⟨fun h=>.inr h,fun h=>h.resolve_left (by omega)⟩)
 ·subst hj
  rw [List.getElem?_append_right (by simp; omega),List.getElem?_map,List.getElem?_range h]
  simp [Nat.min_eq_left (Nat.le_of_lt h),l9]
 ·by_cases hjn : j < n
  ·rw [List.getElem?_append_right (by simp; omega),List.length_take,List.length_map,List.length_range,Nat.min_eq_left (Nat.le_of_lt h)]
   rw [List.getElem?_append_right (by simp; omega)]
   simp only [List.length_cons,List.length_nil]
   rw [List.getElem?_drop,show k + 1 + (j - k - (0 + 1)) = j by omega,List.getElem?_map,List.getElem?_map,List.getElem?_range hjn]
   simp only [Option.map_some]
   congr 2
   exact congrArg tst (propext ⟨fun h=>.inr h,fun h=>h.resolve_left (by omega)⟩)
  ·rw [List.getElem?_eq_none (by simp; omega),List.getElem?_eq_none (by simp; omega)]
theorem bp8 {n : Nat} {β : Nat → Nat} : cellsL β (List.replicate n (Ch.bb false)) = cellsL β (tabL n fun _=>False):=by
 rw [R8]
 induction n with
 | zero=>rfl
 | succ n ih=>
  rw [List.range_succ,List.map_append,← ih,List.replicate_succ',ac2]
  congr 1
  simp [cellsL,Ch.cells,Ch.den,Value.cells,j6]
def stOQ (E : Env) (o : Out) : Option (Nat × Nat × Nat × List Ch):=match opAt0 o with
 | some (.store T x y)=>match opd o.st.fr x,(opd o.st.fr y).bind SV.chunks,E.get T with
  | some (.one (.ptr b k)),some new,some te=>bif Nat.beq (sizeL new) te.size then some (b,k,te.size,new) else none
  | _,_,_=>none
 | _=>none
theorem av1 (b k sz : Nat) (new : List Ch) (T : TypeId) (l l' : List Ch) (hq : stOQ c.E o = some (b,k,sz,new)) (hb : nth o.st.hp b = some (.blk T l)) (hc : c.Ok) (hk : ∀ β,k + sz ≤ (cellsL β l).length)
  (hl : ∀ β,(cellsL β l).take k ++ cellsL β new ++ (cellsL β l).drop (k + sz) = cellsL β l') (hok : ∀ ch ∈ l',ch.Ok o.st.hp.length)
  (hn : Run c (opNext0 o (setN o.st.hp b (.blk T l'))) G) : Run c o G:=by
 refine ⟨fun β ρ w hS hw hG=>?_⟩
 unfold stOQ at hq
 split at hq <;> first | (cases hq; done) | skip
 rename_i T' x y hop
 split at hq <;> first | (cases hq; done) | skip
 rename_i b' k' l2 te' hx hy hte
 cases hsz : Nat.beq (sizeL l2) te'.size with
 | false=>rw [hsz] at hq; cases hq
 | true=>
  rw [hsz] at hq
  simp only [cond_true,Option.some.injEq,Prod.mk.injEq] at hq
  obtain ⟨rfl,rfl,rfl,rfl⟩:=hq
  have hsz:=Nat.eq_of_beq_eq_true hsz
  unfold opAt0 at hop
  cases hcur : o.cur with
  | code x=>rw [hcur] at hop; cases hop
  | ex e=>rw [hcur] at hop; cases hop
  | ops all ll=>
   cases ll with
   | nil=>rw [hcur] at hop; cases hop
   | cons o1 r=>
    rw [hcur] at hop
    obtain ⟨dst,op',ty,pos,aft,g⟩:=o1
    simp only at hop
    cases g with
    | some x=>cases hop
    | none=>
     cases dst with
     | some d'=>cases hop
     | none=>
      simp only [Option.some.injEq] at hop
      subst hop
      have hkn:=hS.ops (.store T' x y)
      have g1 : ev ρ x = .pointer (some ⟨β b',k',none⟩):=((hkn x (by simp [Op.operands])) _ hx).1
      cases hyo : opd o.st.fr y with
      | none=>rw [hyo] at hy; cases hy
      | some yv=>
       rw [hyo] at hy
       simp only [Option.bind_some] at hy
       have g2:=(hkn y (by simp [Op.operands])) _ hyo
       obtain ⟨g3,g4⟩:=SV.chunks_ok (β:=β) hy g2.2
       have hlen:=G9 (β:=β) g4
       obtain ⟨z,hty,_⟩:=(hc.env.get hte).ty
       have hb2:=hb
       rw [I9] at hb2
       have hB:=(hS.mem.blk b' T l hb2).1
       have hkβ:=hk β
       have hst:=run_storeCells_at c.P (β b') k' T (cellsL β l2) 0 (cellsL β l).toArray w hB (by simp; omega) (N5 g4)
       have e10 : (cellsL β l2).length = te'.size:=by omega
       have e11 : ((cellsL β l).toArray.toList.take (k' + 0) ++ cellsL β l2 ++ (cellsL β l).toArray.toList.drop (k' + 0 + (cellsL β l2).length)).toArray = (cellsL β l').toArray:=by
        rw [← hl β,e10]
        simp
       rw [e11] at hst
       have hrun : ∀ d pos aft g,(execOp (ev ρ) ⟨d,.store T' x y,ty,pos,aft,g⟩).run c.P w = .ok .skip (w.setRow (β b') (cellsL β l').toArray):=by
        intro d pos aft g
        simp [execOp,g1,g2.1,Instr.storeAt,Instr.sureAddr,storeVar,hty.runSize w,g3,e10,hst]
       have k1 : Wrt (β b') w (w.setRow (β b') (cellsL β l').toArray):=⟨rfl,rfl,rfl,by simp [World.setRow],fun i _ hi=>setRow_other w _ i _ hi⟩
       have hB2 : Blk (w.setRow (β b') (cellsL β l').toArray) (β b') T (cellsL β l'):=setRow_heap w _ _ _ T (0,0) hB
       have hS2:=hS.wr hb2 hok k1 hB2
       have hmb : mineAt β o.st.hp b' (β b'):=⟨_,hb2,rfl⟩
       refine R5 rfl ?_
       unfold Stp
       rw [hrun]
       have h1:=hn.run
       unfold opNext0 at h1
       rw [hcur,O7] at h1
       refine h1 β _ _ hS2 ?_ ?_
       ·exact Keeps.behind hw k1 fun i hi hk e=>by
         subst e
         rcases (hS.mem.low b' _ hmb).1 with h6 | h6
         ·have h7 : c.w0.heap.size ≤ β b':=h6
          omega
         ·exact h6 hk
       ·refine G.mono (G.keep hG (k1.mono fun k hk e=>hk.2 b' (e ▸ hmb))) fun k _ hk=>⟨hk.1,fun i hi=>?_⟩
        rw [N6 hb2] at hi
        exact hk.2 i hi
end
end Go.Proofs.YtpheooheinfbgaaGreatDoor
end
section
set_option linter.unusedVariables false
set_option linter.unusedSimpArgs false
namespace Go.Proofs.YtpheooheinfbgaaGreatDoor
open Go Go.RowKit
theorem ao9 {t : Nat} (h : t < 11) : small5 (t : Int) = (t : Int) - 5:=by
 unfold small5
 simp only [IntKind.wrap,IntKind.signed,IntKind.bits]
 simp
 omega
def conPar (t : Nat) (s r : Rat) : Prop:=(t ≠ 10 ∧ s = (((t : Int) - 5 : Int) : Rat) ∧ r = 1) ∨ (t = 10 ∧ s = 1 ∧ r = 0)
theorem ak7 {t : Nat} (h : t < 11) : ∃ s r,onT (t : Int) = conP s r ∧ conPar t s r:=by
 by_cases e : t = 10
 ·subst e
  refine ⟨1,0,?_,.inr ⟨rfl,rfl,rfl⟩⟩
  unfold onT
  rw [ao9 (by decide),if_pos (by decide)]
  ext <;> simp only [conP] <;> grind
 ·refine ⟨(((t : Int) - 5 : Int) : Rat),1,?_,.inl ⟨e,rfl,rfl⟩⟩
  unfold onT
  rw [ao9 h,if_neg (by omega)]
  simp only [conP,Rat.intCast_mul]
  ext <;> simp only <;> grind
theorem J8 {t t' : Nat} {s r s' r' : Rat} (h : conPar t s r) (h' : conPar t' s' r') (hne : t ≠ t') : r * s' - s * r' ≠ 0:=by
 rcases h with ⟨h1,rfl,rfl⟩ | ⟨rfl,rfl,rfl⟩
 ·rcases h' with ⟨h2,rfl,rfl⟩ | ⟨rfl,rfl,rfl⟩
  ·intro e
   have e2 : (((t : Int) - 5 : Int) : Rat) = (((t' : Int) - 5 : Int) : Rat):=by grind
   have e3:=Rat.intCast_inj.1 e2
   omega
  ·intro e
   grind
 ·rcases h' with ⟨h2,rfl,rfl⟩ | ⟨rfl,rfl,rfl⟩
  ·intro e
   grind
  ·exact absurd rfl hne
theorem b94 {t0 t1 t2 t3 t4 t5 : Nat} (b0 : t0 < 11) (b1 : t1 < 11) (b2 : t2 < 11) (b3 : t3 < 11) (b4 : t4 < 11) (b5 : t5 < 11) (d01 : t0 ≠ t1) (d02 : t0 ≠ t2) (d03 : t0 ≠ t3) (d04 : t0 ≠ t4) (d05 : t0 ≠ t5) (d12 : t1 ≠ t2) (d13 : t1 ≠ t3) (d14 : t1 ≠ t4) (d15 : t1 ≠ t5) (d23 : t2 ≠ t3) (d24 : t2 ≠ t4) (d25 : t2 ≠ t5) (d34 : t3 ≠ t4) (d35 : t3 ≠ t5) (d45 : t4 ≠ t5) : (Six6.mk (onT (t0 : Int)) (onT (t1 : Int)) (onT (t2 : Int)) (onT (t3 : Int)) (onT (t4 : Int)) (onT (t5 : Int))).Ok:=by
 obtain ⟨s0,r0,e0,p0⟩:=ak7 b0
 obtain ⟨s1,r1,e1,p1⟩:=ak7 b1
 obtain ⟨s2,r2,e2,p2⟩:=ak7 b2
 obtain ⟨s3,r3,e3,p3⟩:=ak7 b3
 obtain ⟨s4,r4,e4,p4⟩:=ak7 b4
 obtain ⟨s5,r5,e5,p5⟩:=ak7 b5
 rw [e0,e1,e2,e3,e4,e5]
 exact ch5 (J8 p0 p1 d01) (J8 p0 p2 d02) (J8 p0 p3 d03) (J8 p0 p4 d04) (J8 p0 p5 d05) (J8 p1 p2 d12) (J8 p1 p3 d13) (J8 p1 p4 d14) (J8 p1 p5 d15) (J8 p2 p3 d23) (J8 p2 p4 d24) (J8 p2 p5 d25) (J8 p3 p4 d34) (J8 p3 p5 d35) (J8 p4 p5 d45)
theorem J9 {t t' : Nat} (h : t ≠ t') : (((t : Int) + 1 : Int) : Rat) ≠ (((t' : Int) + 1 : Int) : Rat):=fun e=>h (by have:=Rat.intCast_inj.1 e; omega)
theorem aa8 (t : Nat) : (((t : Int) + 1 : Int) : Rat) ≠ 0:=fun e=>by
 have:=Rat.intCast_inj.1 (show (((t : Int) + 1 : Int) : Rat) = ((0 : Int) : Rat) from e)
 omega
theorem cd8 {t0 t1 t2 t3 t4 t5 : Nat} (d01 : t0 ≠ t1) (d02 : t0 ≠ t2) (d03 : t0 ≠ t3) (d04 : t0 ≠ t4) (d05 : t0 ≠ t5) (d12 : t1 ≠ t2) (d13 : t1 ≠ t3) (d14 : t1 ≠ t4) (d15 : t1 ≠ t5) (d23 : t2 ≠ t3) (d24 : t2 ≠ t4) (d25 : t2 ≠ t5) (d34 : t3 ≠ t4) (d35 : t3 ≠ t5) (d45 : t4 ≠ t5) : (papS (((t0 : Int) + 1 : Int) : Rat) (((t1 : Int) + 1 : Int) : Rat) (((t2 : Int) + 1 : Int) : Rat) (((t3 : Int) + 1 : Int) : Rat) (((t4 : Int) + 1 : Int) : Rat) (((t5 : Int) + 1 : Int) : Rat)).Ok:=
 cl5 (aa8 t0) (aa8 t1) (aa8 t2) (aa8 t3) (aa8 t4) (aa8 t5) (J9 d01) (J9 d02) (J9 d03) (J9 d04) (J9 d05) (J9 d12) (J9 d13) (J9 d14) (J9 d15) (J9 d23) (J9 d24) (J9 d25) (J9 d34) (J9 d35) (J9 d45)
set_option maxRecDepth 100000 in
theorem bj5 {S : Nat → Prop} {w : World} {vp : Value} {p : T3} (hS : Up S w) (hp : TripV S w vp p) (h0 : ¬ p.None) :
  Gives Tryz.prog 16 [vp] w fun v' w'=>v' = .bool false ∧ Ext w w':=by
 obtain ⟨a,b,c,rfl,ha,hb,hc⟩:=hp
 refine o8 (E:=env) (S0:=S) (G:=((ratG a p.x).and ((ratG b p.y).and (ratG c p.z)))) (l:=[.agg [.ag 3 a,.ag 3 b,.ag 3 c]]) Tryz.func16 rfl rfl rfl ⟨G7 ⟨ha.okc,hb.okc,hc.okc,trivial⟩,trivial⟩ rfl ⟨ha,hb,hc⟩ ?_
 refine s_K (.one (.int .i64 p.x.num.sign)) ⟨a8,hS,b7⟩ (by kernel_rfl) (by kernel_rfl) (j9 rfl) rfl (fun β S w hS hs hw hG=>have ha:=hG.1; ⟨_,(by kernel_rfl),af9 ha⟩) ?_
 refine ad5 (p:=p.x.num.sign = 0) 7 ⟨a8,hS,b7⟩ (by kernel_rfl) (by kernel_rfl) (fun h1=>?_) (fun h1=>?_)
 ·refine s_K (.one (.int .i64 p.y.num.sign)) ⟨a8,hS,b7⟩ (by kernel_rfl) (by kernel_rfl) (j9 rfl) rfl (fun β S w hS hs hw hG=>have hb:=hG.2.1; ⟨_,(by kernel_rfl),af9 hb⟩) ?_
  refine ad5 (p:=p.y.num.sign = 0) 13 ⟨a8,hS,b7⟩ (by kernel_rfl) (by kernel_rfl) (fun h2=>?_) (fun h2=>?_)
  ·refine s_K (.one (.int .i64 p.z.num.sign)) ⟨a8,hS,b7⟩ (by kernel_rfl) (by kernel_rfl) (j9 rfl) rfl (fun β S w hS hs hw hG=>have hc:=hG.2.2; ⟨_,(by kernel_rfl),af9 hc⟩) ?_
   exact q8 (.bool (tst (p.z.num.sign = 0))) ⟨a8,hS,b7⟩ (by kernel_rfl) rfl (by kernel_rfl) (fun β=>(by kernel_rfl)) (fun S w hs hw hG=>⟨by rw [j6 fun h3=>h0 ⟨W6.1 h1,W6.1 h2,W6.1 h3⟩],hw⟩)
  ·exact q8 (.bool false) ⟨a8,hS,b7⟩ (by kernel_rfl) rfl (by kernel_rfl) (fun β=>(by kernel_rfl)) (fun S w hs hw hG=>⟨rfl,hw⟩)
 ·exact q8 (.bool false) ⟨a8,hS,b7⟩ (by kernel_rfl) rfl (by kernel_rfl) (fun β=>(by kernel_rfl)) (fun S w hs hw hG=>⟨rfl,hw⟩)
end Go.Proofs.YtpheooheinfbgaaGreatDoor
end
section
set_option linter.unusedVariables false
set_option linter.unusedSimpArgs false
namespace Go.Proofs.YtpheooheinfbgaaGreatDoor
open Go Go.RowKit
def si (p : T3) (B : Nat) : Prop:=∃ a b c : Int,p = ⟨(a : Rat),(b : Rat),(c : Rat)⟩ ∧ a.natAbs ≤ B ∧ b.natAbs ≤ B ∧ c.natAbs ≤ B
def sm (p : T3) (B : Nat) : Prop:=∃ (k : Rat) (a b c : Int),k ≠ 0 ∧ p = ⟨k * a,k * b,k * c⟩ ∧ a.natAbs ≤ B ∧ b.natAbs ≤ B ∧ c.natAbs ≤ B
theorem si.sm {p : T3} {B : Nat} (h : si p B) : sm p B:=by
 obtain ⟨a,b,c,rfl,h1,h2,h3⟩:=h
 exact ⟨1,a,b,c,by decide,by ext <;> simp only <;> grind,h1,h2,h3⟩
theorem si.tl {p : T3} {B : Nat} (h : si p B) (hB : B < 1000000000) : tl p 1:=by
 obtain ⟨a,b,c,rfl,h1,h2,h3⟩:=h
 exact ⟨ak3 (by omega),ak3 (by omega),ak3 (by omega)⟩
theorem Z0 {a b : Int} {B C : Nat} (h : a.natAbs ≤ B) (k : b.natAbs ≤ C) : (a * b).natAbs ≤ B * C:=by rw [Int.natAbs_mul]; exact Nat.mul_le_mul h k
theorem by3 {p q : T3} {B C : Nat} (hp : sm p B) (hq : sm q C) : sm (p.cross q) (2 * (B * C)):=by
 obtain ⟨k,a,b,c,h1,h2,h3,h4,h5⟩:=hp
 obtain ⟨k',a',b',c',h1',h2',h3',h4',h5'⟩:=hq
 have e : ∀ {x y z u : Int},x.natAbs ≤ B → y.natAbs ≤ C → z.natAbs ≤ B → u.natAbs ≤ C → (x * y - z * u).natAbs ≤ 2 * (B * C):=fun g1 g2 g3 g4=>by
  have q1:=Z0 g1 g2
  have q2:=Z0 g3 g4
  omega
 refine ⟨k * k',b * c' - c * b',c * a' - a * c',a * b' - b * a',by grind,?_,e h4 h5' h5 h4',e h5 h3' h3 h5',e h3 h4' h4 h3'⟩
 rw [h2,h2']
 ext <;> simp only [T3.cross,Rat.intCast_sub,Rat.intCast_mul] <;> grind
theorem co4 {p : T3} {B : Nat} (h : sm p B) (hB : B < 1000000000) : il p 1:=by
 obtain ⟨k,a,b,c,h1,h2,h3,h4,h5⟩:=h
 have e : ∀ {z : Int},z.natAbs ≤ B → zl z ≤ 1:=fun h=>F8 (k:=1) (by show Int.natAbs _ < _; omega)
 exact ⟨k,a,b,c,h1,h2,e h3,e h4,e h5⟩
theorem bm1 {p : T3} {B : Nat} (h : sm p B) (hn : ¬ p.None) : sm p.normal B:=by
 obtain ⟨k,a,b,c,h1,h2,h3,h4,h5⟩:=h
 have hl:=T3.lead_ne hn
 have ex : p.x = k * a:=congrArg T3.x h2
 have ey : p.y = k * b:=congrArg T3.y h2
 have ez : p.z = k * c:=congrArg T3.z h2
 refine ⟨k / p.lead,a,b,c,by grind,?_,h3,h4,h5⟩
 ext <;> simp only [T3.normal,T3.over,ex,ey,ez] <;> grind
theorem cc6 {p : T3} {B : Nat} (h : sm p B) (hB : B < 1000000000) : tl p.normal 1:=ab5 (co4 h hB) (Nat.le_refl _)
theorem bh3 {p q : T3} {B C : Nat} (hp : si p B) (hq : si q C) : ∃ z : Int,p.dot q = (z : Rat) ∧ z.natAbs ≤ 3 * (B * C):=by
 obtain ⟨a,b,c,rfl,h3,h4,h5⟩:=hp
 obtain ⟨a',b',c',rfl,h3',h4',h5'⟩:=hq
 have q1:=Z0 h3 h3'
 have q2:=Z0 h4 h4'
 have q3:=Z0 h5 h5'
 exact ⟨a * a' + b * b' + c * c',by simp only [T3.dot,Rat.intCast_add,Rat.intCast_mul],by omega⟩
def mi (m : M3) (B : Nat) : Prop:=si m.a B ∧ si m.b B ∧ si m.c B
theorem V7 {m : M3} {p : T3} {B C : Nat} (hm : mi m B) (hp : si p C) : si (m.apply p) (3 * (B * C)):=by
 obtain ⟨x,ex,hx⟩:=bh3 hm.1 hp
 obtain ⟨y,ey,hy⟩:=bh3 hm.2.1 hp
 obtain ⟨z,ez,hz⟩:=bh3 hm.2.2 hp
 exact ⟨x,y,z,by unfold M3.apply; rw [ex,ey,ez],hx,hy,hz⟩
theorem ax2 (a : Nat → Int) : mi (gridM a) 3:=by
 have h : ∀ i,(small3 (a i)).natAbs ≤ 3:=fun i=>by have:=as6 (a i); omega
 unfold gridM
 split
 ·exact ⟨⟨1,0,0,rfl,by decide,by decide,by decide⟩,⟨0,1,0,rfl,by decide,by decide,by decide⟩,⟨0,0,1,rfl,by decide,by decide,by decide⟩⟩
 ·exact ⟨⟨_,_,_,rfl,h 0,h 1,h 2⟩,⟨_,_,_,rfl,h 3,h 4,h 5⟩,⟨_,_,_,rfl,h 6,h 7,h 8⟩⟩
theorem Y1 (n : Int) : si (onT n) 25:=by
 have hb:=H6 n
 have hq : (small5 n * small5 n).natAbs ≤ 25:=by
  rw [Int.natAbs_mul]
  exact Nat.mul_le_mul (show _ ≤ 5 by omega) (show _ ≤ 5 by omega)
 unfold onT
 split
 ·exact ⟨0,0,1,rfl,by decide,by decide,by decide⟩
 ·exact ⟨small5 n,1,small5 n * small5 n,rfl,by omega,by decide,hq⟩
theorem cg8 {p : T3} {B : Nat} (h : si p B) (hB : B < 1000000000) (hn : ¬ p.None) : badE p = 0:=Q5 (h.tl hB) (by decide) hn
theorem cr2 {k : Int} {B : Nat} (h : k.natAbs ≤ B) (hB : 1 ≤ B) : si (xP (k : Rat)) B:=⟨k,0,1,rfl,h,by simp,by simpa using hB⟩
theorem cr0 {k : Int} {B : Nat} (h : k.natAbs ≤ B) (hB : 1 ≤ B) : si (yP (k : Rat)) B:=⟨0,k,1,rfl,by simp,h,by simpa using hB⟩
def eP (i : Nat) : T3:=match i with | 0=>⟨1,0,0⟩ | 1=>⟨0,1,0⟩ | _=>⟨0,0,1⟩
def vP (i : Nat) (x : Rat) : T3:=match i with | 0=>⟨x,1,1⟩ | 1=>⟨1,x,1⟩ | _=>⟨1,1,x⟩
theorem Y3 (i : Nat) : si (eP i) 1:=by
 match i with
 | 0=>exact ⟨1,0,0,rfl,by decide,by decide,by decide⟩
 | 1=>exact ⟨0,1,0,rfl,by decide,by decide,by decide⟩
 | n + 2=>exact ⟨0,0,1,rfl,by decide,by decide,by decide⟩
theorem ac8 (i : Nat) {x : Int} {B : Nat} (h : x.natAbs ≤ B) (hB : 1 ≤ B) : si (vP i (x : Rat)) B:=by
 match i with
 | 0=>exact ⟨x,1,1,rfl,h,by simpa using hB,by simpa using hB⟩
 | 1=>exact ⟨1,x,1,rfl,by simpa using hB,h,by simpa using hB⟩
 | n + 2=>exact ⟨1,1,x,rfl,by simpa using hB,by simpa using hB,h⟩
structure DesOk (m : M3) (e1 e2 v1 v2 : T3) : Prop where
 s : joinE (m.apply e1) (m.apply e2) = 0
 t : joinE (m.apply v1) (m.apply v2) = 0
 w : joinE (joinT (m.apply e1) (m.apply e2)) (joinT (m.apply v1) (m.apply v2)) = 0
 like : T3.Like (joinT (joinT (m.apply e1) (m.apply e2)) (joinT (m.apply v1) (m.apply v2))) (m.apply ((e1.cross e2).cross (v1.cross v2)))
 ts : tl (joinT (m.apply e1) (m.apply e2)) 1
 tt : tl (joinT (m.apply v1) (m.apply v2)) 1
 tw : tl (joinT (joinT (m.apply e1) (m.apply e2)) (joinT (m.apply v1) (m.apply v2))) 1
 ns : tl ((m.apply e1).cross (m.apply e2)).normal 1
 nt : tl ((m.apply v1).cross (m.apply v2)).normal 1
 nw : tl ((joinT (m.apply e1) (m.apply e2)).cross (joinT (m.apply v1) (m.apply v2))).normal 1
 bw : badE (joinT (joinT (m.apply e1) (m.apply e2)) (joinT (m.apply v1) (m.apply v2))) = 0
theorem az1 {p q : T3} {B C : Nat} (hp : sm p B) (hq : sm q C) (tp : tl p 1) (tq : tl q 1) (hs : ¬ T3.Same p q) (hB : 2 * (B * C) < 1000000000) :
  joinE p q = 0 ∧ joinT p q = (p.cross q).normal ∧ tl (joinT p q) 1 ∧ sm (joinT p q) (2 * (B * C)) ∧ T3.Like (joinT p q) (p.cross q) ∧ ¬ (joinT p q).None:=by
 have np : ¬ p.None:=fun h=>hs (by obtain ⟨h1,h2,h3⟩:=h; refine ⟨?_,?_,?_⟩ <;> simp only [T3.cross,h1,h2,h3] <;> grind)
 have nq : ¬ q.None:=fun h=>hs (by obtain ⟨h1,h2,h3⟩:=h; refine ⟨?_,?_,?_⟩ <;> simp only [T3.cross,h1,h2,h3] <;> grind)
 have b1:=Q5 tp (by decide) np
 have b2:=Q5 tq (by decide) nq
 have e1 : joinE p q = 0:=by
  unfold joinE
  have hb : bad2 p q = 0:=by unfold bad2; rw [if_pos b1]; exact b2
  rw [if_pos hb,if_neg hs]
 have e2 : joinT p q = (p.cross q).normal:=by unfold joinT; rw [if_pos e1]
 have hn : ¬ (p.cross q).None:=hs
 have hx:=by3 hp hq
 refine ⟨e1,e2,e2 ▸ cc6 hx hB,e2 ▸ bm1 hx hn,e2 ▸ T3.like_normal hn,?_⟩
 rw [e2]
 exact fun h=>hn (T3.normal_none.1 h)
theorem ay1 {m : M3} (hd : m.det ≠ 0) (hm : mi m 3) {e1 e2 v1 v2 : T3} (s1 : si e1 1) (s2 : si e2 1) (s3 : si v1 20) (s4 : si v2 20) (he : ¬ T3.Same e1 e2) (hv : ¬ T3.Same v1 v2) (hw : ¬ T3.Same (e1.cross e2) (v1.cross v2)) : DesOk m e1 e2 v1 v2:=by
 have k1:=V7 hm s1
 have k2:=V7 hm s2
 have k3:=V7 hm s3
 have k4:=V7 hm s4
 obtain ⟨a1,a2,a3,a4,a5,a6⟩:=az1 k1.sm k2.sm (k1.tl (by decide)) (k2.tl (by decide)) (fun h=>he ((M3.same_apply hd).1 h)) (by decide)
 obtain ⟨b1,b2,b3,b4,b5,b6⟩:=az1 k3.sm k4.sm (k3.tl (by decide)) (k4.tl (by decide)) (fun h=>hv ((M3.same_apply hd).1 h)) (by decide)
 have l1 : T3.Like (joinT (m.apply e1) (m.apply e2)) (m.cof.apply (e1.cross e2)):=by rw [← M3.cross_apply]; exact a5
 have l2 : T3.Like (joinT (m.apply v1) (m.apply v2)) (m.cof.apply (v1.cross v2)):=by rw [← M3.cross_apply]; exact b5
 obtain ⟨c1,c2,c3,c4,c5,c6⟩:=az1 a4 b4 a3 b3 (fun h=>hw ((M3.same_cof hd).1 ((T3.Like.same l1 l2).1 h))) (by decide)
 exact ⟨a1,b1,c1,(c5.trans (l1.cross l2)).trans (M3.meet_like hd _ _),a3,b3,c3,a2 ▸ a3,b2 ▸ b3,c2 ▸ c3,Q5 c3 (by decide) c6⟩
theorem bq8 {m : M3} (hd : m.det ≠ 0) (hm : mi m 3) {x y z : Int} (hx : 2 ≤ x ∧ x ≤ 20) (hy : 2 ≤ y ∧ y ≤ 20) (hz : 2 ≤ z ∧ z ≤ 20) :
  DesOk m (eP 0) (eP 1) (vP 0 x) (vP 1 y) ∧ DesOk m (eP 1) (eP 2) (vP 1 y) (vP 2 z) ∧ DesOk m (eP 2) (eP 0) (vP 2 z) (vP 0 x):=by
 have ne : ∀ {u : Int},2 ≤ u → (u : Rat) ≠ 1:=fun {u} h e=>by
  have:=Rat.intCast_inj.1 (show (u : Rat) = ((1 : Int) : Rat) from e)
  omega
 have nx:=ne hx.1
 have ny:=ne hy.1
 have nz:=ne hz.1
 have sx:=ac8 0 (x:=x) (B:=20) (by omega) (by decide)
 have sy:=ac8 1 (x:=y) (B:=20) (by omega) (by decide)
 have sz:=ac8 2 (x:=z) (B:=20) (by omega) (by decide)
 generalize (x : Rat) = X at *
 generalize (y : Rat) = Y at *
 generalize (z : Rat) = Z at *
 refine ⟨ay1 hd hm (Y3 0) (Y3 1) sx sy ?_ ?_ ?_,ay1 hd hm (Y3 1) (Y3 2) sy sz ?_ ?_ ?_,ay1 hd hm (Y3 2) (Y3 0) sz sx ?_ ?_ ?_⟩ <;> rintro ⟨h1,h2,h3⟩ <;> simp only [T3.cross,eP,vP] at h1 h2 h3 <;> grind
theorem b09 (x y z : Rat) : T3.Flat (((eP 0).cross (eP 1)).cross ((vP 0 x).cross (vP 1 y))) (((eP 1).cross (eP 2)).cross ((vP 1 y).cross (vP 2 z))) (((eP 2).cross (eP 0)).cross ((vP 2 z).cross (vP 0 x))):=by
 simp only [T3.Flat,T3.dot,T3.cross,eP,vP]
 grind
theorem M8 {v : Value} {t : T3} {S : Nat → Prop} {w : World} (h : (ttryG v t 0).p S w) : (pr (.ag 9 (tupAt v)) (.lit .i64 0)).Ok 0 ∧ (pr (.ag 9 (tupAt v)) (.lit .i64 0)).den (fun _=>0) = v:=⟨a69 h.2.ok trivial,h.1.symm⟩
noncomputable def onS (m : Nat → Int) (t0 t1 t2 t3 t4 t5 : Nat) : Six6:=⟨(gridM m).apply (onT (t0 : Int)),(gridM m).apply (onT (t1 : Int)),(gridM m).apply (onT (t2 : Int)),(gridM m).apply (onT (t3 : Int)),(gridM m).apply (onT (t4 : Int)),(gridM m).apply (onT (t5 : Int))⟩
noncomputable def xT (t : Nat) : T3:=xP (((t : Int) + 1 : Int) : Rat)
noncomputable def yT (t : Nat) : T3:=yP (((t : Int) + 1 : Int) : Rat)
noncomputable def xyS (m : Nat → Int) (t0 t1 t2 t3 t4 t5 : Nat) : Six6:=⟨(gridM m).apply (xT t0),(gridM m).apply (yT t1),(gridM m).apply (xT t2),(gridM m).apply (yT t3),(gridM m).apply (xT t4),(gridM m).apply (yT t5)⟩
theorem ag8 {t : Nat} (h : t < 11) : si (xT t) 11:=cr2 (by omega) (by decide)
theorem ae7 {t : Nat} (h : t < 11) : si (yT t) 11:=cr0 (by omega) (by decide)
theorem A7 {m : Nat → Int} {p : T3} {B : Nat} (h : si p B) (hB : 3 * (3 * B) < 1000000000) : tl ((gridM m).apply p) 1:=(V7 (ax2 m) h).tl hB
theorem cf3 {S : Nat → Prop} {w : World} : ElsV true 9 triF S w [] []:=⟨rfl,fun x hx=>by simp at hx,fun i a x h=>by simp at h⟩
theorem af7 {S : Nat → Prop} {w : World} {a : Value} {p : T3} {vs : List Value} {l : List T3} (h : TripV S w a p) (k : ElsV true 9 triF S w vs l) : ElsV true 9 triF S w (a :: vs) (p :: l):=by
 refine ⟨by simp [k.len],fun x hx=>?_,fun i t x h1 h2=>?_⟩
 ·rcases List.mem_cons.1 hx with rfl | hx
  ·exact h.lies
  ·exact k.lies x hx
 ·cases i with
  | zero=>simp at h1 h2; subst h1 h2; exact h
  | succ i=>exact k.el i t x (by simpa using h1) (by simpa using h2)
theorem by2 {S : Nat → Prop} {w : World} {a0 a1 a2 a3 a4 a5 : Value} {s : Six6} (h0 : TripV S w a0 s.p0) (h1 : TripV S w a1 s.p1) (h2 : TripV S w a2 s.p2) (h3 : TripV S w a3 s.p3) (h4 : TripV S w a4 s.p4) (h5 : TripV S w a5 s.p5) :
  HexV S w ((SV.agg [.ag 9 a0,.ag 9 a1,.ag 9 a2,.ag 9 a3,.ag 9 a4,.ag 9 a5]).den fun _=>0) s:=by
 refine ⟨ar8 (l:=[.ag 9 a0,.ag 9 a1,.ag 9 a2,.ag 9 a3,.ag 9 a4,.ag 9 a5]) (G7 (m:=0) ⟨h0.ok,h1.ok,h2.ok,h3.ok,h4.ok,h5.ok,trivial⟩) rfl,[a0,a1,a2,a3,a4,a5],?_,af7 h0 (af7 h1 (af7 h2 (af7 h3 (af7 h4 (af7 h5 cf3)))))⟩
 simp only [SV.den,Value.cells]
 exact ai9 (n:=9) (vs:=[a0,a1,a2,a3,a4,a5])
theorem aw4 (n : Int) : ¬ (onT n).None:=by
 unfold onT
 split
 ·rintro ⟨_,_,h⟩; exact absurd h (by decide)
 ·rintro ⟨_,h,_⟩; exact absurd h (show ¬ ((1 : Rat) = 0) by decide)
theorem b28 (t : Nat) : ¬ (xT t).None:=fun ⟨_,_,h⟩=>absurd h (show ¬ ((1 : Rat) = 0) by decide)
theorem b55 (t : Nat) : ¬ (yT t).None:=fun ⟨_,_,h⟩=>absurd h (show ¬ ((1 : Rat) = 0) by decide)
structure SixFit (s : Six6) : Prop where
 ok : s.Ok
 few : s.Few 1
 bad : ∀ t ∈ s.list,badE t = 0
theorem bx8 {m : Nat → Int} {q0 q1 q2 q3 q4 q5 : T3} {B : Nat} (hB : 3 * (3 * B) < 1000000000) (h0 : si q0 B) (h1 : si q1 B) (h2 : si q2 B) (h3 : si q3 B) (h4 : si q4 B) (h5 : si q5 B) (n0 : ¬ q0.None) (n1 : ¬ q1.None) (n2 : ¬ q2.None) (n3 : ¬ q3.None) (n4 : ¬ q4.None) (n5 : ¬ q5.None) (k : (Six6.mk q0 q1 q2 q3 q4 q5).Ok) : SixFit ((Six6.mk q0 q1 q2 q3 q4 q5).map (gridM m)):=by
 have hd:=ar6 m
 have b : ∀ {q : T3},si q B → ¬ q.None → badE ((gridM m).apply q) = 0:=fun h n=>cg8 (V7 (ax2 m) h) hB fun e=>n ((M3.apply_none hd).1 e)
 refine ⟨k.map hd,⟨A7 h0 hB,A7 h1 hB,A7 h2 hB,A7 h3 hB,A7 h4 hB,A7 h5 hB⟩,fun t ht=>?_⟩
 simp only [Six6.list,Six6.map,List.mem_cons,List.not_mem_nil,or_false] at ht
 rcases ht with rfl | rfl | rfl | rfl | rfl | rfl
 ·exact b h0 n0
 ·exact b h1 n1
 ·exact b h2 n2
 ·exact b h3 n3
 ·exact b h4 n4
 ·exact b h5 n5
theorem b04 {m : Nat → Int} {t0 t1 t2 t3 t4 t5 : Nat} (b0 : t0 < 11) (b1 : t1 < 11) (b2 : t2 < 11) (b3 : t3 < 11) (b4 : t4 < 11) (b5 : t5 < 11) (u1 : ¬ t1 ∈ [t0]) (u2 : ¬ t2 ∈ [t1,t0]) (u3 : ¬ t3 ∈ [t2,t1,t0]) (u4 : ¬ t4 ∈ [t3,t2,t1,t0]) (u5 : ¬ t5 ∈ [t4,t3,t2,t1,t0]) :
  SixFit (onS m t0 t1 t2 t3 t4 t5) ∧ SixFit (xyS m t0 t1 t2 t3 t4 t5):=by
 simp only [List.mem_cons,List.not_mem_nil,or_false,not_or] at u1 u2 u3 u4 u5
 refine ⟨bx8 (B:=25) (by decide) (Y1 _) (Y1 _) (Y1 _) (Y1 _) (Y1 _) (Y1 _) (aw4 _) (aw4 _) (aw4 _) (aw4 _) (aw4 _) (aw4 _) (b94 b0 b1 b2 b3 b4 b5 ?_ ?_ ?_ ?_ ?_ ?_ ?_ ?_ ?_ ?_ ?_ ?_ ?_ ?_ ?_),
  bx8 (B:=11) (by decide) (ag8 b0) (ae7 b1) (ag8 b2) (ae7 b3) (ag8 b4) (ae7 b5) (b28 _) (b55 _) (b28 _) (b55 _) (b28 _) (b55 _) (cd8 ?_ ?_ ?_ ?_ ?_ ?_ ?_ ?_ ?_ ?_ ?_ ?_ ?_ ?_ ?_)⟩ <;> omega
theorem ce6 {a b c : T3} (h : T3.Flat a b c) : ¬ GenQ [a,b,c]:=by
 rintro ⟨_,h2⟩
 have h3 : ¬ T3.Flat c b a:=h2 2 1 0 (by decide) (by decide) (by show 2 < 3; decide)
 refine h3 ?_
 simp only [T3.Flat,T3.dot,T3.cross] at h ⊢
 grind
theorem cu1 {a b c : T3} {P : T3 → Prop} (h1 : P a) (h2 : P b) (h3 : P c) : ∀ t ∈ [a,b,c],P t:=by
 intro t ht
 simp only [List.mem_cons,List.not_mem_nil,or_false] at ht
 rcases ht with rfl | rfl | rfl
 ·exact h1
 ·exact h2
 ·exact h3
theorem cj0 {a b c : T3} (h1 : badE a = 0) (h2 : badE b = 0) (h3 : badE c = 0) : checkT [a,b,c] = 0:=by
 simp only [checkT,if_pos h1,if_pos h2,if_pos h3]
theorem cq1 {a b c : T3} (h : T3.Flat a b c) (h1 : badE a = 0) (h2 : badE b = 0) (h3 : badE c = 0) :
  (if 12 < [a,b,c].length then Value.tuple #[.bool false,.int .i64 1] else Value.tuple #[.bool (tst (GenQ [a,b,c])),.int .i64 (checkT [a,b,c])]) = .tuple #[.bool false,.int .i64 0]:=by
 rw [if_neg (by simp),j6 (ce6 h),cj0 h1 h2 h3]
end Go.Proofs.YtpheooheinfbgaaGreatDoor
end
section
set_option linter.unusedVariables false
set_option linter.unusedSimpArgs false
namespace Go.Proofs.YtpheooheinfbgaaGreatDoor
open Go Go.RowKit
theorem ch1 : ∀ (N : Nat) (l : List Nat),l.length < N → ∃ t,t < N ∧ t ∉ l:=by
 intro N
 induction N with
 | zero=>intro l h; exact absurd h (Nat.not_lt_zero _)
 | succ N ih=>
  intro l h
  by_cases hN : N ∈ l
  ·have h1 : (l.filter fun x=>decide (x ≠ N)).length < l.length:=List.length_filter_lt_length_iff_exists.2 ⟨N,hN,by simp⟩
   obtain ⟨t,h2,h3⟩:=ih (l.filter fun x=>decide (x ≠ N)) (by omega)
   exact ⟨t,by omega,fun e=>h3 (List.mem_filter.2 ⟨e,by simp; omega⟩)⟩
  ·exact ⟨N,by omega,hN⟩
theorem as7 {l : List Nat} (h : l.length < 11) : ∃ t,t < 11 ∧ t ∉ l:=ch1 11 l h
noncomputable def frN (l : List Nat) (h : l.length < 11) : Nat:=(as7 h).choose
theorem ai2 {l : List Nat} (h : l.length < 11) : frN l h < 11:=(as7 h).choose_spec.1
theorem ac0 {l : List Nat} (h : l.length < 11) : frN l h ∉ l:=(as7 h).choose_spec.2
noncomputable def s5N (z : Int) : Nat:=(small5 z + 5).toNat
theorem ai6 (z : Int) : (s5N z : Int) = small5 z + 5:=by have:=H6 z; unfold s5N; omega
theorem ai1 (z : Int) : s5N z < 11:=by have:=H6 z; unfold s5N; omega
theorem E8 {l : List Nat} {n : Nat} (h : l.length = n) (k : n < 11) : l.length < 11:=by omega
def usedL (l : List Nat) : List Ch:=tabL 11 fun k=>k ∈ l
theorem b05 {β : Nat → Nat} : cellsL β (List.replicate 11 (Ch.bb false)) = cellsL β (usedL []):=by
 rw [bp8]
 unfold usedL
 congr 2
 funext k
 exact propext ⟨fun h=>h.elim,fun h=>by cases h⟩
theorem V4 {l : List Nat} {k : Nat} {β : Nat → Nat} (h : k < 11) : (cellsL β (usedL l)).take k ++ cellsL β [.bb true] ++ (cellsL β (usedL l)).drop (k + 1) = cellsL β (usedL (k :: l)):=by
 unfold usedL
 rw [b20 h]
 congr 2
 funext j
 exact propext List.mem_cons.symm
theorem aa9 {l : List Nat} {k : Nat} {β : Nat → Nat} (h : k < 11) : (cellsL β (usedL l))[k]? = some ((Ch.tp (k ∈ l)).den β):=cb0 h
theorem U9 {l : List Nat} {β : Nat → Nat} : (cellsL β (usedL l)).length = 11:=by unfold usedL; rw [R8]; simp
set_option maxRecDepth 100000 in
set_option maxHeartbeats 8000000 in
theorem a04 {w : World} {n m : Nat → Int} (ht : Tab w) :
  Gives Tryz.prog 4 [sixV n,nineV m] w fun v' w'=>v' = .bool true ∧ Ext w w':=by
 have hS : Up All w:=Up.all
 refine o8 (E:=env) (S0:=All) (G:=Gh.nil) (l:=[.agg [.int .i64 (n 0),.int .i64 (n 1),.int .i64 (n 2),.int .i64 (n 3),.int .i64 (n 4),.int .i64 (n 5)],.agg [.int .i64 (m 0),.int .i64 (m 1),.int .i64 (m 2),.int .i64 (m 3),.int .i64 (m 4),.int .i64 (m 5),.int .i64 (m 6),.int .i64 (m 7),.int .i64 (m 8)]]) Tryz.func4 rfl rfl rfl ⟨ck6,bi1,trivial⟩ rfl trivial ?_
 refine s_1 (fun x0=>.one (.ag 36 x0)) (fun x0=>qmapG x0 ((gridM m))) ⟨a8,hS,b7⟩ (by kernel_rfl) (by kernel_rfl) (fun _ _ _ h=>⟨h.ok,rfl⟩) (fun β S w hS hs hw hG=>⟨_,(by kernel_rfl),cb4 hS⟩) ?_
 intro M
 refine q7 ⟨a8,hS,b7⟩ (by kernel_rfl) (ck0 5 65 (List.replicate 11 (.bb false)) (usedL []) (by kernel_rfl) (fun β=>b05) W9  ?_)
 have B0:=H6 (n 0)
 have hT0:=ai6 (n 0)
 have hU0:=ai1 (n 0)
 have hf0:=ai2 (l:=([] : List Nat)) (E8 (n:=0) rfl (by decide))
 have hg0:=ac0 (l:=([] : List Nat)) (E8 (n:=0) rfl (by decide))
 refine A5 ⟨a8,hS,b7⟩ (by kernel_rfl) ?_
 refine s_K (.one (.int .i64 (small5 (n 0)))) ⟨a8,hS,b7⟩ (by kernel_rfl) (by kernel_rfl) (j9 rfl) rfl (fun β S w hS hs hw hG=>⟨_,(by kernel_rfl),N4 hS⟩) ?_
 refine I8 (ps:=[InR .i64 (small5 (n 0) + 5)]) ⟨a8,hS,b7⟩ (by kernel_rfl) (by simp only [AllT,InR,and_true]; omega) ?_
 refine q7 ⟨a8,hS,b7⟩ (by kernel_rfl) (P9 10 (small5 (n 0) + 5) ((s5N (n 0) : Int)) (by kernel_rfl) (hT0.symm) ?_)
 refine H2 (ι:=Nat) [(10,10),(45,50)] (fun t0=>[(10,.one (.int .i64 (t0 : Int)))]) (fun _=>[]) (fun t0=>((qmapG M ((gridM m))).and (Gh.nil))) (fun t0=>t0 < 11) (fun t0=>(frN ([] : List Nat) (E8 (n:=0) rfl (by decide)) + 11 - t0) % 11) (s5N (n 0)) ⟨a8,hS,b7⟩ (by kernel_rfl) (by kernel_rfl) (fun β=>(by kernel_rfl)) (fun β=>(by kernel_rfl)) (by kernel_rfl) (hU0) (fun S w hw hG=>⟨s9 rfl,fun p hp=>by cases hp⟩) (fun S w hw hG=>hG) (fun hso t0 ht0=>?_)
 refine q7 ⟨a8,hS,b7⟩ (by kernel_rfl) (Y2 5 11 (t0 : Int) 1 (by kernel_rfl) (Nat.le_of_ble_eq_true (by kernel_rfl)) ⟨a8,hS,b7⟩ (by omega) (by omega) (av5 5 ((t0 : Int).toNat * 1) 65 (usedL []) (.tp (t0 ∈ ([] : List Nat))) (by kernel_rfl) (by kernel_rfl) ⟨a8,hS,b7⟩ (fun β=>by rw [show (t0 : Int).toNat * 1 = t0 by omega]; exact aa9 (by omega)) trivial ?_))
 by_cases u0 : t0 ∈ ([] : List Nat)
 ·have q0 : t0 ≠ frN ([] : List Nat) (E8 (n:=0) rfl (by decide)):=fun e=>hg0 (e ▸ u0)
  refine R9 (p:=t0 ∈ ([] : List Nat)) ⟨a8,hS,b7⟩ (by kernel_rfl) (by kernel_rfl) (by kernel_rfl) (u0) ?_
  refine I8 (ps:=[0 ≤ (t0 : Int) + 1 ∧ (0 : Int) < 11,InR .i64 ((t0 : Int) + 1)]) ⟨a8,hS,b7⟩ (by kernel_rfl) (by simp only [AllT,InR,and_true]; omega) ?_
  refine q7 ⟨a8,hS,b7⟩ (by kernel_rfl) (P9 10 (((t0 : Int) + 1) % 11) ((((t0 + 1) % 11 : Nat) : Int)) (by kernel_rfl) (by omega) ?_)
  exact F7 ((t0 + 1) % 11) ⟨a8,hS,b7⟩ hso (by kernel_rfl) (by kernel_rfl) (fun β=>(by kernel_rfl)) (fun β=>(by kernel_rfl)) (by kernel_rfl) (by omega) (by omega) (fun S w hw hG=>⟨s9 rfl,fun p hp=>by cases hp⟩) (fun S w hw hG=>hG)
 refine I5 (p:=t0 ∈ ([] : List Nat)) ⟨a8,hS,b7⟩ (by kernel_rfl) (by kernel_rfl) (by kernel_rfl) (u0) ?_
 refine I6 ⟨a8,hS,b7⟩ (by kernel_rfl) (by kernel_rfl) ?_
 refine q7 ⟨a8,hS,b7⟩ (by kernel_rfl) (Y2 5 11 (t0 : Int) 1 (by kernel_rfl) (Nat.le_of_ble_eq_true (by kernel_rfl)) ⟨a8,hS,b7⟩ (by omega) (by omega) (av1 5 ((t0 : Int).toNat * 1) 1 [.bb true] 65 (usedL []) (usedL (t0 :: [])) (by kernel_rfl) (by kernel_rfl) ⟨a8,hS,b7⟩ (fun β=>by rw [U9]; omega) (fun β=>by rw [show (t0 : Int).toNat * 1 = t0 by omega]; exact V4 (by omega)) W9 ?_))
 refine l8 6 ⟨a8,hS,b7⟩ (by kernel_rfl) (by kernel_rfl) (by kernel_rfl) ?_
 refine i1 3 (fun η=>(by kernel_rfl)) ?_
 refine h_1 (fun x0=>.one (.ag 12 x0)) (fun x0=>qtriG x0 ((onT (t0 : Int)))) (fun η=>(by kernel_rfl)) (fun _ _ _ h=>⟨h.ok,rfl⟩) (fun β η S w hS hs hw hG hd=>⟨_,(by kernel_rfl),at6 hS⟩) ?_
 refine h_1 (fun x0=>.one (.ag 12 x0)) (fun x0=>qtriG x0 (((gridM m).apply (onT (t0 : Int))))) (fun η=>(by kernel_rfl)) (fun _ _ _ h=>⟨h.ok,rfl⟩) (fun β η S w hS hs hw hG hd=>have hm:=hG.1; ⟨_,(by kernel_rfl),D8 hS hm (dep hd 3 (by kernel_rfl) (by kernel_rfl) : (qtriG (η 3) ((onT (t0 : Int)))).p S w) (F6 m) (au4 _) (by decide)⟩) ?_
 refine h_1 (fun x0=>.one (.ag 9 x0)) (fun x0=>triG x0 (((gridM m).apply (onT (t0 : Int))))) (fun η=>(by kernel_rfl)) (fun _ _ _ h=>⟨h.ok,rfl⟩) (fun β η S w hS hs hw hG hd=>⟨_,(by kernel_rfl),A0 hS (dep hd 4 (by kernel_rfl) (by kernel_rfl) : (qtriG (η 4) (((gridM m).apply (onT (t0 : Int))))).p S w) (A7 (Y1 _) (by decide)) (by decide)⟩) ?_
 refine l6 [true,false,false] ((qmapG M ((gridM m))).and (Gh.nil)) (by exact fun _ _ h=>⟨h.1,trivial⟩) (fun g η=>(triG (η 5) (((gridM m).apply (onT (t0 : Int))))).and g) (by kernel_rfl) (fun g η=>(by kernel_rfl)) ?_
 intro η_1
 refine I8 (ps:=[InR .i64 ((t0 : Int) + 1)]) ⟨a8,hS,b7⟩ (by kernel_rfl) (by simp only [AllT,InR,and_true]; omega) ?_
 refine l8 9 ⟨a8,hS,b7⟩ (by kernel_rfl) (by kernel_rfl) (by kernel_rfl) ?_
 refine i1 3 (fun η=>(by kernel_rfl)) ?_
 refine h_1 (fun x0=>.one (.ag 4 x0)) (fun x0=>qG x0 ((((t0 : Int) + 1 : Int) : Rat))) (fun η=>(by kernel_rfl)) (fun _ _ _ h=>⟨h.ok,rfl⟩) (fun β η S w hS hs hw hG hd=>⟨_,(by kernel_rfl),F4 hS (by omega) (by omega)⟩) ?_
 refine h_1 (fun x0=>.one (.ag 4 x0)) (fun x0=>qG x0 ((0 : Rat))) (fun η=>(by kernel_rfl)) (fun _ _ _ h=>⟨h.ok,rfl⟩) (fun β η S w hS hs hw hG hd=>⟨_,(by kernel_rfl),I7 hS⟩) ?_
 refine h_1 (fun x0=>.one (.ag 4 x0)) (fun x0=>qG x0 ((1 : Rat))) (fun η=>(by kernel_rfl)) (fun _ _ _ h=>⟨h.ok,rfl⟩) (fun β η S w hS hs hw hG hd=>⟨_,(by kernel_rfl),G5 hS⟩) ?_
 refine S9 (fun x0=>.one (.ag 12 x0)) (fun x0=>qtriG x0 ((xT t0))) ⟨a8,hS,b7⟩ (fun η=>(by kernel_rfl)) (fun η=>(by kernel_rfl)) (fun β η S w hS hM hs hw hG hd=>have hF : (qtriG (tri4 (η 3) (η 4) (η 5)) ((xT t0))).p S w:=⟨_,_,_,rfl,(dep hd 3 (by kernel_rfl) (by kernel_rfl) : (qG (η 3) ((((t0 : Int) + 1 : Int) : Rat))).p S w),(dep hd 4 (by kernel_rfl) (by kernel_rfl) : (qG (η 4) ((0 : Rat))).p S w),(dep hd 5 (by kernel_rfl) (by kernel_rfl) : (qG (η 5) ((1 : Rat))).p S w)⟩; have hK : ∀ (x0 : Value) (S : Nat → Prop) (w : World),(qtriG x0 ((xT t0))).p S w → (.one (.ag 12 x0) : SV).Ok 0 ∧ (.one (.ag 12 x0) : SV).den (fun _=>0) = x0:=(fun _ _ _ h=>⟨h.ok,rfl⟩); ⟨(tri4 (η 3) (η 4) (η 5)),(by kernel_rfl),(hK _ S w hF).2.symm,(hK _ S w hF).1,hF⟩) ?_
 refine h_1 (fun x0=>.one (.ag 12 x0)) (fun x0=>qtriG x0 (((gridM m).apply (xT t0)))) (fun η=>(by kernel_rfl)) (fun _ _ _ h=>⟨h.ok,rfl⟩) (fun β η S w hS hs hw hG hd=>have hm:=hG.2.1; ⟨_,(by kernel_rfl),D8 hS hm (dep hd 6 (by kernel_rfl) (by kernel_rfl) : (qtriG (η 6) ((xT t0))).p S w) (F6 m) ((ag8 ht0).tl (by decide)) (by decide)⟩) ?_
 refine h_1 (fun x0=>.one (.ag 9 x0)) (fun x0=>triG x0 (((gridM m).apply (xT t0)))) (fun η=>(by kernel_rfl)) (fun _ _ _ h=>⟨h.ok,rfl⟩) (fun β η S w hS hs hw hG hd=>⟨_,(by kernel_rfl),A0 hS (dep hd 7 (by kernel_rfl) (by kernel_rfl) : (qtriG (η 7) (((gridM m).apply (xT t0)))).p S w) (A7 (ag8 ht0) (by decide)) (by decide)⟩) ?_
 refine l6 [true,false,false,false,false,false] ((triG (η_1 5) (((gridM m).apply (onT (t0 : Int))))).and ((qmapG M ((gridM m))).and (Gh.nil))) (by exact fun _ _ h=>⟨h.1,h.2.1,trivial⟩) (fun g η=>(triG (η 8) (((gridM m).apply (xT t0)))).and g) (by kernel_rfl) (fun g η=>(by kernel_rfl)) ?_
 intro η_2
 have B1:=H6 (n 1)
 have hT1:=ai6 (n 1)
 have hU1:=ai1 (n 1)
 have hf1:=ai2 (l:=((t0 :: []) : List Nat)) (E8 (n:=1) rfl (by decide))
 have hg1:=ac0 (l:=((t0 :: []) : List Nat)) (E8 (n:=1) rfl (by decide))
 refine A5 ⟨a8,hS,b7⟩ (by kernel_rfl) ?_
 refine s_K (.one (.int .i64 (small5 (n 1)))) ⟨a8,hS,b7⟩ (by kernel_rfl) (by kernel_rfl) (j9 rfl) rfl (fun β S w hS hs hw hG=>⟨_,(by kernel_rfl),N4 hS⟩) ?_
 refine I8 (ps:=[InR .i64 (small5 (n 1) + 5)]) ⟨a8,hS,b7⟩ (by kernel_rfl) (by simp only [AllT,InR,and_true]; omega) ?_
 refine q7 ⟨a8,hS,b7⟩ (by kernel_rfl) (P9 10 (small5 (n 1) + 5) ((s5N (n 1) : Int)) (by kernel_rfl) (hT1.symm) ?_)
 refine H2 (ι:=Nat) [(10,10),(45,50)] (fun t1=>[(10,.one (.int .i64 (t1 : Int)))]) (fun _=>[]) (fun t1=>((triG (η_2 8) (((gridM m).apply (xT t0)))).and ((triG (η_1 5) (((gridM m).apply (onT (t0 : Int))))).and ((qmapG M ((gridM m))).and (Gh.nil))))) (fun t1=>t1 < 11) (fun t1=>(frN ((t0 :: []) : List Nat) (E8 (n:=1) rfl (by decide)) + 11 - t1) % 11) (s5N (n 1)) ⟨a8,hS,b7⟩ (by kernel_rfl) (by kernel_rfl) (fun β=>(by kernel_rfl)) (fun β=>(by kernel_rfl)) (by kernel_rfl) (hU1) (fun S w hw hG=>⟨s9 rfl,fun p hp=>by cases hp⟩) (fun S w hw hG=>hG) (fun hso t1 ht1=>?_)
 refine q7 ⟨a8,hS,b7⟩ (by kernel_rfl) (Y2 5 11 (t1 : Int) 1 (by kernel_rfl) (Nat.le_of_ble_eq_true (by kernel_rfl)) ⟨a8,hS,b7⟩ (by omega) (by omega) (av5 5 ((t1 : Int).toNat * 1) 65 (usedL (t0 :: [])) (.tp (t1 ∈ ((t0 :: []) : List Nat))) (by kernel_rfl) (by kernel_rfl) ⟨a8,hS,b7⟩ (fun β=>by rw [show (t1 : Int).toNat * 1 = t1 by omega]; exact aa9 (by omega)) trivial ?_))
 by_cases u1 : t1 ∈ ((t0 :: []) : List Nat)
 ·have q1 : t1 ≠ frN ((t0 :: []) : List Nat) (E8 (n:=1) rfl (by decide)):=fun e=>hg1 (e ▸ u1)
  refine R9 (p:=t1 ∈ ((t0 :: []) : List Nat)) ⟨a8,hS,b7⟩ (by kernel_rfl) (by kernel_rfl) (by kernel_rfl) (u1) ?_
  refine I8 (ps:=[0 ≤ (t1 : Int) + 1 ∧ (0 : Int) < 11,InR .i64 ((t1 : Int) + 1)]) ⟨a8,hS,b7⟩ (by kernel_rfl) (by simp only [AllT,InR,and_true]; omega) ?_
  refine q7 ⟨a8,hS,b7⟩ (by kernel_rfl) (P9 10 (((t1 : Int) + 1) % 11) ((((t1 + 1) % 11 : Nat) : Int)) (by kernel_rfl) (by omega) ?_)
  exact F7 ((t1 + 1) % 11) ⟨a8,hS,b7⟩ hso (by kernel_rfl) (by kernel_rfl) (fun β=>(by kernel_rfl)) (fun β=>(by kernel_rfl)) (by kernel_rfl) (by omega) (by omega) (fun S w hw hG=>⟨s9 rfl,fun p hp=>by cases hp⟩) (fun S w hw hG=>hG)
 refine I5 (p:=t1 ∈ ((t0 :: []) : List Nat)) ⟨a8,hS,b7⟩ (by kernel_rfl) (by kernel_rfl) (by kernel_rfl) (u1) ?_
 refine I6 ⟨a8,hS,b7⟩ (by kernel_rfl) (by kernel_rfl) ?_
 refine q7 ⟨a8,hS,b7⟩ (by kernel_rfl) (Y2 5 11 (t1 : Int) 1 (by kernel_rfl) (Nat.le_of_ble_eq_true (by kernel_rfl)) ⟨a8,hS,b7⟩ (by omega) (by omega) (av1 5 ((t1 : Int).toNat * 1) 1 [.bb true] 65 (usedL (t0 :: [])) (usedL (t1 :: (t0 :: []))) (by kernel_rfl) (by kernel_rfl) ⟨a8,hS,b7⟩ (fun β=>by rw [U9]; omega) (fun β=>by rw [show (t1 : Int).toNat * 1 = t1 by omega]; exact V4 (by omega)) W9 ?_))
 refine l8 6 ⟨a8,hS,b7⟩ (by kernel_rfl) (by kernel_rfl) (by kernel_rfl) ?_
 refine i1 3 (fun η=>(by kernel_rfl)) ?_
 refine h_1 (fun x0=>.one (.ag 12 x0)) (fun x0=>qtriG x0 ((onT (t1 : Int)))) (fun η=>(by kernel_rfl)) (fun _ _ _ h=>⟨h.ok,rfl⟩) (fun β η S w hS hs hw hG hd=>⟨_,(by kernel_rfl),at6 hS⟩) ?_
 refine h_1 (fun x0=>.one (.ag 12 x0)) (fun x0=>qtriG x0 (((gridM m).apply (onT (t1 : Int))))) (fun η=>(by kernel_rfl)) (fun _ _ _ h=>⟨h.ok,rfl⟩) (fun β η S w hS hs hw hG hd=>have hm:=hG.2.2.1; ⟨_,(by kernel_rfl),D8 hS hm (dep hd 3 (by kernel_rfl) (by kernel_rfl) : (qtriG (η 3) ((onT (t1 : Int)))).p S w) (F6 m) (au4 _) (by decide)⟩) ?_
 refine h_1 (fun x0=>.one (.ag 9 x0)) (fun x0=>triG x0 (((gridM m).apply (onT (t1 : Int))))) (fun η=>(by kernel_rfl)) (fun _ _ _ h=>⟨h.ok,rfl⟩) (fun β η S w hS hs hw hG hd=>⟨_,(by kernel_rfl),A0 hS (dep hd 4 (by kernel_rfl) (by kernel_rfl) : (qtriG (η 4) (((gridM m).apply (onT (t1 : Int))))).p S w) (A7 (Y1 _) (by decide)) (by decide)⟩) ?_
 refine l6 [true,false,false] ((triG (η_2 8) (((gridM m).apply (xT t0)))).and ((triG (η_1 5) (((gridM m).apply (onT (t0 : Int))))).and ((qmapG M ((gridM m))).and (Gh.nil)))) (by exact fun _ _ h=>⟨h.1,h.2.1,h.2.2.1,trivial⟩) (fun g η=>(triG (η 5) (((gridM m).apply (onT (t1 : Int))))).and g) (by kernel_rfl) (fun g η=>(by kernel_rfl)) ?_
 intro η_3
 refine I8 (ps:=[InR .i64 ((t1 : Int) + 1)]) ⟨a8,hS,b7⟩ (by kernel_rfl) (by simp only [AllT,InR,and_true]; omega) ?_
 refine l8 9 ⟨a8,hS,b7⟩ (by kernel_rfl) (by kernel_rfl) (by kernel_rfl) ?_
 refine i1 2 (fun η=>(by kernel_rfl)) ?_
 refine h_1 (fun x0=>.one (.ag 4 x0)) (fun x0=>qG x0 ((0 : Rat))) (fun η=>(by kernel_rfl)) (fun _ _ _ h=>⟨h.ok,rfl⟩) (fun β η S w hS hs hw hG hd=>⟨_,(by kernel_rfl),I7 hS⟩) ?_
 refine i1 1 (fun η=>(by kernel_rfl)) ?_
 refine h_1 (fun x0=>.one (.ag 4 x0)) (fun x0=>qG x0 ((((t1 : Int) + 1 : Int) : Rat))) (fun η=>(by kernel_rfl)) (fun _ _ _ h=>⟨h.ok,rfl⟩) (fun β η S w hS hs hw hG hd=>⟨_,(by kernel_rfl),F4 hS (by omega) (by omega)⟩) ?_
 refine h_1 (fun x0=>.one (.ag 4 x0)) (fun x0=>qG x0 ((1 : Rat))) (fun η=>(by kernel_rfl)) (fun _ _ _ h=>⟨h.ok,rfl⟩) (fun β η S w hS hs hw hG hd=>⟨_,(by kernel_rfl),G5 hS⟩) ?_
 refine S9 (fun x0=>.one (.ag 12 x0)) (fun x0=>qtriG x0 ((yT t1))) ⟨a8,hS,b7⟩ (fun η=>(by kernel_rfl)) (fun η=>(by kernel_rfl)) (fun β η S w hS hM hs hw hG hd=>have hF : (qtriG (tri4 (η 2) (η 4) (η 5)) ((yT t1))).p S w:=⟨_,_,_,rfl,(dep hd 2 (by kernel_rfl) (by kernel_rfl) : (qG (η 2) ((0 : Rat))).p S w),(dep hd 4 (by kernel_rfl) (by kernel_rfl) : (qG (η 4) ((((t1 : Int) + 1 : Int) : Rat))).p S w),(dep hd 5 (by kernel_rfl) (by kernel_rfl) : (qG (η 5) ((1 : Rat))).p S w)⟩; have hK : ∀ (x0 : Value) (S : Nat → Prop) (w : World),(qtriG x0 ((yT t1))).p S w → (.one (.ag 12 x0) : SV).Ok 0 ∧ (.one (.ag 12 x0) : SV).den (fun _=>0) = x0:=(fun _ _ _ h=>⟨h.ok,rfl⟩); ⟨(tri4 (η 2) (η 4) (η 5)),(by kernel_rfl),(hK _ S w hF).2.symm,(hK _ S w hF).1,hF⟩) ?_
 refine h_1 (fun x0=>.one (.ag 12 x0)) (fun x0=>qtriG x0 (((gridM m).apply (yT t1)))) (fun η=>(by kernel_rfl)) (fun _ _ _ h=>⟨h.ok,rfl⟩) (fun β η S w hS hs hw hG hd=>have hm:=hG.2.2.2.1; ⟨_,(by kernel_rfl),D8 hS hm (dep hd 6 (by kernel_rfl) (by kernel_rfl) : (qtriG (η 6) ((yT t1))).p S w) (F6 m) ((ae7 ht1).tl (by decide)) (by decide)⟩) ?_
 refine h_1 (fun x0=>.one (.ag 9 x0)) (fun x0=>triG x0 (((gridM m).apply (yT t1)))) (fun η=>(by kernel_rfl)) (fun _ _ _ h=>⟨h.ok,rfl⟩) (fun β η S w hS hs hw hG hd=>⟨_,(by kernel_rfl),A0 hS (dep hd 7 (by kernel_rfl) (by kernel_rfl) : (qtriG (η 7) (((gridM m).apply (yT t1)))).p S w) (A7 (ae7 ht1) (by decide)) (by decide)⟩) ?_
 refine l6 [true,false,false,false,false,false] ((triG (η_3 5) (((gridM m).apply (onT (t1 : Int))))).and ((triG (η_2 8) (((gridM m).apply (xT t0)))).and ((triG (η_1 5) (((gridM m).apply (onT (t0 : Int))))).and ((qmapG M ((gridM m))).and (Gh.nil))))) (by exact fun _ _ h=>⟨h.1,h.2.1,h.2.2.1,h.2.2.2.1,trivial⟩) (fun g η=>(triG (η 8) (((gridM m).apply (yT t1)))).and g) (by kernel_rfl) (fun g η=>(by kernel_rfl)) ?_
 intro η_4
 have B2:=H6 (n 2)
 have hT2:=ai6 (n 2)
 have hU2:=ai1 (n 2)
 have hf2:=ai2 (l:=((t1 :: (t0 :: [])) : List Nat)) (E8 (n:=2) rfl (by decide))
 have hg2:=ac0 (l:=((t1 :: (t0 :: [])) : List Nat)) (E8 (n:=2) rfl (by decide))
 refine A5 ⟨a8,hS,b7⟩ (by kernel_rfl) ?_
 refine s_K (.one (.int .i64 (small5 (n 2)))) ⟨a8,hS,b7⟩ (by kernel_rfl) (by kernel_rfl) (j9 rfl) rfl (fun β S w hS hs hw hG=>⟨_,(by kernel_rfl),N4 hS⟩) ?_
 refine I8 (ps:=[InR .i64 (small5 (n 2) + 5)]) ⟨a8,hS,b7⟩ (by kernel_rfl) (by simp only [AllT,InR,and_true]; omega) ?_
 refine q7 ⟨a8,hS,b7⟩ (by kernel_rfl) (P9 10 (small5 (n 2) + 5) ((s5N (n 2) : Int)) (by kernel_rfl) (hT2.symm) ?_)
 refine H2 (ι:=Nat) [(10,10),(45,50)] (fun t2=>[(10,.one (.int .i64 (t2 : Int)))]) (fun _=>[]) (fun t2=>((triG (η_4 8) (((gridM m).apply (yT t1)))).and ((triG (η_3 5) (((gridM m).apply (onT (t1 : Int))))).and ((triG (η_2 8) (((gridM m).apply (xT t0)))).and ((triG (η_1 5) (((gridM m).apply (onT (t0 : Int))))).and ((qmapG M ((gridM m))).and (Gh.nil))))))) (fun t2=>t2 < 11) (fun t2=>(frN ((t1 :: (t0 :: [])) : List Nat) (E8 (n:=2) rfl (by decide)) + 11 - t2) % 11) (s5N (n 2)) ⟨a8,hS,b7⟩ (by kernel_rfl) (by kernel_rfl) (fun β=>(by kernel_rfl)) (fun β=>(by kernel_rfl)) (by kernel_rfl) (hU2) (fun S w hw hG=>⟨s9 rfl,fun p hp=>by cases hp⟩) (fun S w hw hG=>hG) (fun hso t2 ht2=>?_)
 refine q7 ⟨a8,hS,b7⟩ (by kernel_rfl) (Y2 5 11 (t2 : Int) 1 (by kernel_rfl) (Nat.le_of_ble_eq_true (by kernel_rfl)) ⟨a8,hS,b7⟩ (by omega) (by omega) (av5 5 ((t2 : Int).toNat * 1) 65 (usedL (t1 :: (t0 :: []))) (.tp (t2 ∈ ((t1 :: (t0 :: [])) : List Nat))) (by kernel_rfl) (by kernel_rfl) ⟨a8,hS,b7⟩ (fun β=>by rw [show (t2 : Int).toNat * 1 = t2 by omega]; exact aa9 (by omega)) trivial ?_))
 by_cases u2 : t2 ∈ ((t1 :: (t0 :: [])) : List Nat)
 ·have q2 : t2 ≠ frN ((t1 :: (t0 :: [])) : List Nat) (E8 (n:=2) rfl (by decide)):=fun e=>hg2 (e ▸ u2)
  refine R9 (p:=t2 ∈ ((t1 :: (t0 :: [])) : List Nat)) ⟨a8,hS,b7⟩ (by kernel_rfl) (by kernel_rfl) (by kernel_rfl) (u2) ?_
  refine I8 (ps:=[0 ≤ (t2 : Int) + 1 ∧ (0 : Int) < 11,InR .i64 ((t2 : Int) + 1)]) ⟨a8,hS,b7⟩ (by kernel_rfl) (by simp only [AllT,InR,and_true]; omega) ?_
  refine q7 ⟨a8,hS,b7⟩ (by kernel_rfl) (P9 10 (((t2 : Int) + 1) % 11) ((((t2 + 1) % 11 : Nat) : Int)) (by kernel_rfl) (by omega) ?_)
  exact F7 ((t2 + 1) % 11) ⟨a8,hS,b7⟩ hso (by kernel_rfl) (by kernel_rfl) (fun β=>(by kernel_rfl)) (fun β=>(by kernel_rfl)) (by kernel_rfl) (by omega) (by omega) (fun S w hw hG=>⟨s9 rfl,fun p hp=>by cases hp⟩) (fun S w hw hG=>hG)
 refine I5 (p:=t2 ∈ ((t1 :: (t0 :: [])) : List Nat)) ⟨a8,hS,b7⟩ (by kernel_rfl) (by kernel_rfl) (by kernel_rfl) (u2) ?_
 refine I6 ⟨a8,hS,b7⟩ (by kernel_rfl) (by kernel_rfl) ?_
 refine q7 ⟨a8,hS,b7⟩ (by kernel_rfl) (Y2 5 11 (t2 : Int) 1 (by kernel_rfl) (Nat.le_of_ble_eq_true (by kernel_rfl)) ⟨a8,hS,b7⟩ (by omega) (by omega) (av1 5 ((t2 : Int).toNat * 1) 1 [.bb true] 65 (usedL (t1 :: (t0 :: []))) (usedL (t2 :: (t1 :: (t0 :: [])))) (by kernel_rfl) (by kernel_rfl) ⟨a8,hS,b7⟩ (fun β=>by rw [U9]; omega) (fun β=>by rw [show (t2 : Int).toNat * 1 = t2 by omega]; exact V4 (by omega)) W9 ?_))
 refine l8 6 ⟨a8,hS,b7⟩ (by kernel_rfl) (by kernel_rfl) (by kernel_rfl) ?_
 refine i1 3 (fun η=>(by kernel_rfl)) ?_
 refine h_1 (fun x0=>.one (.ag 12 x0)) (fun x0=>qtriG x0 ((onT (t2 : Int)))) (fun η=>(by kernel_rfl)) (fun _ _ _ h=>⟨h.ok,rfl⟩) (fun β η S w hS hs hw hG hd=>⟨_,(by kernel_rfl),at6 hS⟩) ?_
 refine h_1 (fun x0=>.one (.ag 12 x0)) (fun x0=>qtriG x0 (((gridM m).apply (onT (t2 : Int))))) (fun η=>(by kernel_rfl)) (fun _ _ _ h=>⟨h.ok,rfl⟩) (fun β η S w hS hs hw hG hd=>have hm:=hG.2.2.2.2.1; ⟨_,(by kernel_rfl),D8 hS hm (dep hd 3 (by kernel_rfl) (by kernel_rfl) : (qtriG (η 3) ((onT (t2 : Int)))).p S w) (F6 m) (au4 _) (by decide)⟩) ?_
 refine h_1 (fun x0=>.one (.ag 9 x0)) (fun x0=>triG x0 (((gridM m).apply (onT (t2 : Int))))) (fun η=>(by kernel_rfl)) (fun _ _ _ h=>⟨h.ok,rfl⟩) (fun β η S w hS hs hw hG hd=>⟨_,(by kernel_rfl),A0 hS (dep hd 4 (by kernel_rfl) (by kernel_rfl) : (qtriG (η 4) (((gridM m).apply (onT (t2 : Int))))).p S w) (A7 (Y1 _) (by decide)) (by decide)⟩) ?_
 refine l6 [true,false,false] ((triG (η_4 8) (((gridM m).apply (yT t1)))).and ((triG (η_3 5) (((gridM m).apply (onT (t1 : Int))))).and ((triG (η_2 8) (((gridM m).apply (xT t0)))).and ((triG (η_1 5) (((gridM m).apply (onT (t0 : Int))))).and ((qmapG M ((gridM m))).and (Gh.nil)))))) (by exact fun _ _ h=>⟨h.1,h.2.1,h.2.2.1,h.2.2.2.1,h.2.2.2.2.1,trivial⟩) (fun g η=>(triG (η 5) (((gridM m).apply (onT (t2 : Int))))).and g) (by kernel_rfl) (fun g η=>(by kernel_rfl)) ?_
 intro η_5
 refine I8 (ps:=[InR .i64 ((t2 : Int) + 1)]) ⟨a8,hS,b7⟩ (by kernel_rfl) (by simp only [AllT,InR,and_true]; omega) ?_
 refine l8 9 ⟨a8,hS,b7⟩ (by kernel_rfl) (by kernel_rfl) (by kernel_rfl) ?_
 refine i1 3 (fun η=>(by kernel_rfl)) ?_
 refine h_1 (fun x0=>.one (.ag 4 x0)) (fun x0=>qG x0 ((((t2 : Int) + 1 : Int) : Rat))) (fun η=>(by kernel_rfl)) (fun _ _ _ h=>⟨h.ok,rfl⟩) (fun β η S w hS hs hw hG hd=>⟨_,(by kernel_rfl),F4 hS (by omega) (by omega)⟩) ?_
 refine h_1 (fun x0=>.one (.ag 4 x0)) (fun x0=>qG x0 ((0 : Rat))) (fun η=>(by kernel_rfl)) (fun _ _ _ h=>⟨h.ok,rfl⟩) (fun β η S w hS hs hw hG hd=>⟨_,(by kernel_rfl),I7 hS⟩) ?_
 refine h_1 (fun x0=>.one (.ag 4 x0)) (fun x0=>qG x0 ((1 : Rat))) (fun η=>(by kernel_rfl)) (fun _ _ _ h=>⟨h.ok,rfl⟩) (fun β η S w hS hs hw hG hd=>⟨_,(by kernel_rfl),G5 hS⟩) ?_
 refine S9 (fun x0=>.one (.ag 12 x0)) (fun x0=>qtriG x0 ((xT t2))) ⟨a8,hS,b7⟩ (fun η=>(by kernel_rfl)) (fun η=>(by kernel_rfl)) (fun β η S w hS hM hs hw hG hd=>have hF : (qtriG (tri4 (η 3) (η 4) (η 5)) ((xT t2))).p S w:=⟨_,_,_,rfl,(dep hd 3 (by kernel_rfl) (by kernel_rfl) : (qG (η 3) ((((t2 : Int) + 1 : Int) : Rat))).p S w),(dep hd 4 (by kernel_rfl) (by kernel_rfl) : (qG (η 4) ((0 : Rat))).p S w),(dep hd 5 (by kernel_rfl) (by kernel_rfl) : (qG (η 5) ((1 : Rat))).p S w)⟩; have hK : ∀ (x0 : Value) (S : Nat → Prop) (w : World),(qtriG x0 ((xT t2))).p S w → (.one (.ag 12 x0) : SV).Ok 0 ∧ (.one (.ag 12 x0) : SV).den (fun _=>0) = x0:=(fun _ _ _ h=>⟨h.ok,rfl⟩); ⟨(tri4 (η 3) (η 4) (η 5)),(by kernel_rfl),(hK _ S w hF).2.symm,(hK _ S w hF).1,hF⟩) ?_
 refine h_1 (fun x0=>.one (.ag 12 x0)) (fun x0=>qtriG x0 (((gridM m).apply (xT t2)))) (fun η=>(by kernel_rfl)) (fun _ _ _ h=>⟨h.ok,rfl⟩) (fun β η S w hS hs hw hG hd=>have hm:=hG.2.2.2.2.2.1; ⟨_,(by kernel_rfl),D8 hS hm (dep hd 6 (by kernel_rfl) (by kernel_rfl) : (qtriG (η 6) ((xT t2))).p S w) (F6 m) ((ag8 ht2).tl (by decide)) (by decide)⟩) ?_
 refine h_1 (fun x0=>.one (.ag 9 x0)) (fun x0=>triG x0 (((gridM m).apply (xT t2)))) (fun η=>(by kernel_rfl)) (fun _ _ _ h=>⟨h.ok,rfl⟩) (fun β η S w hS hs hw hG hd=>⟨_,(by kernel_rfl),A0 hS (dep hd 7 (by kernel_rfl) (by kernel_rfl) : (qtriG (η 7) (((gridM m).apply (xT t2)))).p S w) (A7 (ag8 ht2) (by decide)) (by decide)⟩) ?_
 refine l6 [true,false,false,false,false,false] ((triG (η_5 5) (((gridM m).apply (onT (t2 : Int))))).and ((triG (η_4 8) (((gridM m).apply (yT t1)))).and ((triG (η_3 5) (((gridM m).apply (onT (t1 : Int))))).and ((triG (η_2 8) (((gridM m).apply (xT t0)))).and ((triG (η_1 5) (((gridM m).apply (onT (t0 : Int))))).and ((qmapG M ((gridM m))).and (Gh.nil))))))) (by exact fun _ _ h=>⟨h.1,h.2.1,h.2.2.1,h.2.2.2.1,h.2.2.2.2.1,h.2.2.2.2.2.1,trivial⟩) (fun g η=>(triG (η 8) (((gridM m).apply (xT t2)))).and g) (by kernel_rfl) (fun g η=>(by kernel_rfl)) ?_
 intro η_6
 have B3:=H6 (n 3)
 have hT3:=ai6 (n 3)
 have hU3:=ai1 (n 3)
 have hf3:=ai2 (l:=((t2 :: (t1 :: (t0 :: []))) : List Nat)) (E8 (n:=3) rfl (by decide))
 have hg3:=ac0 (l:=((t2 :: (t1 :: (t0 :: []))) : List Nat)) (E8 (n:=3) rfl (by decide))
 refine A5 ⟨a8,hS,b7⟩ (by kernel_rfl) ?_
 refine s_K (.one (.int .i64 (small5 (n 3)))) ⟨a8,hS,b7⟩ (by kernel_rfl) (by kernel_rfl) (j9 rfl) rfl (fun β S w hS hs hw hG=>⟨_,(by kernel_rfl),N4 hS⟩) ?_
 refine I8 (ps:=[InR .i64 (small5 (n 3) + 5)]) ⟨a8,hS,b7⟩ (by kernel_rfl) (by simp only [AllT,InR,and_true]; omega) ?_
 refine q7 ⟨a8,hS,b7⟩ (by kernel_rfl) (P9 10 (small5 (n 3) + 5) ((s5N (n 3) : Int)) (by kernel_rfl) (hT3.symm) ?_)
 refine H2 (ι:=Nat) [(10,10),(45,50)] (fun t3=>[(10,.one (.int .i64 (t3 : Int)))]) (fun _=>[]) (fun t3=>((triG (η_6 8) (((gridM m).apply (xT t2)))).and ((triG (η_5 5) (((gridM m).apply (onT (t2 : Int))))).and ((triG (η_4 8) (((gridM m).apply (yT t1)))).and ((triG (η_3 5) (((gridM m).apply (onT (t1 : Int))))).and ((triG (η_2 8) (((gridM m).apply (xT t0)))).and ((triG (η_1 5) (((gridM m).apply (onT (t0 : Int))))).and ((qmapG M ((gridM m))).and (Gh.nil))))))))) (fun t3=>t3 < 11) (fun t3=>(frN ((t2 :: (t1 :: (t0 :: []))) : List Nat) (E8 (n:=3) rfl (by decide)) + 11 - t3) % 11) (s5N (n 3)) ⟨a8,hS,b7⟩ (by kernel_rfl) (by kernel_rfl) (fun β=>(by kernel_rfl)) (fun β=>(by kernel_rfl)) (by kernel_rfl) (hU3) (fun S w hw hG=>⟨s9 rfl,fun p hp=>by cases hp⟩) (fun S w hw hG=>hG) (fun hso t3 ht3=>?_)
 refine q7 ⟨a8,hS,b7⟩ (by kernel_rfl) (Y2 5 11 (t3 : Int) 1 (by kernel_rfl) (Nat.le_of_ble_eq_true (by kernel_rfl)) ⟨a8,hS,b7⟩ (by omega) (by omega) (av5 5 ((t3 : Int).toNat * 1) 65 (usedL (t2 :: (t1 :: (t0 :: [])))) (.tp (t3 ∈ ((t2 :: (t1 :: (t0 :: []))) : List Nat))) (by kernel_rfl) (by kernel_rfl) ⟨a8,hS,b7⟩ (fun β=>by rw [show (t3 : Int).toNat * 1 = t3 by omega]; exact aa9 (by omega)) trivial ?_))
 by_cases u3 : t3 ∈ ((t2 :: (t1 :: (t0 :: []))) : List Nat)
 ·have q3 : t3 ≠ frN ((t2 :: (t1 :: (t0 :: []))) : List Nat) (E8 (n:=3) rfl (by decide)):=fun e=>hg3 (e ▸ u3)
  refine R9 (p:=t3 ∈ ((t2 :: (t1 :: (t0 :: []))) : List Nat)) ⟨a8,hS,b7⟩ (by kernel_rfl) (by kernel_rfl) (by kernel_rfl) (u3) ?_
  refine I8 (ps:=[0 ≤ (t3 : Int) + 1 ∧ (0 : Int) < 11,InR .i64 ((t3 : Int) + 1)]) ⟨a8,hS,b7⟩ (by kernel_rfl) (by simp only [AllT,InR,and_true]; omega) ?_
  refine q7 ⟨a8,hS,b7⟩ (by kernel_rfl) (P9 10 (((t3 : Int) + 1) % 11) ((((t3 + 1) % 11 : Nat) : Int)) (by kernel_rfl) (by omega) ?_)
  exact F7 ((t3 + 1) % 11) ⟨a8,hS,b7⟩ hso (by kernel_rfl) (by kernel_rfl) (fun β=>(by kernel_rfl)) (fun β=>(by kernel_rfl)) (by kernel_rfl) (by omega) (by omega) (fun S w hw hG=>⟨s9 rfl,fun p hp=>by cases hp⟩) (fun S w hw hG=>hG)
 refine I5 (p:=t3 ∈ ((t2 :: (t1 :: (t0 :: []))) : List Nat)) ⟨a8,hS,b7⟩ (by kernel_rfl) (by kernel_rfl) (by kernel_rfl) (u3) ?_
 refine I6 ⟨a8,hS,b7⟩ (by kernel_rfl) (by kernel_rfl) ?_
 refine q7 ⟨a8,hS,b7⟩ (by kernel_rfl) (Y2 5 11 (t3 : Int) 1 (by kernel_rfl) (Nat.le_of_ble_eq_true (by kernel_rfl)) ⟨a8,hS,b7⟩ (by omega) (by omega) (av1 5 ((t3 : Int).toNat * 1) 1 [.bb true] 65 (usedL (t2 :: (t1 :: (t0 :: [])))) (usedL (t3 :: (t2 :: (t1 :: (t0 :: []))))) (by kernel_rfl) (by kernel_rfl) ⟨a8,hS,b7⟩ (fun β=>by rw [U9]; omega) (fun β=>by rw [show (t3 : Int).toNat * 1 = t3 by omega]; exact V4 (by omega)) W9 ?_))
 refine l8 6 ⟨a8,hS,b7⟩ (by kernel_rfl) (by kernel_rfl) (by kernel_rfl) ?_
 refine i1 3 (fun η=>(by kernel_rfl)) ?_
 refine h_1 (fun x0=>.one (.ag 12 x0)) (fun x0=>qtriG x0 ((onT (t3 : Int)))) (fun η=>(by kernel_rfl)) (fun _ _ _ h=>⟨h.ok,rfl⟩) (fun β η S w hS hs hw hG hd=>⟨_,(by kernel_rfl),at6 hS⟩) ?_
 refine h_1 (fun x0=>.one (.ag 12 x0)) (fun x0=>qtriG x0 (((gridM m).apply (onT (t3 : Int))))) (fun η=>(by kernel_rfl)) (fun _ _ _ h=>⟨h.ok,rfl⟩) (fun β η S w hS hs hw hG hd=>have hm:=hG.2.2.2.2.2.2.1; ⟨_,(by kernel_rfl),D8 hS hm (dep hd 3 (by kernel_rfl) (by kernel_rfl) : (qtriG (η 3) ((onT (t3 : Int)))).p S w) (F6 m) (au4 _) (by decide)⟩) ?_
 refine h_1 (fun x0=>.one (.ag 9 x0)) (fun x0=>triG x0 (((gridM m).apply (onT (t3 : Int))))) (fun η=>(by kernel_rfl)) (fun _ _ _ h=>⟨h.ok,rfl⟩) (fun β η S w hS hs hw hG hd=>⟨_,(by kernel_rfl),A0 hS (dep hd 4 (by kernel_rfl) (by kernel_rfl) : (qtriG (η 4) (((gridM m).apply (onT (t3 : Int))))).p S w) (A7 (Y1 _) (by decide)) (by decide)⟩) ?_
 refine l6 [true,false,false] ((triG (η_6 8) (((gridM m).apply (xT t2)))).and ((triG (η_5 5) (((gridM m).apply (onT (t2 : Int))))).and ((triG (η_4 8) (((gridM m).apply (yT t1)))).and ((triG (η_3 5) (((gridM m).apply (onT (t1 : Int))))).and ((triG (η_2 8) (((gridM m).apply (xT t0)))).and ((triG (η_1 5) (((gridM m).apply (onT (t0 : Int))))).and ((qmapG M ((gridM m))).and (Gh.nil)))))))) (by exact fun _ _ h=>⟨h.1,h.2.1,h.2.2.1,h.2.2.2.1,h.2.2.2.2.1,h.2.2.2.2.2.1,h.2.2.2.2.2.2.1,trivial⟩) (fun g η=>(triG (η 5) (((gridM m).apply (onT (t3 : Int))))).and g) (by kernel_rfl) (fun g η=>(by kernel_rfl)) ?_
 intro η_7
 refine I8 (ps:=[InR .i64 ((t3 : Int) + 1)]) ⟨a8,hS,b7⟩ (by kernel_rfl) (by simp only [AllT,InR,and_true]; omega) ?_
 refine l8 9 ⟨a8,hS,b7⟩ (by kernel_rfl) (by kernel_rfl) (by kernel_rfl) ?_
 refine i1 2 (fun η=>(by kernel_rfl)) ?_
 refine h_1 (fun x0=>.one (.ag 4 x0)) (fun x0=>qG x0 ((0 : Rat))) (fun η=>(by kernel_rfl)) (fun _ _ _ h=>⟨h.ok,rfl⟩) (fun β η S w hS hs hw hG hd=>⟨_,(by kernel_rfl),I7 hS⟩) ?_
 refine i1 1 (fun η=>(by kernel_rfl)) ?_
 refine h_1 (fun x0=>.one (.ag 4 x0)) (fun x0=>qG x0 ((((t3 : Int) + 1 : Int) : Rat))) (fun η=>(by kernel_rfl)) (fun _ _ _ h=>⟨h.ok,rfl⟩) (fun β η S w hS hs hw hG hd=>⟨_,(by kernel_rfl),F4 hS (by omega) (by omega)⟩) ?_
 refine h_1 (fun x0=>.one (.ag 4 x0)) (fun x0=>qG x0 ((1 : Rat))) (fun η=>(by kernel_rfl)) (fun _ _ _ h=>⟨h.ok,rfl⟩) (fun β η S w hS hs hw hG hd=>⟨_,(by kernel_rfl),G5 hS⟩) ?_
 refine S9 (fun x0=>.one (.ag 12 x0)) (fun x0=>qtriG x0 ((yT t3))) ⟨a8,hS,b7⟩ (fun η=>(by kernel_rfl)) (fun η=>(by kernel_rfl)) (fun β η S w hS hM hs hw hG hd=>have hF : (qtriG (tri4 (η 2) (η 4) (η 5)) ((yT t3))).p S w:=⟨_,_,_,rfl,(dep hd 2 (by kernel_rfl) (by kernel_rfl) : (qG (η 2) ((0 : Rat))).p S w),(dep hd 4 (by kernel_rfl) (by kernel_rfl) : (qG (η 4) ((((t3 : Int) + 1 : Int) : Rat))).p S w),(dep hd 5 (by kernel_rfl) (by kernel_rfl) : (qG (η 5) ((1 : Rat))).p S w)⟩; have hK : ∀ (x0 : Value) (S : Nat → Prop) (w : World),(qtriG x0 ((yT t3))).p S w → (.one (.ag 12 x0) : SV).Ok 0 ∧ (.one (.ag 12 x0) : SV).den (fun _=>0) = x0:=(fun _ _ _ h=>⟨h.ok,rfl⟩); ⟨(tri4 (η 2) (η 4) (η 5)),(by kernel_rfl),(hK _ S w hF).2.symm,(hK _ S w hF).1,hF⟩) ?_
 refine h_1 (fun x0=>.one (.ag 12 x0)) (fun x0=>qtriG x0 (((gridM m).apply (yT t3)))) (fun η=>(by kernel_rfl)) (fun _ _ _ h=>⟨h.ok,rfl⟩) (fun β η S w hS hs hw hG hd=>have hm:=hG.2.2.2.2.2.2.2.1; ⟨_,(by kernel_rfl),D8 hS hm (dep hd 6 (by kernel_rfl) (by kernel_rfl) : (qtriG (η 6) ((yT t3))).p S w) (F6 m) ((ae7 ht3).tl (by decide)) (by decide)⟩) ?_
 refine h_1 (fun x0=>.one (.ag 9 x0)) (fun x0=>triG x0 (((gridM m).apply (yT t3)))) (fun η=>(by kernel_rfl)) (fun _ _ _ h=>⟨h.ok,rfl⟩) (fun β η S w hS hs hw hG hd=>⟨_,(by kernel_rfl),A0 hS (dep hd 7 (by kernel_rfl) (by kernel_rfl) : (qtriG (η 7) (((gridM m).apply (yT t3)))).p S w) (A7 (ae7 ht3) (by decide)) (by decide)⟩) ?_
 refine l6 [true,false,false,false,false,false] ((triG (η_7 5) (((gridM m).apply (onT (t3 : Int))))).and ((triG (η_6 8) (((gridM m).apply (xT t2)))).and ((triG (η_5 5) (((gridM m).apply (onT (t2 : Int))))).and ((triG (η_4 8) (((gridM m).apply (yT t1)))).and ((triG (η_3 5) (((gridM m).apply (onT (t1 : Int))))).and ((triG (η_2 8) (((gridM m).apply (xT t0)))).and ((triG (η_1 5) (((gridM m).apply (onT (t0 : Int))))).and ((qmapG M ((gridM m))).and (Gh.nil))))))))) (by exact fun _ _ h=>⟨h.1,h.2.1,h.2.2.1,h.2.2.2.1,h.2.2.2.2.1,h.2.2.2.2.2.1,h.2.2.2.2.2.2.1,h.2.2.2.2.2.2.2.1,trivial⟩) (fun g η=>(triG (η 8) (((gridM m).apply (yT t3)))).and g) (by kernel_rfl) (fun g η=>(by kernel_rfl)) ?_
 intro η_8
 have B4:=H6 (n 4)
 have hT4:=ai6 (n 4)
 have hU4:=ai1 (n 4)
 have hf4:=ai2 (l:=((t3 :: (t2 :: (t1 :: (t0 :: [])))) : List Nat)) (E8 (n:=4) rfl (by decide))
 have hg4:=ac0 (l:=((t3 :: (t2 :: (t1 :: (t0 :: [])))) : List Nat)) (E8 (n:=4) rfl (by decide))
 refine A5 ⟨a8,hS,b7⟩ (by kernel_rfl) ?_
 refine s_K (.one (.int .i64 (small5 (n 4)))) ⟨a8,hS,b7⟩ (by kernel_rfl) (by kernel_rfl) (j9 rfl) rfl (fun β S w hS hs hw hG=>⟨_,(by kernel_rfl),N4 hS⟩) ?_
 refine I8 (ps:=[InR .i64 (small5 (n 4) + 5)]) ⟨a8,hS,b7⟩ (by kernel_rfl) (by simp only [AllT,InR,and_true]; omega) ?_
 refine q7 ⟨a8,hS,b7⟩ (by kernel_rfl) (P9 10 (small5 (n 4) + 5) ((s5N (n 4) : Int)) (by kernel_rfl) (hT4.symm) ?_)
 refine H2 (ι:=Nat) [(10,10),(45,50)] (fun t4=>[(10,.one (.int .i64 (t4 : Int)))]) (fun _=>[]) (fun t4=>((triG (η_8 8) (((gridM m).apply (yT t3)))).and ((triG (η_7 5) (((gridM m).apply (onT (t3 : Int))))).and ((triG (η_6 8) (((gridM m).apply (xT t2)))).and ((triG (η_5 5) (((gridM m).apply (onT (t2 : Int))))).and ((triG (η_4 8) (((gridM m).apply (yT t1)))).and ((triG (η_3 5) (((gridM m).apply (onT (t1 : Int))))).and ((triG (η_2 8) (((gridM m).apply (xT t0)))).and ((triG (η_1 5) (((gridM m).apply (onT (t0 : Int))))).and ((qmapG M ((gridM m))).and (Gh.nil))))))))))) (fun t4=>t4 < 11) (fun t4=>(frN ((t3 :: (t2 :: (t1 :: (t0 :: [])))) : List Nat) (E8 (n:=4) rfl (by decide)) + 11 - t4) % 11) (s5N (n 4)) ⟨a8,hS,b7⟩ (by kernel_rfl) (by kernel_rfl) (fun β=>(by kernel_rfl)) (fun β=>(by kernel_rfl)) (by kernel_rfl) (hU4) (fun S w hw hG=>⟨s9 rfl,fun p hp=>by cases hp⟩) (fun S w hw hG=>hG) (fun hso t4 ht4=>?_)
 refine q7 ⟨a8,hS,b7⟩ (by kernel_rfl) (Y2 5 11 (t4 : Int) 1 (by kernel_rfl) (Nat.le_of_ble_eq_true (by kernel_rfl)) ⟨a8,hS,b7⟩ (by omega) (by omega) (av5 5 ((t4 : Int).toNat * 1) 65 (usedL (t3 :: (t2 :: (t1 :: (t0 :: []))))) (.tp (t4 ∈ ((t3 :: (t2 :: (t1 :: (t0 :: [])))) : List Nat))) (by kernel_rfl) (by kernel_rfl) ⟨a8,hS,b7⟩ (fun β=>by rw [show (t4 : Int).toNat * 1 = t4 by omega]; exact aa9 (by omega)) trivial ?_))
 by_cases u4 : t4 ∈ ((t3 :: (t2 :: (t1 :: (t0 :: [])))) : List Nat)
 ·have q4 : t4 ≠ frN ((t3 :: (t2 :: (t1 :: (t0 :: [])))) : List Nat) (E8 (n:=4) rfl (by decide)):=fun e=>hg4 (e ▸ u4)
  refine R9 (p:=t4 ∈ ((t3 :: (t2 :: (t1 :: (t0 :: [])))) : List Nat)) ⟨a8,hS,b7⟩ (by kernel_rfl) (by kernel_rfl) (by kernel_rfl) (u4) ?_
  refine I8 (ps:=[0 ≤ (t4 : Int) + 1 ∧ (0 : Int) < 11,InR .i64 ((t4 : Int) + 1)]) ⟨a8,hS,b7⟩ (by kernel_rfl) (by simp only [AllT,InR,and_true]; omega) ?_
  refine q7 ⟨a8,hS,b7⟩ (by kernel_rfl) (P9 10 (((t4 : Int) + 1) % 11) ((((t4 + 1) % 11 : Nat) : Int)) (by kernel_rfl) (by omega) ?_)
  exact F7 ((t4 + 1) % 11) ⟨a8,hS,b7⟩ hso (by kernel_rfl) (by kernel_rfl) (fun β=>(by kernel_rfl)) (fun β=>(by kernel_rfl)) (by kernel_rfl) (by omega) (by omega) (fun S w hw hG=>⟨s9 rfl,fun p hp=>by cases hp⟩) (fun S w hw hG=>hG)
 refine I5 (p:=t4 ∈ ((t3 :: (t2 :: (t1 :: (t0 :: [])))) : List Nat)) ⟨a8,hS,b7⟩ (by kernel_rfl) (by kernel_rfl) (by kernel_rfl) (u4) ?_
 refine I6 ⟨a8,hS,b7⟩ (by kernel_rfl) (by kernel_rfl) ?_
 refine q7 ⟨a8,hS,b7⟩ (by kernel_rfl) (Y2 5 11 (t4 : Int) 1 (by kernel_rfl) (Nat.le_of_ble_eq_true (by kernel_rfl)) ⟨a8,hS,b7⟩ (by omega) (by omega) (av1 5 ((t4 : Int).toNat * 1) 1 [.bb true] 65 (usedL (t3 :: (t2 :: (t1 :: (t0 :: []))))) (usedL (t4 :: (t3 :: (t2 :: (t1 :: (t0 :: [])))))) (by kernel_rfl) (by kernel_rfl) ⟨a8,hS,b7⟩ (fun β=>by rw [U9]; omega) (fun β=>by rw [show (t4 : Int).toNat * 1 = t4 by omega]; exact V4 (by omega)) W9 ?_))
 refine l8 6 ⟨a8,hS,b7⟩ (by kernel_rfl) (by kernel_rfl) (by kernel_rfl) ?_
 refine i1 3 (fun η=>(by kernel_rfl)) ?_
 refine h_1 (fun x0=>.one (.ag 12 x0)) (fun x0=>qtriG x0 ((onT (t4 : Int)))) (fun η=>(by kernel_rfl)) (fun _ _ _ h=>⟨h.ok,rfl⟩) (fun β η S w hS hs hw hG hd=>⟨_,(by kernel_rfl),at6 hS⟩) ?_
 refine h_1 (fun x0=>.one (.ag 12 x0)) (fun x0=>qtriG x0 (((gridM m).apply (onT (t4 : Int))))) (fun η=>(by kernel_rfl)) (fun _ _ _ h=>⟨h.ok,rfl⟩) (fun β η S w hS hs hw hG hd=>have hm:=hG.2.2.2.2.2.2.2.2.1; ⟨_,(by kernel_rfl),D8 hS hm (dep hd 3 (by kernel_rfl) (by kernel_rfl) : (qtriG (η 3) ((onT (t4 : Int)))).p S w) (F6 m) (au4 _) (by decide)⟩) ?_
 refine h_1 (fun x0=>.one (.ag 9 x0)) (fun x0=>triG x0 (((gridM m).apply (onT (t4 : Int))))) (fun η=>(by kernel_rfl)) (fun _ _ _ h=>⟨h.ok,rfl⟩) (fun β η S w hS hs hw hG hd=>⟨_,(by kernel_rfl),A0 hS (dep hd 4 (by kernel_rfl) (by kernel_rfl) : (qtriG (η 4) (((gridM m).apply (onT (t4 : Int))))).p S w) (A7 (Y1 _) (by decide)) (by decide)⟩) ?_
 refine l6 [true,false,false] ((triG (η_8 8) (((gridM m).apply (yT t3)))).and ((triG (η_7 5) (((gridM m).apply (onT (t3 : Int))))).and ((triG (η_6 8) (((gridM m).apply (xT t2)))).and ((triG (η_5 5) (((gridM m).apply (onT (t2 : Int))))).and ((triG (η_4 8) (((gridM m).apply (yT t1)))).and ((triG (η_3 5) (((gridM m).apply (onT (t1 : Int))))).and ((triG (η_2 8) (((gridM m).apply (xT t0)))).and ((triG (η_1 5) (((gridM m).apply (onT (t0 : Int))))).and ((qmapG M ((gridM m))).and (Gh.nil)))))))))) (by exact fun _ _ h=>⟨h.1,h.2.1,h.2.2.1,h.2.2.2.1,h.2.2.2.2.1,h.2.2.2.2.2.1,h.2.2.2.2.2.2.1,h.2.2.2.2.2.2.2.1,h.2.2.2.2.2.2.2.2.1,trivial⟩) (fun g η=>(triG (η 5) (((gridM m).apply (onT (t4 : Int))))).and g) (by kernel_rfl) (fun g η=>(by kernel_rfl)) ?_
 intro η_9
 refine I8 (ps:=[InR .i64 ((t4 : Int) + 1)]) ⟨a8,hS,b7⟩ (by kernel_rfl) (by simp only [AllT,InR,and_true]; omega) ?_
 refine l8 9 ⟨a8,hS,b7⟩ (by kernel_rfl) (by kernel_rfl) (by kernel_rfl) ?_
 refine i1 3 (fun η=>(by kernel_rfl)) ?_
 refine h_1 (fun x0=>.one (.ag 4 x0)) (fun x0=>qG x0 ((((t4 : Int) + 1 : Int) : Rat))) (fun η=>(by kernel_rfl)) (fun _ _ _ h=>⟨h.ok,rfl⟩) (fun β η S w hS hs hw hG hd=>⟨_,(by kernel_rfl),F4 hS (by omega) (by omega)⟩) ?_
 refine h_1 (fun x0=>.one (.ag 4 x0)) (fun x0=>qG x0 ((0 : Rat))) (fun η=>(by kernel_rfl)) (fun _ _ _ h=>⟨h.ok,rfl⟩) (fun β η S w hS hs hw hG hd=>⟨_,(by kernel_rfl),I7 hS⟩) ?_
 refine h_1 (fun x0=>.one (.ag 4 x0)) (fun x0=>qG x0 ((1 : Rat))) (fun η=>(by kernel_rfl)) (fun _ _ _ h=>⟨h.ok,rfl⟩) (fun β η S w hS hs hw hG hd=>⟨_,(by kernel_rfl),G5 hS⟩) ?_
 refine S9 (fun x0=>.one (.ag 12 x0)) (fun x0=>qtriG x0 ((xT t4))) ⟨a8,hS,b7⟩ (fun η=>(by kernel_rfl)) (fun η=>(by kernel_rfl)) (fun β η S w hS hM hs hw hG hd=>have hF : (qtriG (tri4 (η 3) (η 4) (η 5)) ((xT t4))).p S w:=⟨_,_,_,rfl,(dep hd 3 (by kernel_rfl) (by kernel_rfl) : (qG (η 3) ((((t4 : Int) + 1 : Int) : Rat))).p S w),(dep hd 4 (by kernel_rfl) (by kernel_rfl) : (qG (η 4) ((0 : Rat))).p S w),(dep hd 5 (by kernel_rfl) (by kernel_rfl) : (qG (η 5) ((1 : Rat))).p S w)⟩; have hK : ∀ (x0 : Value) (S : Nat → Prop) (w : World),(qtriG x0 ((xT t4))).p S w → (.one (.ag 12 x0) : SV).Ok 0 ∧ (.one (.ag 12 x0) : SV).den (fun _=>0) = x0:=(fun _ _ _ h=>⟨h.ok,rfl⟩); ⟨(tri4 (η 3) (η 4) (η 5)),(by kernel_rfl),(hK _ S w hF).2.symm,(hK _ S w hF).1,hF⟩) ?_
 refine h_1 (fun x0=>.one (.ag 12 x0)) (fun x0=>qtriG x0 (((gridM m).apply (xT t4)))) (fun η=>(by kernel_rfl)) (fun _ _ _ h=>⟨h.ok,rfl⟩) (fun β η S w hS hs hw hG hd=>have hm:=hG.2.2.2.2.2.2.2.2.2.1; ⟨_,(by kernel_rfl),D8 hS hm (dep hd 6 (by kernel_rfl) (by kernel_rfl) : (qtriG (η 6) ((xT t4))).p S w) (F6 m) ((ag8 ht4).tl (by decide)) (by decide)⟩) ?_
 refine h_1 (fun x0=>.one (.ag 9 x0)) (fun x0=>triG x0 (((gridM m).apply (xT t4)))) (fun η=>(by kernel_rfl)) (fun _ _ _ h=>⟨h.ok,rfl⟩) (fun β η S w hS hs hw hG hd=>⟨_,(by kernel_rfl),A0 hS (dep hd 7 (by kernel_rfl) (by kernel_rfl) : (qtriG (η 7) (((gridM m).apply (xT t4)))).p S w) (A7 (ag8 ht4) (by decide)) (by decide)⟩) ?_
 refine l6 [true,false,false,false,false,false] ((triG (η_9 5) (((gridM m).apply (onT (t4 : Int))))).and ((triG (η_8 8) (((gridM m).apply (yT t3)))).and ((triG (η_7 5) (((gridM m).apply (onT (t3 : Int))))).and ((triG (η_6 8) (((gridM m).apply (xT t2)))).and ((triG (η_5 5) (((gridM m).apply (onT (t2 : Int))))).and ((triG (η_4 8) (((gridM m).apply (yT t1)))).and ((triG (η_3 5) (((gridM m).apply (onT (t1 : Int))))).and ((triG (η_2 8) (((gridM m).apply (xT t0)))).and ((triG (η_1 5) (((gridM m).apply (onT (t0 : Int))))).and ((qmapG M ((gridM m))).and (Gh.nil))))))))))) (by exact fun _ _ h=>⟨h.1,h.2.1,h.2.2.1,h.2.2.2.1,h.2.2.2.2.1,h.2.2.2.2.2.1,h.2.2.2.2.2.2.1,h.2.2.2.2.2.2.2.1,h.2.2.2.2.2.2.2.2.1,h.2.2.2.2.2.2.2.2.2.1,trivial⟩) (fun g η=>(triG (η 8) (((gridM m).apply (xT t4)))).and g) (by kernel_rfl) (fun g η=>(by kernel_rfl)) ?_
 intro η_10
 have B5:=H6 (n 5)
 have hT5:=ai6 (n 5)
 have hU5:=ai1 (n 5)
 have hf5:=ai2 (l:=((t4 :: (t3 :: (t2 :: (t1 :: (t0 :: []))))) : List Nat)) (E8 (n:=5) rfl (by decide))
 have hg5:=ac0 (l:=((t4 :: (t3 :: (t2 :: (t1 :: (t0 :: []))))) : List Nat)) (E8 (n:=5) rfl (by decide))
 refine A5 ⟨a8,hS,b7⟩ (by kernel_rfl) ?_
 refine s_K (.one (.int .i64 (small5 (n 5)))) ⟨a8,hS,b7⟩ (by kernel_rfl) (by kernel_rfl) (j9 rfl) rfl (fun β S w hS hs hw hG=>⟨_,(by kernel_rfl),N4 hS⟩) ?_
 refine I8 (ps:=[InR .i64 (small5 (n 5) + 5)]) ⟨a8,hS,b7⟩ (by kernel_rfl) (by simp only [AllT,InR,and_true]; omega) ?_
 refine q7 ⟨a8,hS,b7⟩ (by kernel_rfl) (P9 10 (small5 (n 5) + 5) ((s5N (n 5) : Int)) (by kernel_rfl) (hT5.symm) ?_)
 refine H2 (ι:=Nat) [(10,10),(45,50)] (fun t5=>[(10,.one (.int .i64 (t5 : Int)))]) (fun _=>[]) (fun t5=>((triG (η_10 8) (((gridM m).apply (xT t4)))).and ((triG (η_9 5) (((gridM m).apply (onT (t4 : Int))))).and ((triG (η_8 8) (((gridM m).apply (yT t3)))).and ((triG (η_7 5) (((gridM m).apply (onT (t3 : Int))))).and ((triG (η_6 8) (((gridM m).apply (xT t2)))).and ((triG (η_5 5) (((gridM m).apply (onT (t2 : Int))))).and ((triG (η_4 8) (((gridM m).apply (yT t1)))).and ((triG (η_3 5) (((gridM m).apply (onT (t1 : Int))))).and ((triG (η_2 8) (((gridM m).apply (xT t0)))).and ((triG (η_1 5) (((gridM m).apply (onT (t0 : Int))))).and ((qmapG M ((gridM m))).and (Gh.nil))))))))))))) (fun t5=>t5 < 11) (fun t5=>(frN ((t4 :: (t3 :: (t2 :: (t1 :: (t0 :: []))))) : List Nat) (E8 (n:=5) rfl (by decide)) + 11 - t5) % 11) (s5N (n 5)) ⟨a8,hS,b7⟩ (by kernel_rfl) (by kernel_rfl) (fun β=>(by kernel_rfl)) (fun β=>(by kernel_rfl)) (by kernel_rfl) (hU5) (fun S w hw hG=>⟨s9 rfl,fun p hp=>by cases hp⟩) (fun S w hw hG=>hG) (fun hso t5 ht5=>?_)
 refine q7 ⟨a8,hS,b7⟩ (by kernel_rfl) (Y2 5 11 (t5 : Int) 1 (by kernel_rfl) (Nat.le_of_ble_eq_true (by kernel_rfl)) ⟨a8,hS,b7⟩ (by omega) (by omega) (av5 5 ((t5 : Int).toNat * 1) 65 (usedL (t4 :: (t3 :: (t2 :: (t1 :: (t0 :: [])))))) (.tp (t5 ∈ ((t4 :: (t3 :: (t2 :: (t1 :: (t0 :: []))))) : List Nat))) (by kernel_rfl) (by kernel_rfl) ⟨a8,hS,b7⟩ (fun β=>by rw [show (t5 : Int).toNat * 1 = t5 by omega]; exact aa9 (by omega)) trivial ?_))
 by_cases u5 : t5 ∈ ((t4 :: (t3 :: (t2 :: (t1 :: (t0 :: []))))) : List Nat)
 ·have q5 : t5 ≠ frN ((t4 :: (t3 :: (t2 :: (t1 :: (t0 :: []))))) : List Nat) (E8 (n:=5) rfl (by decide)):=fun e=>hg5 (e ▸ u5)
  refine R9 (p:=t5 ∈ ((t4 :: (t3 :: (t2 :: (t1 :: (t0 :: []))))) : List Nat)) ⟨a8,hS,b7⟩ (by kernel_rfl) (by kernel_rfl) (by kernel_rfl) (u5) ?_
  refine I8 (ps:=[0 ≤ (t5 : Int) + 1 ∧ (0 : Int) < 11,InR .i64 ((t5 : Int) + 1)]) ⟨a8,hS,b7⟩ (by kernel_rfl) (by simp only [AllT,InR,and_true]; omega) ?_
  refine q7 ⟨a8,hS,b7⟩ (by kernel_rfl) (P9 10 (((t5 : Int) + 1) % 11) ((((t5 + 1) % 11 : Nat) : Int)) (by kernel_rfl) (by omega) ?_)
  exact F7 ((t5 + 1) % 11) ⟨a8,hS,b7⟩ hso (by kernel_rfl) (by kernel_rfl) (fun β=>(by kernel_rfl)) (fun β=>(by kernel_rfl)) (by kernel_rfl) (by omega) (by omega) (fun S w hw hG=>⟨s9 rfl,fun p hp=>by cases hp⟩) (fun S w hw hG=>hG)
 refine I5 (p:=t5 ∈ ((t4 :: (t3 :: (t2 :: (t1 :: (t0 :: []))))) : List Nat)) ⟨a8,hS,b7⟩ (by kernel_rfl) (by kernel_rfl) (by kernel_rfl) (u5) ?_
 refine I6 ⟨a8,hS,b7⟩ (by kernel_rfl) (by kernel_rfl) ?_
 refine q7 ⟨a8,hS,b7⟩ (by kernel_rfl) (Y2 5 11 (t5 : Int) 1 (by kernel_rfl) (Nat.le_of_ble_eq_true (by kernel_rfl)) ⟨a8,hS,b7⟩ (by omega) (by omega) (av1 5 ((t5 : Int).toNat * 1) 1 [.bb true] 65 (usedL (t4 :: (t3 :: (t2 :: (t1 :: (t0 :: [])))))) (usedL (t5 :: (t4 :: (t3 :: (t2 :: (t1 :: (t0 :: []))))))) (by kernel_rfl) (by kernel_rfl) ⟨a8,hS,b7⟩ (fun β=>by rw [U9]; omega) (fun β=>by rw [show (t5 : Int).toNat * 1 = t5 by omega]; exact V4 (by omega)) W9 ?_))
 refine l8 6 ⟨a8,hS,b7⟩ (by kernel_rfl) (by kernel_rfl) (by kernel_rfl) ?_
 refine i1 3 (fun η=>(by kernel_rfl)) ?_
 refine h_1 (fun x0=>.one (.ag 12 x0)) (fun x0=>qtriG x0 ((onT (t5 : Int)))) (fun η=>(by kernel_rfl)) (fun _ _ _ h=>⟨h.ok,rfl⟩) (fun β η S w hS hs hw hG hd=>⟨_,(by kernel_rfl),at6 hS⟩) ?_
 refine h_1 (fun x0=>.one (.ag 12 x0)) (fun x0=>qtriG x0 (((gridM m).apply (onT (t5 : Int))))) (fun η=>(by kernel_rfl)) (fun _ _ _ h=>⟨h.ok,rfl⟩) (fun β η S w hS hs hw hG hd=>have hm:=hG.2.2.2.2.2.2.2.2.2.2.1; ⟨_,(by kernel_rfl),D8 hS hm (dep hd 3 (by kernel_rfl) (by kernel_rfl) : (qtriG (η 3) ((onT (t5 : Int)))).p S w) (F6 m) (au4 _) (by decide)⟩) ?_
 refine h_1 (fun x0=>.one (.ag 9 x0)) (fun x0=>triG x0 (((gridM m).apply (onT (t5 : Int))))) (fun η=>(by kernel_rfl)) (fun _ _ _ h=>⟨h.ok,rfl⟩) (fun β η S w hS hs hw hG hd=>⟨_,(by kernel_rfl),A0 hS (dep hd 4 (by kernel_rfl) (by kernel_rfl) : (qtriG (η 4) (((gridM m).apply (onT (t5 : Int))))).p S w) (A7 (Y1 _) (by decide)) (by decide)⟩) ?_
 refine l6 [true,false,false] ((triG (η_10 8) (((gridM m).apply (xT t4)))).and ((triG (η_9 5) (((gridM m).apply (onT (t4 : Int))))).and ((triG (η_8 8) (((gridM m).apply (yT t3)))).and ((triG (η_7 5) (((gridM m).apply (onT (t3 : Int))))).and ((triG (η_6 8) (((gridM m).apply (xT t2)))).and ((triG (η_5 5) (((gridM m).apply (onT (t2 : Int))))).and ((triG (η_4 8) (((gridM m).apply (yT t1)))).and ((triG (η_3 5) (((gridM m).apply (onT (t1 : Int))))).and ((triG (η_2 8) (((gridM m).apply (xT t0)))).and ((triG (η_1 5) (((gridM m).apply (onT (t0 : Int))))).and ((qmapG M ((gridM m))).and (Gh.nil)))))))))))) (by exact fun _ _ h=>⟨h.1,h.2.1,h.2.2.1,h.2.2.2.1,h.2.2.2.2.1,h.2.2.2.2.2.1,h.2.2.2.2.2.2.1,h.2.2.2.2.2.2.2.1,h.2.2.2.2.2.2.2.2.1,h.2.2.2.2.2.2.2.2.2.1,h.2.2.2.2.2.2.2.2.2.2.1,trivial⟩) (fun g η=>(triG (η 5) (((gridM m).apply (onT (t5 : Int))))).and g) (by kernel_rfl) (fun g η=>(by kernel_rfl)) ?_
 intro η_11
 refine I8 (ps:=[InR .i64 ((t5 : Int) + 1)]) ⟨a8,hS,b7⟩ (by kernel_rfl) (by simp only [AllT,InR,and_true]; omega) ?_
 refine l8 9 ⟨a8,hS,b7⟩ (by kernel_rfl) (by kernel_rfl) (by kernel_rfl) ?_
 refine i1 2 (fun η=>(by kernel_rfl)) ?_
 refine h_1 (fun x0=>.one (.ag 4 x0)) (fun x0=>qG x0 ((0 : Rat))) (fun η=>(by kernel_rfl)) (fun _ _ _ h=>⟨h.ok,rfl⟩) (fun β η S w hS hs hw hG hd=>⟨_,(by kernel_rfl),I7 hS⟩) ?_
 refine i1 1 (fun η=>(by kernel_rfl)) ?_
 refine h_1 (fun x0=>.one (.ag 4 x0)) (fun x0=>qG x0 ((((t5 : Int) + 1 : Int) : Rat))) (fun η=>(by kernel_rfl)) (fun _ _ _ h=>⟨h.ok,rfl⟩) (fun β η S w hS hs hw hG hd=>⟨_,(by kernel_rfl),F4 hS (by omega) (by omega)⟩) ?_
 refine h_1 (fun x0=>.one (.ag 4 x0)) (fun x0=>qG x0 ((1 : Rat))) (fun η=>(by kernel_rfl)) (fun _ _ _ h=>⟨h.ok,rfl⟩) (fun β η S w hS hs hw hG hd=>⟨_,(by kernel_rfl),G5 hS⟩) ?_
 refine S9 (fun x0=>.one (.ag 12 x0)) (fun x0=>qtriG x0 ((yT t5))) ⟨a8,hS,b7⟩ (fun η=>(by kernel_rfl)) (fun η=>(by kernel_rfl)) (fun β η S w hS hM hs hw hG hd=>have hF : (qtriG (tri4 (η 2) (η 4) (η 5)) ((yT t5))).p S w:=⟨_,_,_,rfl,(dep hd 2 (by kernel_rfl) (by kernel_rfl) : (qG (η 2) ((0 : Rat))).p S w),(dep hd 4 (by kernel_rfl) (by kernel_rfl) : (qG (η 4) ((((t5 : Int) + 1 : Int) : Rat))).p S w),(dep hd 5 (by kernel_rfl) (by kernel_rfl) : (qG (η 5) ((1 : Rat))).p S w)⟩; have hK : ∀ (x0 : Value) (S : Nat → Prop) (w : World),(qtriG x0 ((yT t5))).p S w → (.one (.ag 12 x0) : SV).Ok 0 ∧ (.one (.ag 12 x0) : SV).den (fun _=>0) = x0:=(fun _ _ _ h=>⟨h.ok,rfl⟩); ⟨(tri4 (η 2) (η 4) (η 5)),(by kernel_rfl),(hK _ S w hF).2.symm,(hK _ S w hF).1,hF⟩) ?_
 refine h_1 (fun x0=>.one (.ag 12 x0)) (fun x0=>qtriG x0 (((gridM m).apply (yT t5)))) (fun η=>(by kernel_rfl)) (fun _ _ _ h=>⟨h.ok,rfl⟩) (fun β η S w hS hs hw hG hd=>have hm:=hG.2.2.2.2.2.2.2.2.2.2.2.1; ⟨_,(by kernel_rfl),D8 hS hm (dep hd 6 (by kernel_rfl) (by kernel_rfl) : (qtriG (η 6) ((yT t5))).p S w) (F6 m) ((ae7 ht5).tl (by decide)) (by decide)⟩) ?_
 refine h_1 (fun x0=>.one (.ag 9 x0)) (fun x0=>triG x0 (((gridM m).apply (yT t5)))) (fun η=>(by kernel_rfl)) (fun _ _ _ h=>⟨h.ok,rfl⟩) (fun β η S w hS hs hw hG hd=>⟨_,(by kernel_rfl),A0 hS (dep hd 7 (by kernel_rfl) (by kernel_rfl) : (qtriG (η 7) (((gridM m).apply (yT t5)))).p S w) (A7 (ae7 ht5) (by decide)) (by decide)⟩) ?_
 refine l6 [true,false,false,false,false,false] ((triG (η_11 5) (((gridM m).apply (onT (t5 : Int))))).and ((triG (η_10 8) (((gridM m).apply (xT t4)))).and ((triG (η_9 5) (((gridM m).apply (onT (t4 : Int))))).and ((triG (η_8 8) (((gridM m).apply (yT t3)))).and ((triG (η_7 5) (((gridM m).apply (onT (t3 : Int))))).and ((triG (η_6 8) (((gridM m).apply (xT t2)))).and ((triG (η_5 5) (((gridM m).apply (onT (t2 : Int))))).and ((triG (η_4 8) (((gridM m).apply (yT t1)))).and ((triG (η_3 5) (((gridM m).apply (onT (t1 : Int))))).and ((triG (η_2 8) (((gridM m).apply (xT t0)))).and ((triG (η_1 5) (((gridM m).apply (onT (t0 : Int))))).and ((qmapG M ((gridM m))).and (Gh.nil))))))))))))) (by exact fun _ _ h=>⟨h.1,h.2.1,h.2.2.1,h.2.2.2.1,h.2.2.2.2.1,h.2.2.2.2.2.1,h.2.2.2.2.2.2.1,h.2.2.2.2.2.2.2.1,h.2.2.2.2.2.2.2.2.1,h.2.2.2.2.2.2.2.2.2.1,h.2.2.2.2.2.2.2.2.2.2.1,h.2.2.2.2.2.2.2.2.2.2.2.1,trivial⟩) (fun g η=>(triG (η 8) (((gridM m).apply (yT t5)))).and g) (by kernel_rfl) (fun g η=>(by kernel_rfl)) ?_
 intro η_12
 have F:=b04 (m:=m) ht0 ht1 ht2 ht3 ht4 ht5 u1 u2 u3 u4 u5
 refine s_1 (fun x0=>pr (.ag 9 (tupAt x0)) (.lit .i64 0)) (fun x0=>ttryG x0 ((onS m t0 t1 t2 t3 t4 t5).line) 0) ⟨a8,hS,b7⟩ (by kernel_rfl) (by kernel_rfl) (fun _ _ _ h=>M8 h) (fun β S w hS hs hw hG=>have s5:=hG.2.1; have s4:=hG.2.2.2.1; have s3:=hG.2.2.2.2.2.1; have s2:=hG.2.2.2.2.2.2.2.1; have s1:=hG.2.2.2.2.2.2.2.2.2.1; have s0:=hG.2.2.2.2.2.2.2.2.2.2.2.1; ⟨_,(by kernel_rfl),(as5 (ht.to hw) hS (by2 (s:=onS m t0 t1 t2 t3 t4 t5) s0 s1 s2 s3 s4 s5) F.1.few (by decide) F.1.bad F.1.ok)⟩) ?_
 intro r1
 refine s_1 (fun x0=>pr (.ag 9 (tupAt x0)) (.lit .i64 0)) (fun x0=>ttryG x0 ((xyS m t0 t1 t2 t3 t4 t5).line) 0) ⟨a8,hS,b7⟩ (by kernel_rfl) (by kernel_rfl) (fun _ _ _ h=>M8 h) (fun β S w hS hs hw hG=>have g5t:=hG.2.1; have g4t:=hG.2.2.2.1; have g3t:=hG.2.2.2.2.2.1; have g2t:=hG.2.2.2.2.2.2.2.1; have g1t:=hG.2.2.2.2.2.2.2.2.2.1; have g0t:=hG.2.2.2.2.2.2.2.2.2.2.2.1; ⟨_,(by kernel_rfl),(as5 (ht.to hw) hS (by2 (s:=xyS m t0 t1 t2 t3 t4 t5) g0t g1t g2t g3t g4t g5t) F.2.few (by decide) F.2.bad F.2.ok)⟩) ?_
 intro r2
 refine s_K (.one (.bb false)) ⟨a8,hS,b7⟩ (by kernel_rfl) (by kernel_rfl) (j9 rfl) rfl (fun β S w hS hs hw hG=>have hx:=hG.2.1; ⟨_,(by kernel_rfl),bj5 hS hx.2 (Six6.line_ne F.1.ok)⟩) ?_
 refine s_K (.one (.bb false)) ⟨a8,hS,b7⟩ (by kernel_rfl) (by kernel_rfl) (j9 rfl) rfl (fun β S w hS hs hw hG=>have hy:=hG.1; ⟨_,(by kernel_rfl),bj5 hS hy.2 (Six6.line_ne F.2.ok)⟩) ?_
 have hw0:=P6 (n 0)
 have bx0 : 2 ≤ (2 + IntKind.u64.wrap (n 0) % 5 + 0) ∧ (2 + IntKind.u64.wrap (n 0) % 5 + 0) ≤ 20:=by omega
 have hw1:=P6 (n 1)
 have bx1 : 2 ≤ (2 + IntKind.u64.wrap (n 1) % 5 + 7) ∧ (2 + IntKind.u64.wrap (n 1) % 5 + 7) ≤ 20:=by omega
 have hw2:=P6 (n 2)
 have bx2 : 2 ≤ (2 + IntKind.u64.wrap (n 2) % 5 + 14) ∧ (2 + IntKind.u64.wrap (n 2) % 5 + 14) ≤ 20:=by omega
 have D:=bq8 (ar6 m) (ax2 m) bx0 bx1 bx2
 refine cp4 (ps:=[InR .i64 (2 + IntKind.u64.wrap (n 2) % 5 + 14),InR .u64 (2 + IntKind.u64.wrap (n 2) % 5 + 14),InR .u64 (2 + IntKind.u64.wrap (n 2) % 5),0 ≤ IntKind.u64.wrap (n 2) ∧ (0 : Int) < 5,InR .i64 (2 + IntKind.u64.wrap (n 1) % 5 + 7),InR .u64 (2 + IntKind.u64.wrap (n 1) % 5 + 7),InR .u64 (2 + IntKind.u64.wrap (n 1) % 5),0 ≤ IntKind.u64.wrap (n 1) ∧ (0 : Int) < 5,InR .i64 (2 + IntKind.u64.wrap (n 0) % 5 + 0),InR .u64 (2 + IntKind.u64.wrap (n 0) % 5 + 0),InR .u64 (2 + IntKind.u64.wrap (n 0) % 5),0 ≤ IntKind.u64.wrap (n 0) ∧ (0 : Int) < 5]) ⟨a8,hS,b7⟩ (by kernel_rfl) (by simp only [AllT,InR,and_true]; omega) ?_
 refine s_1 (fun x0=>.one (.ag 4 x0)) (fun x0=>qG x0 ((0 : Rat))) ⟨a8,hS,b7⟩ (by kernel_rfl) (by kernel_rfl) (fun _ _ _ h=>⟨h.ok,rfl⟩) (fun β S w hS hs hw hG=>⟨_,(by kernel_rfl),I7 hS⟩) ?_
 intro yzA0
 refine s_1 (fun x0=>.one (.ag 4 x0)) (fun x0=>qG x0 ((0 : Rat))) ⟨a8,hS,b7⟩ (by kernel_rfl) (by kernel_rfl) (fun _ _ _ h=>⟨h.ok,rfl⟩) (fun β S w hS hs hw hG=>⟨_,(by kernel_rfl),I7 hS⟩) ?_
 intro yzB0
 refine s_1 (fun x0=>.one (.ag 4 x0)) (fun x0=>qG x0 ((0 : Rat))) ⟨a8,hS,b7⟩ (by kernel_rfl) (by kernel_rfl) (fun _ _ _ h=>⟨h.ok,rfl⟩) (fun β S w hS hs hw hG=>⟨_,(by kernel_rfl),I7 hS⟩) ?_
 intro yzC0
 refine s_1 (fun x0=>.one (.ag 4 x0)) (fun x0=>qG x0 ((1 : Rat))) ⟨a8,hS,b7⟩ (by kernel_rfl) (by kernel_rfl) (fun _ _ _ h=>⟨h.ok,rfl⟩) (fun β S w hS hs hw hG=>⟨_,(by kernel_rfl),G5 hS⟩) ?_
 intro yu0
 refine s_1 (fun x0=>.one (.ag 4 x0)) (fun x0=>qG x0 ((1 : Rat))) ⟨a8,hS,b7⟩ (by kernel_rfl) (by kernel_rfl) (fun _ _ _ h=>⟨h.ok,rfl⟩) (fun β S w hS hs hw hG=>⟨_,(by kernel_rfl),G5 hS⟩) ?_
 intro ywA0
 refine s_1 (fun x0=>.one (.ag 4 x0)) (fun x0=>qG x0 ((1 : Rat))) ⟨a8,hS,b7⟩ (by kernel_rfl) (by kernel_rfl) (fun _ _ _ h=>⟨h.ok,rfl⟩) (fun β S w hS hs hw hG=>⟨_,(by kernel_rfl),G5 hS⟩) ?_
 intro ywB0
 refine s_1 (fun x0=>.one (.ag 4 x0)) (fun x0=>qG x0 ((1 : Rat))) ⟨a8,hS,b7⟩ (by kernel_rfl) (by kernel_rfl) (fun _ _ _ h=>⟨h.ok,rfl⟩) (fun β S w hS hs hw hG=>⟨_,(by kernel_rfl),G5 hS⟩) ?_
 intro ywC0
 refine s_1 (fun x0=>.one (.ag 4 x0)) (fun x0=>qG x0 ((((2 + IntKind.u64.wrap (n 0) % 5 + 0) : Int) : Rat))) ⟨a8,hS,b7⟩ (by kernel_rfl) (by kernel_rfl) (fun _ _ _ h=>⟨h.ok,rfl⟩) (fun β S w hS hs hw hG=>⟨_,(by kernel_rfl),F4 hS (by omega) (by omega)⟩) ?_
 intro yx0
 refine ah4 [9] 12 ⟨a8,hS,b7⟩ (by kernel_rfl) (by kernel_rfl) (by kernel_rfl) ?_
 refine i1 4 (fun η=>(by kernel_rfl)) ?_
 refine h_1 (fun x0=>.one (.ag 12 x0)) (fun x0=>qtriG x0 (((gridM m).apply (eP 0)))) (fun η=>(by kernel_rfl)) (fun _ _ _ h=>⟨h.ok,rfl⟩) (fun β η S w hS hs hw hG hd=>have uo0:=hG.2.2.2.2.1; have zC0:=hG.2.2.2.2.2.1; have zB0:=hG.2.2.2.2.2.2.1; have hm:=hG.2.2.2.2.2.2.2.2.2.2.2.2.2.2.2.2.2.2.2.2.2.2.1; ⟨_,(by kernel_rfl),D8 hS hm ⟨_,_,_,rfl,uo0,zB0,zC0⟩ (F6 m) ((Y3 0).tl (by decide)) (by decide)⟩) ?_
 refine h_1 (fun x0=>.one (.ag 9 x0)) (fun x0=>triG x0 (((gridM m).apply (eP 0)))) (fun η=>(by kernel_rfl)) (fun _ _ _ h=>⟨h.ok,rfl⟩) (fun β η S w hS hs hw hG hd=>⟨_,(by kernel_rfl),A0 hS (dep hd 4 (by kernel_rfl) (by kernel_rfl) : (qtriG (η 4) (((gridM m).apply (eP 0)))).p S w) (A7 (Y3 0) (by decide)) (by decide)⟩) ?_
 refine i1 2 (fun η=>(by kernel_rfl)) ?_
 refine h_1 (fun x0=>.one (.ag 12 x0)) (fun x0=>qtriG x0 (((gridM m).apply (vP 0 (((2 + IntKind.u64.wrap (n 0) % 5 + 0) : Int) : Rat))))) (fun η=>(by kernel_rfl)) (fun _ _ _ h=>⟨h.ok,rfl⟩) (fun β η S w hS hs hw hG hd=>have xv0:=hG.1; have wC0:=hG.2.1; have wB0:=hG.2.2.1; have hm:=hG.2.2.2.2.2.2.2.2.2.2.2.2.2.2.2.2.2.2.2.2.2.2.1; ⟨_,(by kernel_rfl),D8 hS hm ⟨_,_,_,rfl,xv0,wB0,wC0⟩ (F6 m) ((ac8 0 (x:=(2 + IntKind.u64.wrap (n 0) % 5 + 0)) (B:=20) (by omega) (by decide)).tl (by decide)) (by decide)⟩) ?_
 refine h_1 (fun x0=>.one (.ag 9 x0)) (fun x0=>triG x0 (((gridM m).apply (vP 0 (((2 + IntKind.u64.wrap (n 0) % 5 + 0) : Int) : Rat))))) (fun η=>(by kernel_rfl)) (fun _ _ _ h=>⟨h.ok,rfl⟩) (fun β η S w hS hs hw hG hd=>⟨_,(by kernel_rfl),A0 hS (dep hd 8 (by kernel_rfl) (by kernel_rfl) : (qtriG (η 8) (((gridM m).apply (vP 0 (((2 + IntKind.u64.wrap (n 0) % 5 + 0) : Int) : Rat))))).p S w) (A7 (ac8 0 (x:=(2 + IntKind.u64.wrap (n 0) % 5 + 0)) (B:=20) (by omega) (by decide)) (by decide)) (by decide)⟩) ?_
 refine i1 1 (fun η=>(by kernel_rfl)) ?_
 refine be1 (by kernel_rfl) (fun η=>(by kernel_rfl)) ?_
 refine l6 [true,false,true,false] ((qmapG M ((gridM m))).and (Gh.nil)) (by exact fun _ _ h=>⟨h.2.2.2.2.2.2.2.2.2.2.2.2.2.2.2.2.2.2.2.2.2.2.1,trivial⟩) (fun g η=>(triG (η 9) (((gridM m).apply (vP 0 (((2 + IntKind.u64.wrap (n 0) % 5 + 0) : Int) : Rat))))).and ((triG (η 5) (((gridM m).apply (eP 0)))).and g)) (by kernel_rfl) (fun g η=>(by kernel_rfl)) ?_
 intro η_13
 refine s_1 (fun x0=>.one (.ag 4 x0)) (fun x0=>qG x0 ((0 : Rat))) ⟨a8,hS,b7⟩ (by kernel_rfl) (by kernel_rfl) (fun _ _ _ h=>⟨h.ok,rfl⟩) (fun β S w hS hs hw hG=>⟨_,(by kernel_rfl),I7 hS⟩) ?_
 intro yzA1
 refine s_1 (fun x0=>.one (.ag 4 x0)) (fun x0=>qG x0 ((0 : Rat))) ⟨a8,hS,b7⟩ (by kernel_rfl) (by kernel_rfl) (fun _ _ _ h=>⟨h.ok,rfl⟩) (fun β S w hS hs hw hG=>⟨_,(by kernel_rfl),I7 hS⟩) ?_
 intro yzB1
 refine s_1 (fun x0=>.one (.ag 4 x0)) (fun x0=>qG x0 ((0 : Rat))) ⟨a8,hS,b7⟩ (by kernel_rfl) (by kernel_rfl) (fun _ _ _ h=>⟨h.ok,rfl⟩) (fun β S w hS hs hw hG=>⟨_,(by kernel_rfl),I7 hS⟩) ?_
 intro yzC1
 refine s_1 (fun x0=>.one (.ag 4 x0)) (fun x0=>qG x0 ((1 : Rat))) ⟨a8,hS,b7⟩ (by kernel_rfl) (by kernel_rfl) (fun _ _ _ h=>⟨h.ok,rfl⟩) (fun β S w hS hs hw hG=>⟨_,(by kernel_rfl),G5 hS⟩) ?_
 intro yu1
 refine s_1 (fun x0=>.one (.ag 4 x0)) (fun x0=>qG x0 ((1 : Rat))) ⟨a8,hS,b7⟩ (by kernel_rfl) (by kernel_rfl) (fun _ _ _ h=>⟨h.ok,rfl⟩) (fun β S w hS hs hw hG=>⟨_,(by kernel_rfl),G5 hS⟩) ?_
 intro ywA1
 refine s_1 (fun x0=>.one (.ag 4 x0)) (fun x0=>qG x0 ((1 : Rat))) ⟨a8,hS,b7⟩ (by kernel_rfl) (by kernel_rfl) (fun _ _ _ h=>⟨h.ok,rfl⟩) (fun β S w hS hs hw hG=>⟨_,(by kernel_rfl),G5 hS⟩) ?_
 intro ywB1
 refine s_1 (fun x0=>.one (.ag 4 x0)) (fun x0=>qG x0 ((1 : Rat))) ⟨a8,hS,b7⟩ (by kernel_rfl) (by kernel_rfl) (fun _ _ _ h=>⟨h.ok,rfl⟩) (fun β S w hS hs hw hG=>⟨_,(by kernel_rfl),G5 hS⟩) ?_
 intro ywC1
 refine s_1 (fun x0=>.one (.ag 4 x0)) (fun x0=>qG x0 ((((2 + IntKind.u64.wrap (n 1) % 5 + 7) : Int) : Rat))) ⟨a8,hS,b7⟩ (by kernel_rfl) (by kernel_rfl) (fun _ _ _ h=>⟨h.ok,rfl⟩) (fun β S w hS hs hw hG=>⟨_,(by kernel_rfl),F4 hS (by omega) (by omega)⟩) ?_
 intro yx1
 refine ah4 [9] 12 ⟨a8,hS,b7⟩ (by kernel_rfl) (by kernel_rfl) (by kernel_rfl) ?_
 refine i1 4 (fun η=>(by kernel_rfl)) ?_
 refine h_1 (fun x0=>.one (.ag 12 x0)) (fun x0=>qtriG x0 (((gridM m).apply (eP 1)))) (fun η=>(by kernel_rfl)) (fun _ _ _ h=>⟨h.ok,rfl⟩) (fun β η S w hS hs hw hG hd=>have uo1:=hG.2.2.2.2.1; have zC1:=hG.2.2.2.2.2.1; have zA1:=hG.2.2.2.2.2.2.2.1; have hm:=hG.2.2.2.2.2.2.2.2.2.2.1; ⟨_,(by kernel_rfl),D8 hS hm ⟨_,_,_,rfl,zA1,uo1,zC1⟩ (F6 m) ((Y3 1).tl (by decide)) (by decide)⟩) ?_
 refine h_1 (fun x0=>.one (.ag 9 x0)) (fun x0=>triG x0 (((gridM m).apply (eP 1)))) (fun η=>(by kernel_rfl)) (fun _ _ _ h=>⟨h.ok,rfl⟩) (fun β η S w hS hs hw hG hd=>⟨_,(by kernel_rfl),A0 hS (dep hd 4 (by kernel_rfl) (by kernel_rfl) : (qtriG (η 4) (((gridM m).apply (eP 1)))).p S w) (A7 (Y3 1) (by decide)) (by decide)⟩) ?_
 refine i1 2 (fun η=>(by kernel_rfl)) ?_
 refine h_1 (fun x0=>.one (.ag 12 x0)) (fun x0=>qtriG x0 (((gridM m).apply (vP 1 (((2 + IntKind.u64.wrap (n 1) % 5 + 7) : Int) : Rat))))) (fun η=>(by kernel_rfl)) (fun _ _ _ h=>⟨h.ok,rfl⟩) (fun β η S w hS hs hw hG hd=>have xv1:=hG.1; have wC1:=hG.2.1; have wA1:=hG.2.2.2.1; have hm:=hG.2.2.2.2.2.2.2.2.2.2.1; ⟨_,(by kernel_rfl),D8 hS hm ⟨_,_,_,rfl,wA1,xv1,wC1⟩ (F6 m) ((ac8 1 (x:=(2 + IntKind.u64.wrap (n 1) % 5 + 7)) (B:=20) (by omega) (by decide)).tl (by decide)) (by decide)⟩) ?_
 refine h_1 (fun x0=>.one (.ag 9 x0)) (fun x0=>triG x0 (((gridM m).apply (vP 1 (((2 + IntKind.u64.wrap (n 1) % 5 + 7) : Int) : Rat))))) (fun η=>(by kernel_rfl)) (fun _ _ _ h=>⟨h.ok,rfl⟩) (fun β η S w hS hs hw hG hd=>⟨_,(by kernel_rfl),A0 hS (dep hd 8 (by kernel_rfl) (by kernel_rfl) : (qtriG (η 8) (((gridM m).apply (vP 1 (((2 + IntKind.u64.wrap (n 1) % 5 + 7) : Int) : Rat))))).p S w) (A7 (ac8 1 (x:=(2 + IntKind.u64.wrap (n 1) % 5 + 7)) (B:=20) (by omega) (by decide)) (by decide)) (by decide)⟩) ?_
 refine i1 1 (fun η=>(by kernel_rfl)) ?_
 refine be1 (by kernel_rfl) (fun η=>(by kernel_rfl)) ?_
 refine l6 [true,false,true,false] ((triG (η_13 9) (((gridM m).apply (vP 0 (((2 + IntKind.u64.wrap (n 0) % 5 + 0) : Int) : Rat))))).and ((triG (η_13 5) (((gridM m).apply (eP 0)))).and ((qmapG M ((gridM m))).and (Gh.nil)))) (by exact fun _ _ h=>⟨h.2.2.2.2.2.2.2.2.1,h.2.2.2.2.2.2.2.2.2.1,h.2.2.2.2.2.2.2.2.2.2.1,trivial⟩) (fun g η=>(triG (η 9) (((gridM m).apply (vP 1 (((2 + IntKind.u64.wrap (n 1) % 5 + 7) : Int) : Rat))))).and ((triG (η 5) (((gridM m).apply (eP 1)))).and g)) (by kernel_rfl) (fun g η=>(by kernel_rfl)) ?_
 intro η_14
 refine s_1 (fun x0=>.one (.ag 4 x0)) (fun x0=>qG x0 ((0 : Rat))) ⟨a8,hS,b7⟩ (by kernel_rfl) (by kernel_rfl) (fun _ _ _ h=>⟨h.ok,rfl⟩) (fun β S w hS hs hw hG=>⟨_,(by kernel_rfl),I7 hS⟩) ?_
 intro yzA2
 refine s_1 (fun x0=>.one (.ag 4 x0)) (fun x0=>qG x0 ((0 : Rat))) ⟨a8,hS,b7⟩ (by kernel_rfl) (by kernel_rfl) (fun _ _ _ h=>⟨h.ok,rfl⟩) (fun β S w hS hs hw hG=>⟨_,(by kernel_rfl),I7 hS⟩) ?_
 intro yzB2
 refine s_1 (fun x0=>.one (.ag 4 x0)) (fun x0=>qG x0 ((0 : Rat))) ⟨a8,hS,b7⟩ (by kernel_rfl) (by kernel_rfl) (fun _ _ _ h=>⟨h.ok,rfl⟩) (fun β S w hS hs hw hG=>⟨_,(by kernel_rfl),I7 hS⟩) ?_
 intro yzC2
 refine s_1 (fun x0=>.one (.ag 4 x0)) (fun x0=>qG x0 ((1 : Rat))) ⟨a8,hS,b7⟩ (by kernel_rfl) (by kernel_rfl) (fun _ _ _ h=>⟨h.ok,rfl⟩) (fun β S w hS hs hw hG=>⟨_,(by kernel_rfl),G5 hS⟩) ?_
 intro yu2
 refine s_1 (fun x0=>.one (.ag 4 x0)) (fun x0=>qG x0 ((1 : Rat))) ⟨a8,hS,b7⟩ (by kernel_rfl) (by kernel_rfl) (fun _ _ _ h=>⟨h.ok,rfl⟩) (fun β S w hS hs hw hG=>⟨_,(by kernel_rfl),G5 hS⟩) ?_
 intro ywA2
 refine s_1 (fun x0=>.one (.ag 4 x0)) (fun x0=>qG x0 ((1 : Rat))) ⟨a8,hS,b7⟩ (by kernel_rfl) (by kernel_rfl) (fun _ _ _ h=>⟨h.ok,rfl⟩) (fun β S w hS hs hw hG=>⟨_,(by kernel_rfl),G5 hS⟩) ?_
 intro ywB2
 refine s_1 (fun x0=>.one (.ag 4 x0)) (fun x0=>qG x0 ((1 : Rat))) ⟨a8,hS,b7⟩ (by kernel_rfl) (by kernel_rfl) (fun _ _ _ h=>⟨h.ok,rfl⟩) (fun β S w hS hs hw hG=>⟨_,(by kernel_rfl),G5 hS⟩) ?_
 intro ywC2
 refine s_1 (fun x0=>.one (.ag 4 x0)) (fun x0=>qG x0 ((((2 + IntKind.u64.wrap (n 2) % 5 + 14) : Int) : Rat))) ⟨a8,hS,b7⟩ (by kernel_rfl) (by kernel_rfl) (fun _ _ _ h=>⟨h.ok,rfl⟩) (fun β S w hS hs hw hG=>⟨_,(by kernel_rfl),F4 hS (by omega) (by omega)⟩) ?_
 intro yx2
 refine ah4 [9] 12 ⟨a8,hS,b7⟩ (by kernel_rfl) (by kernel_rfl) (by kernel_rfl) ?_
 refine i1 4 (fun η=>(by kernel_rfl)) ?_
 refine h_1 (fun x0=>.one (.ag 12 x0)) (fun x0=>qtriG x0 (((gridM m).apply (eP 2)))) (fun η=>(by kernel_rfl)) (fun _ _ _ h=>⟨h.ok,rfl⟩) (fun β η S w hS hs hw hG hd=>have uo2:=hG.2.2.2.2.1; have zB2:=hG.2.2.2.2.2.2.1; have zA2:=hG.2.2.2.2.2.2.2.1; have hm:=hG.2.2.2.2.2.2.2.2.2.2.2.2.1; ⟨_,(by kernel_rfl),D8 hS hm ⟨_,_,_,rfl,zA2,zB2,uo2⟩ (F6 m) ((Y3 2).tl (by decide)) (by decide)⟩) ?_
 refine h_1 (fun x0=>.one (.ag 9 x0)) (fun x0=>triG x0 (((gridM m).apply (eP 2)))) (fun η=>(by kernel_rfl)) (fun _ _ _ h=>⟨h.ok,rfl⟩) (fun β η S w hS hs hw hG hd=>⟨_,(by kernel_rfl),A0 hS (dep hd 4 (by kernel_rfl) (by kernel_rfl) : (qtriG (η 4) (((gridM m).apply (eP 2)))).p S w) (A7 (Y3 2) (by decide)) (by decide)⟩) ?_
 refine i1 2 (fun η=>(by kernel_rfl)) ?_
 refine h_1 (fun x0=>.one (.ag 12 x0)) (fun x0=>qtriG x0 (((gridM m).apply (vP 2 (((2 + IntKind.u64.wrap (n 2) % 5 + 14) : Int) : Rat))))) (fun η=>(by kernel_rfl)) (fun _ _ _ h=>⟨h.ok,rfl⟩) (fun β η S w hS hs hw hG hd=>have xv2:=hG.1; have wB2:=hG.2.2.1; have wA2:=hG.2.2.2.1; have hm:=hG.2.2.2.2.2.2.2.2.2.2.2.2.1; ⟨_,(by kernel_rfl),D8 hS hm ⟨_,_,_,rfl,wA2,wB2,xv2⟩ (F6 m) ((ac8 2 (x:=(2 + IntKind.u64.wrap (n 2) % 5 + 14)) (B:=20) (by omega) (by decide)).tl (by decide)) (by decide)⟩) ?_
 refine h_1 (fun x0=>.one (.ag 9 x0)) (fun x0=>triG x0 (((gridM m).apply (vP 2 (((2 + IntKind.u64.wrap (n 2) % 5 + 14) : Int) : Rat))))) (fun η=>(by kernel_rfl)) (fun _ _ _ h=>⟨h.ok,rfl⟩) (fun β η S w hS hs hw hG hd=>⟨_,(by kernel_rfl),A0 hS (dep hd 8 (by kernel_rfl) (by kernel_rfl) : (qtriG (η 8) (((gridM m).apply (vP 2 (((2 + IntKind.u64.wrap (n 2) % 5 + 14) : Int) : Rat))))).p S w) (A7 (ac8 2 (x:=(2 + IntKind.u64.wrap (n 2) % 5 + 14)) (B:=20) (by omega) (by decide)) (by decide)) (by decide)⟩) ?_
 refine i1 1 (fun η=>(by kernel_rfl)) ?_
 refine be1 (by kernel_rfl) (fun η=>(by kernel_rfl)) ?_
 refine l6 [true,false,true,false] ((triG (η_14 9) (((gridM m).apply (vP 1 (((2 + IntKind.u64.wrap (n 1) % 5 + 7) : Int) : Rat))))).and ((triG (η_14 5) (((gridM m).apply (eP 1)))).and ((triG (η_13 9) (((gridM m).apply (vP 0 (((2 + IntKind.u64.wrap (n 0) % 5 + 0) : Int) : Rat))))).and ((triG (η_13 5) (((gridM m).apply (eP 0)))).and (Gh.nil))))) (by exact fun _ _ h=>⟨h.2.2.2.2.2.2.2.2.1,h.2.2.2.2.2.2.2.2.2.1,h.2.2.2.2.2.2.2.2.2.2.1,h.2.2.2.2.2.2.2.2.2.2.2.1,trivial⟩) (fun g η=>(triG (η 9) (((gridM m).apply (vP 2 (((2 + IntKind.u64.wrap (n 2) % 5 + 14) : Int) : Rat))))).and ((triG (η 5) (((gridM m).apply (eP 2)))).and g)) (by kernel_rfl) (fun g η=>(by kernel_rfl)) ?_
 intro η_15
 refine A5 ⟨a8,hS,b7⟩ (by kernel_rfl) ?_
 refine l8 14 ⟨a8,hS,b7⟩ (by kernel_rfl) (by kernel_rfl) (by kernel_rfl) ?_
 refine i1 8 (fun η=>(by kernel_rfl)) ?_
 refine h_1 (fun x0=>pr (.ag 9 (tupAt x0)) (.lit .i64 0)) (fun x0=>ttryG x0 ((joinT ((gridM m).apply (eP 0)) ((gridM m).apply (eP 1)))) 0) (fun η=>(by kernel_rfl)) (fun _ _ _ h=>M8 h) (fun β η S w hS hs hw hG hd=>have pp1:=hG.2.2.2.1; have pp0:=hG.2.2.2.2.2.1; ⟨_,(by kernel_rfl),(O6 (k:=1) (ht.to hw) hS pp0 pp1 (A7 (Y3 0) (by decide)) (A7 (Y3 1) (by decide)) (by decide) D.1.ns (by decide)).mono fun v' w' h=>⟨h.1,by have h2:=h.2; rw [D.1.s] at h2; exact h2⟩⟩) ?_
 refine i1 5 (fun η=>(by kernel_rfl)) ?_
 refine l6 [true] ((triG (η_15 9) (((gridM m).apply (vP 2 (((2 + IntKind.u64.wrap (n 2) % 5 + 14) : Int) : Rat))))).and ((triG (η_15 5) (((gridM m).apply (eP 2)))).and ((triG (η_14 9) (((gridM m).apply (vP 1 (((2 + IntKind.u64.wrap (n 1) % 5 + 7) : Int) : Rat))))).and ((triG (η_14 5) (((gridM m).apply (eP 1)))).and ((triG (η_13 9) (((gridM m).apply (vP 0 (((2 + IntKind.u64.wrap (n 0) % 5 + 0) : Int) : Rat))))).and ((triG (η_13 5) (((gridM m).apply (eP 0)))).and (Gh.nil))))))) (by exact fun _ _ h=>⟨h.1,h.2.1,h.2.2.1,h.2.2.2.1,h.2.2.2.2.1,h.2.2.2.2.2.1,trivial⟩) (fun g η=>(ttryG (η 8) ((joinT ((gridM m).apply (eP 0)) ((gridM m).apply (eP 1)))) 0).and g) (by kernel_rfl) (fun g η=>(by kernel_rfl)) ?_
 intro η_16
 refine l8 14 ⟨a8,hS,b7⟩ (by kernel_rfl) (by kernel_rfl) (by kernel_rfl) ?_
 refine i1 8 (fun η=>(by kernel_rfl)) ?_
 refine h_1 (fun x0=>pr (.ag 9 (tupAt x0)) (.lit .i64 0)) (fun x0=>ttryG x0 ((joinT ((gridM m).apply (vP 0 (((2 + IntKind.u64.wrap (n 0) % 5 + 0) : Int) : Rat))) ((gridM m).apply (vP 1 (((2 + IntKind.u64.wrap (n 1) % 5 + 7) : Int) : Rat))))) 0) (fun η=>(by kernel_rfl)) (fun _ _ _ h=>M8 h) (fun β η S w hS hs hw hG hd=>have qq1:=hG.2.2.2.1; have qq0:=hG.2.2.2.2.2.1; ⟨_,(by kernel_rfl),(O6 (k:=1) (ht.to hw) hS qq0 qq1 (A7 (ac8 0 (x:=(2 + IntKind.u64.wrap (n 0) % 5 + 0)) (B:=20) (by omega) (by decide)) (by decide)) (A7 (ac8 1 (x:=(2 + IntKind.u64.wrap (n 1) % 5 + 7)) (B:=20) (by omega) (by decide)) (by decide)) (by decide) D.1.nt (by decide)).mono fun v' w' h=>⟨h.1,by have h2:=h.2; rw [D.1.t] at h2; exact h2⟩⟩) ?_
 refine i1 5 (fun η=>(by kernel_rfl)) ?_
 refine l6 [true] ((ttryG (η_16 8) ((joinT ((gridM m).apply (eP 0)) ((gridM m).apply (eP 1)))) 0).and ((triG (η_15 9) (((gridM m).apply (vP 2 (((2 + IntKind.u64.wrap (n 2) % 5 + 14) : Int) : Rat))))).and ((triG (η_15 5) (((gridM m).apply (eP 2)))).and ((triG (η_14 9) (((gridM m).apply (vP 1 (((2 + IntKind.u64.wrap (n 1) % 5 + 7) : Int) : Rat))))).and ((triG (η_14 5) (((gridM m).apply (eP 1)))).and ((triG (η_13 9) (((gridM m).apply (vP 0 (((2 + IntKind.u64.wrap (n 0) % 5 + 0) : Int) : Rat))))).and ((triG (η_13 5) (((gridM m).apply (eP 0)))).and (Gh.nil)))))))) (by exact fun _ _ h=>⟨h.1,h.2.1,h.2.2.1,h.2.2.2.1,h.2.2.2.2.1,h.2.2.2.2.2.1,h.2.2.2.2.2.2.1,trivial⟩) (fun g η=>(ttryG (η 8) ((joinT ((gridM m).apply (vP 0 (((2 + IntKind.u64.wrap (n 0) % 5 + 0) : Int) : Rat))) ((gridM m).apply (vP 1 (((2 + IntKind.u64.wrap (n 1) % 5 + 7) : Int) : Rat))))) 0).and g) (by kernel_rfl) (fun g η=>(by kernel_rfl)) ?_
 intro η_17
 refine s_1 (fun x0=>pr (.ag 9 (tupAt x0)) (.lit .i64 0)) (fun x0=>ttryG x0 ((joinT (joinT ((gridM m).apply (eP 0)) ((gridM m).apply (eP 1))) (joinT ((gridM m).apply (vP 0 (((2 + IntKind.u64.wrap (n 0) % 5 + 0) : Int) : Rat))) ((gridM m).apply (vP 1 (((2 + IntKind.u64.wrap (n 1) % 5 + 7) : Int) : Rat)))))) 0) ⟨a8,hS,b7⟩ (by kernel_rfl) (by kernel_rfl) (fun _ _ _ h=>M8 h) (fun β S w hS hs hw hG=>have jt0:=hG.1; have js0:=hG.2.1; ⟨_,(by kernel_rfl),(O6 (k:=1) (ht.to hw) hS js0.2 jt0.2 D.1.ts D.1.tt (by decide) D.1.nw (by decide)).mono fun v' w' h=>⟨h.1,by have h2:=h.2; rw [D.1.w] at h2; exact h2⟩⟩) ?_
 intro y0
 refine l8 14 ⟨a8,hS,b7⟩ (by kernel_rfl) (by kernel_rfl) (by kernel_rfl) ?_
 refine i1 8 (fun η=>(by kernel_rfl)) ?_
 refine h_1 (fun x0=>pr (.ag 9 (tupAt x0)) (.lit .i64 0)) (fun x0=>ttryG x0 ((joinT ((gridM m).apply (eP 1)) ((gridM m).apply (eP 2)))) 0) (fun η=>(by kernel_rfl)) (fun _ _ _ h=>M8 h) (fun β η S w hS hs hw hG hd=>have pp2:=hG.2.2.2.2.1; have pp1:=hG.2.2.2.2.2.2.1; ⟨_,(by kernel_rfl),(O6 (k:=1) (ht.to hw) hS pp1 pp2 (A7 (Y3 1) (by decide)) (A7 (Y3 2) (by decide)) (by decide) D.2.1.ns (by decide)).mono fun v' w' h=>⟨h.1,by have h2:=h.2; rw [D.2.1.s] at h2; exact h2⟩⟩) ?_
 refine i1 5 (fun η=>(by kernel_rfl)) ?_
 refine l6 [true] ((ttryG y0 ((joinT (joinT ((gridM m).apply (eP 0)) ((gridM m).apply (eP 1))) (joinT ((gridM m).apply (vP 0 (((2 + IntKind.u64.wrap (n 0) % 5 + 0) : Int) : Rat))) ((gridM m).apply (vP 1 (((2 + IntKind.u64.wrap (n 1) % 5 + 7) : Int) : Rat)))))) 0).and ((triG (η_15 9) (((gridM m).apply (vP 2 (((2 + IntKind.u64.wrap (n 2) % 5 + 14) : Int) : Rat))))).and ((triG (η_15 5) (((gridM m).apply (eP 2)))).and ((triG (η_14 9) (((gridM m).apply (vP 1 (((2 + IntKind.u64.wrap (n 1) % 5 + 7) : Int) : Rat))))).and ((triG (η_13 9) (((gridM m).apply (vP 0 (((2 + IntKind.u64.wrap (n 0) % 5 + 0) : Int) : Rat))))).and ((triG (η_13 5) (((gridM m).apply (eP 0)))).and (Gh.nil))))))) (by exact fun _ _ h=>⟨h.1,h.2.2.2.1,h.2.2.2.2.1,h.2.2.2.2.2.1,h.2.2.2.2.2.2.2.1,h.2.2.2.2.2.2.2.2.1,trivial⟩) (fun g η=>(ttryG (η 8) ((joinT ((gridM m).apply (eP 1)) ((gridM m).apply (eP 2)))) 0).and g) (by kernel_rfl) (fun g η=>(by kernel_rfl)) ?_
 intro η_18
 refine l8 14 ⟨a8,hS,b7⟩ (by kernel_rfl) (by kernel_rfl) (by kernel_rfl) ?_
 refine i1 8 (fun η=>(by kernel_rfl)) ?_
 refine h_1 (fun x0=>pr (.ag 9 (tupAt x0)) (.lit .i64 0)) (fun x0=>ttryG x0 ((joinT ((gridM m).apply (vP 1 (((2 + IntKind.u64.wrap (n 1) % 5 + 7) : Int) : Rat))) ((gridM m).apply (vP 2 (((2 + IntKind.u64.wrap (n 2) % 5 + 14) : Int) : Rat))))) 0) (fun η=>(by kernel_rfl)) (fun _ _ _ h=>M8 h) (fun β η S w hS hs hw hG hd=>have qq2:=hG.2.2.1; have qq1:=hG.2.2.2.2.1; ⟨_,(by kernel_rfl),(O6 (k:=1) (ht.to hw) hS qq1 qq2 (A7 (ac8 1 (x:=(2 + IntKind.u64.wrap (n 1) % 5 + 7)) (B:=20) (by omega) (by decide)) (by decide)) (A7 (ac8 2 (x:=(2 + IntKind.u64.wrap (n 2) % 5 + 14)) (B:=20) (by omega) (by decide)) (by decide)) (by decide) D.2.1.nt (by decide)).mono fun v' w' h=>⟨h.1,by have h2:=h.2; rw [D.2.1.t] at h2; exact h2⟩⟩) ?_
 refine i1 5 (fun η=>(by kernel_rfl)) ?_
 refine l6 [true] ((ttryG (η_18 8) ((joinT ((gridM m).apply (eP 1)) ((gridM m).apply (eP 2)))) 0).and ((ttryG y0 ((joinT (joinT ((gridM m).apply (eP 0)) ((gridM m).apply (eP 1))) (joinT ((gridM m).apply (vP 0 (((2 + IntKind.u64.wrap (n 0) % 5 + 0) : Int) : Rat))) ((gridM m).apply (vP 1 (((2 + IntKind.u64.wrap (n 1) % 5 + 7) : Int) : Rat)))))) 0).and ((triG (η_15 9) (((gridM m).apply (vP 2 (((2 + IntKind.u64.wrap (n 2) % 5 + 14) : Int) : Rat))))).and ((triG (η_15 5) (((gridM m).apply (eP 2)))).and ((triG (η_13 9) (((gridM m).apply (vP 0 (((2 + IntKind.u64.wrap (n 0) % 5 + 0) : Int) : Rat))))).and ((triG (η_13 5) (((gridM m).apply (eP 0)))).and (Gh.nil))))))) (by exact fun _ _ h=>⟨h.1,h.2.1,h.2.2.1,h.2.2.2.1,h.2.2.2.2.2.1,h.2.2.2.2.2.2.1,trivial⟩) (fun g η=>(ttryG (η 8) ((joinT ((gridM m).apply (vP 1 (((2 + IntKind.u64.wrap (n 1) % 5 + 7) : Int) : Rat))) ((gridM m).apply (vP 2 (((2 + IntKind.u64.wrap (n 2) % 5 + 14) : Int) : Rat))))) 0).and g) (by kernel_rfl) (fun g η=>(by kernel_rfl)) ?_
 intro η_19
 refine s_1 (fun x0=>pr (.ag 9 (tupAt x0)) (.lit .i64 0)) (fun x0=>ttryG x0 ((joinT (joinT ((gridM m).apply (eP 1)) ((gridM m).apply (eP 2))) (joinT ((gridM m).apply (vP 1 (((2 + IntKind.u64.wrap (n 1) % 5 + 7) : Int) : Rat))) ((gridM m).apply (vP 2 (((2 + IntKind.u64.wrap (n 2) % 5 + 14) : Int) : Rat)))))) 0) ⟨a8,hS,b7⟩ (by kernel_rfl) (by kernel_rfl) (fun _ _ _ h=>M8 h) (fun β S w hS hs hw hG=>have jt1:=hG.1; have js1:=hG.2.1; ⟨_,(by kernel_rfl),(O6 (k:=1) (ht.to hw) hS js1.2 jt1.2 D.2.1.ts D.2.1.tt (by decide) D.2.1.nw (by decide)).mono fun v' w' h=>⟨h.1,by have h2:=h.2; rw [D.2.1.w] at h2; exact h2⟩⟩) ?_
 intro y1
 refine l8 14 ⟨a8,hS,b7⟩ (by kernel_rfl) (by kernel_rfl) (by kernel_rfl) ?_
 refine i1 8 (fun η=>(by kernel_rfl)) ?_
 refine h_1 (fun x0=>pr (.ag 9 (tupAt x0)) (.lit .i64 0)) (fun x0=>ttryG x0 ((joinT ((gridM m).apply (eP 2)) ((gridM m).apply (eP 0)))) 0) (fun η=>(by kernel_rfl)) (fun _ _ _ h=>M8 h) (fun β η S w hS hs hw hG hd=>have pp2:=hG.2.2.2.2.2.1; have pp0:=hG.2.2.2.2.2.2.2.1; ⟨_,(by kernel_rfl),(O6 (k:=1) (ht.to hw) hS pp2 pp0 (A7 (Y3 2) (by decide)) (A7 (Y3 0) (by decide)) (by decide) D.2.2.ns (by decide)).mono fun v' w' h=>⟨h.1,by have h2:=h.2; rw [D.2.2.s] at h2; exact h2⟩⟩) ?_
 refine i1 5 (fun η=>(by kernel_rfl)) ?_
 refine l6 [true] ((ttryG y1 ((joinT (joinT ((gridM m).apply (eP 1)) ((gridM m).apply (eP 2))) (joinT ((gridM m).apply (vP 1 (((2 + IntKind.u64.wrap (n 1) % 5 + 7) : Int) : Rat))) ((gridM m).apply (vP 2 (((2 + IntKind.u64.wrap (n 2) % 5 + 14) : Int) : Rat)))))) 0).and ((ttryG y0 ((joinT (joinT ((gridM m).apply (eP 0)) ((gridM m).apply (eP 1))) (joinT ((gridM m).apply (vP 0 (((2 + IntKind.u64.wrap (n 0) % 5 + 0) : Int) : Rat))) ((gridM m).apply (vP 1 (((2 + IntKind.u64.wrap (n 1) % 5 + 7) : Int) : Rat)))))) 0).and ((triG (η_15 9) (((gridM m).apply (vP 2 (((2 + IntKind.u64.wrap (n 2) % 5 + 14) : Int) : Rat))))).and ((triG (η_13 9) (((gridM m).apply (vP 0 (((2 + IntKind.u64.wrap (n 0) % 5 + 0) : Int) : Rat))))).and (Gh.nil))))) (by exact fun _ _ h=>⟨h.1,h.2.2.2.1,h.2.2.2.2.1,h.2.2.2.2.2.2.1,trivial⟩) (fun g η=>(ttryG (η 8) ((joinT ((gridM m).apply (eP 2)) ((gridM m).apply (eP 0)))) 0).and g) (by kernel_rfl) (fun g η=>(by kernel_rfl)) ?_
 intro η_20
 refine l8 14 ⟨a8,hS,b7⟩ (by kernel_rfl) (by kernel_rfl) (by kernel_rfl) ?_
 refine i1 8 (fun η=>(by kernel_rfl)) ?_
 refine h_1 (fun x0=>pr (.ag 9 (tupAt x0)) (.lit .i64 0)) (fun x0=>ttryG x0 ((joinT ((gridM m).apply (vP 2 (((2 + IntKind.u64.wrap (n 2) % 5 + 14) : Int) : Rat))) ((gridM m).apply (vP 0 (((2 + IntKind.u64.wrap (n 0) % 5 + 0) : Int) : Rat))))) 0) (fun η=>(by kernel_rfl)) (fun _ _ _ h=>M8 h) (fun β η S w hS hs hw hG hd=>have qq2:=hG.2.2.2.1; have qq0:=hG.2.2.2.2.1; ⟨_,(by kernel_rfl),(O6 (k:=1) (ht.to hw) hS qq2 qq0 (A7 (ac8 2 (x:=(2 + IntKind.u64.wrap (n 2) % 5 + 14)) (B:=20) (by omega) (by decide)) (by decide)) (A7 (ac8 0 (x:=(2 + IntKind.u64.wrap (n 0) % 5 + 0)) (B:=20) (by omega) (by decide)) (by decide)) (by decide) D.2.2.nt (by decide)).mono fun v' w' h=>⟨h.1,by have h2:=h.2; rw [D.2.2.t] at h2; exact h2⟩⟩) ?_
 refine i1 5 (fun η=>(by kernel_rfl)) ?_
 refine l6 [true] ((ttryG (η_20 8) ((joinT ((gridM m).apply (eP 2)) ((gridM m).apply (eP 0)))) 0).and ((ttryG y1 ((joinT (joinT ((gridM m).apply (eP 1)) ((gridM m).apply (eP 2))) (joinT ((gridM m).apply (vP 1 (((2 + IntKind.u64.wrap (n 1) % 5 + 7) : Int) : Rat))) ((gridM m).apply (vP 2 (((2 + IntKind.u64.wrap (n 2) % 5 + 14) : Int) : Rat)))))) 0).and ((ttryG y0 ((joinT (joinT ((gridM m).apply (eP 0)) ((gridM m).apply (eP 1))) (joinT ((gridM m).apply (vP 0 (((2 + IntKind.u64.wrap (n 0) % 5 + 0) : Int) : Rat))) ((gridM m).apply (vP 1 (((2 + IntKind.u64.wrap (n 1) % 5 + 7) : Int) : Rat)))))) 0).and (Gh.nil)))) (by exact fun _ _ h=>⟨h.1,h.2.1,h.2.2.1,trivial⟩) (fun g η=>(ttryG (η 8) ((joinT ((gridM m).apply (vP 2 (((2 + IntKind.u64.wrap (n 2) % 5 + 14) : Int) : Rat))) ((gridM m).apply (vP 0 (((2 + IntKind.u64.wrap (n 0) % 5 + 0) : Int) : Rat))))) 0).and g) (by kernel_rfl) (fun g η=>(by kernel_rfl)) ?_
 intro η_21
 refine s_1 (fun x0=>pr (.ag 9 (tupAt x0)) (.lit .i64 0)) (fun x0=>ttryG x0 ((joinT (joinT ((gridM m).apply (eP 2)) ((gridM m).apply (eP 0))) (joinT ((gridM m).apply (vP 2 (((2 + IntKind.u64.wrap (n 2) % 5 + 14) : Int) : Rat))) ((gridM m).apply (vP 0 (((2 + IntKind.u64.wrap (n 0) % 5 + 0) : Int) : Rat)))))) 0) ⟨a8,hS,b7⟩ (by kernel_rfl) (by kernel_rfl) (fun _ _ _ h=>M8 h) (fun β S w hS hs hw hG=>have jt2:=hG.1; have js2:=hG.2.1; ⟨_,(by kernel_rfl),(O6 (k:=1) (ht.to hw) hS js2.2 jt2.2 D.2.2.ts D.2.2.tt (by decide) D.2.2.nw (by decide)).mono fun v' w' h=>⟨h.1,by have h2:=h.2; rw [D.2.2.w] at h2; exact h2⟩⟩) ?_
 intro y2
 have FL : T3.Flat (joinT (joinT ((gridM m).apply (eP 0)) ((gridM m).apply (eP 1))) (joinT ((gridM m).apply (vP 0 (((2 + IntKind.u64.wrap (n 0) % 5 + 0) : Int) : Rat))) ((gridM m).apply (vP 1 (((2 + IntKind.u64.wrap (n 1) % 5 + 7) : Int) : Rat))))) (joinT (joinT ((gridM m).apply (eP 1)) ((gridM m).apply (eP 2))) (joinT ((gridM m).apply (vP 1 (((2 + IntKind.u64.wrap (n 1) % 5 + 7) : Int) : Rat))) ((gridM m).apply (vP 2 (((2 + IntKind.u64.wrap (n 2) % 5 + 14) : Int) : Rat))))) (joinT (joinT ((gridM m).apply (eP 2)) ((gridM m).apply (eP 0))) (joinT ((gridM m).apply (vP 2 (((2 + IntKind.u64.wrap (n 2) % 5 + 14) : Int) : Rat))) ((gridM m).apply (vP 0 (((2 + IntKind.u64.wrap (n 0) % 5 + 0) : Int) : Rat))))):=(T3.Like.flat D.1.like D.2.1.like D.2.2.like).2 ((M3.flat_apply (ar6 m)).2 (b09 _ _ _))
 refine am8 (pr (.bb false) (.lit .i64 0)) ⟨a8,hS,b7⟩ (by kernel_rfl) (by kernel_rfl) (j9 rfl) rfl (fun β S w hS hM hs hw hG=>have jw2:=hG.1; have jw1:=hG.2.2.2.1; have jw0:=hG.2.2.2.2.1; ⟨_,(by kernel_rfl),gK (bg3 (ht.to hw) (B8 hS) (Q3 (l:=[(joinT (joinT ((gridM m).apply (eP 0)) ((gridM m).apply (eP 1))) (joinT ((gridM m).apply (vP 0 (((2 + IntKind.u64.wrap (n 0) % 5 + 0) : Int) : Rat))) ((gridM m).apply (vP 1 (((2 + IntKind.u64.wrap (n 1) % 5 + 7) : Int) : Rat))))),(joinT (joinT ((gridM m).apply (eP 1)) ((gridM m).apply (eP 2))) (joinT ((gridM m).apply (vP 1 (((2 + IntKind.u64.wrap (n 1) % 5 + 7) : Int) : Rat))) ((gridM m).apply (vP 2 (((2 + IntKind.u64.wrap (n 2) % 5 + 14) : Int) : Rat))))),(joinT (joinT ((gridM m).apply (eP 2)) ((gridM m).apply (eP 0))) (joinT ((gridM m).apply (vP 2 (((2 + IntKind.u64.wrap (n 2) % 5 + 14) : Int) : Rat))) ((gridM m).apply (vP 0 (((2 + IntKind.u64.wrap (n 0) % 5 + 0) : Int) : Rat)))))]) 17 72 [tupAt y0,tupAt y1,tupAt y2] hM (by kernel_rfl) (af7 jw0.2 (af7 jw1.2 (af7 jw2.2 cf3))) (show 3 ≤ maxLen by decide)) (cu1 D.1.tw D.2.1.tw D.2.2.tw) (by decide)) (cq1 FL D.1.bw D.2.1.bw D.2.2.bw)⟩) ?_
 refine s_K (.one (.bb true)) ⟨a8,hS,b7⟩ (by kernel_rfl) (by kernel_rfl) (j9 rfl) rfl (fun β S w hS hs hw hG=>⟨_,(by kernel_rfl),b13 (ht.to hw)⟩) ?_
 exact q8 (.bool true) ⟨a8,hS,b7⟩ (by kernel_rfl) rfl (by kernel_rfl) (fun β=>(by kernel_rfl)) (fun S w hs hw hG=>⟨rfl,hw⟩)
end Go.Proofs.YtpheooheinfbgaaGreatDoor
end
section
set_option linter.unusedVariables false
namespace Go.Proofs.YtpheooheinfbgaaGreatDoor
open Go Go.RowKit Go.ChangeShapes Go.WideShapes
theorem b85 {H : Type} {enc : TypeId × Value → H} {P : Program} {w : World} {base n : Nat} {spare : Nat → Bool} {held : Bool} {e f : TypeId} {fuel : Nat} {cs : List Value} {x : DataW H × List MemPlace}
  (he : P.underlying e = some (.array n f)) (hf : P.underlying f = some (.int .i64)) (hcf : P.cellsOf f = 1) (hce : P.cellsOf e = n) (h : DataW.trod enc P w base spare held fuel e cs = some x) : ∃ a : Nat → Int,cs = (List.range n).map (fun i=>Value.int .i64 (a i)) ∧ ∀ i,i < n → -9223372036854775808 ≤ a i ∧ a i ≤ 9223372036854775807:=by
 cases fuel with
 | zero=>simp [DataW.trod] at h
 | succ fuel=>
  rw [DataW.trod_step] at h
  unfold DataW.trodStep at h
  rw [he] at h
  simp only at h
  split at h
  ·rename_i hl
   rw [hce] at hl
   simp only [Option.map_eq_some_iff] at h
   obtain ⟨xs,hx,rfl⟩:=h
   have hel : ∀ i,i < n → ∃ z : Int,(cs.drop i).take 1 = [.int .i64 z] ∧ -9223372036854775808 ≤ z ∧ z ≤ 9223372036854775807:=by
    intro i hi
    have h1:=mapM_some_get hx i i (by rw [List.getElem?_range hi])
    have hxl:=mapM_some_length hx
    simp at hxl
    rw [List.getElem?_eq_getElem (by omega)] at h1
    rw [hcf,Nat.mul_one] at h1
    obtain ⟨z,h2,_,h3⟩:=DataW.trod_int hf h1
    refine ⟨z,h2,?_⟩
    simp only [Lit.wf,IntKind.min,IntKind.max,IntKind.signed,IntKind.bits,Bool.and_eq_true,decide_eq_true_eq] at h3
    refine ⟨?_,?_⟩ <;> · have h4:=h3; simp at h4; omega
   have hall : ∀ i : Nat,∃ z : Int,i < n → (cs.drop i).take 1 = [.int .i64 z] ∧ -9223372036854775808 ≤ z ∧ z ≤ 9223372036854775807:=by
    intro i
    by_cases hi : i < n
    ·obtain ⟨z,hz⟩:=hel i hi
     exact ⟨z,fun _=>hz⟩
    ·exact ⟨0,fun h=>absurd h hi⟩
   refine ⟨fun i=>(hall i).choose,?_,fun i hi=>((hall i).choose_spec hi).2⟩
   refine List.ext_getElem? fun i=>?_
   by_cases hi : i < n
   ·have h1:=((hall i).choose_spec hi).1
    have h2 : ((cs.drop i).take 1)[0]? = cs[i]?:=by simp
    rw [List.getElem?_map,List.getElem?_range hi]
    exact h2.symm.trans (congrArg (fun l : List Value=>l[0]?) h1)
   ·rw [List.getElem?_eq_none (by omega),List.getElem?_eq_none (by simp; omega)]
  ·cases h
theorem ax6 {P : Program} {w : World} {r : Reach} {base n : Nat} {t e : TypeId} {v : Value} (ht : P.underlying t = some (.array n e)) (h : Value.okWide P w r base t v) : ∃ cs,v = .agg cs:=by
 unfold Value.okWide at h
 rw [ht] at h
 obtain ⟨cs,h1,_⟩:=h
 exact ⟨cs,h1⟩
def arrV (n : Nat) (a : Nat → Int) : Value:=.agg ((List.range n).map fun i=>Value.int .i64 (a i)).toArray
theorem at9 {H : Type} {enc : TypeId × Value → H} {P : Program} {w W : World} {r : Reach} {base b2 n : Nat} {spare : Nat → Bool} {held : Bool} {e f : TypeId} {v : Value} {d : DataW H} {p : List MemPlace}
  (he : P.underlying e = some (.array n f)) (hf : P.underlying f = some (.int .i64)) (hcf : P.cellsOf f = 1) (hce : P.cellsOf e = n) (hv : Value.okWide P W r b2 e v) (h : DataW.Trod enc P w base spare held e v d p) : ∃ a : Nat → Int,v = arrV n a ∧ ∀ i,i < n → -9223372036854775808 ≤ a i ∧ a i ≤ 9223372036854775807:=by
 obtain ⟨cs,rfl⟩:=ax6 he hv
 obtain ⟨fuel,h⟩:=h
 obtain ⟨a,h1,h2⟩:=b85 he hf hcf hce h
 refine ⟨a,?_,h2⟩
 unfold arrV
 rw [← h1]
 simp [Value.cells]
end Go.Proofs.YtpheooheinfbgaaGreatDoor
end
section
set_option linter.unusedVariables false
namespace Go.Proofs.YtpheooheinfbgaaGreatDoor
open Go Go.ChangeShapes Go.WideShapes Go.ChangeAt Go.WideMaps Go.WideElems Go.RowKit
theorem own : ownKnob Tryz.prog.godebug = none:=by kernel_rfl
theorem cr4 : Tryz.prog.globalNamed "internal/strconv.uint64pow10" = some 3 := by kernel_rfl
theorem ct5 : (Tryz.prog.globals[3]?).map (·.type) = some 235:=by kernel_rfl
theorem ct8 : Tryz.prog.cellsOf 235 = 20:=by kernel_rfl
theorem co1 : Tryz.prog.cellsOf 132 = 1:=by kernel_rfl
theorem cs9 : (Rows.laid_internal_strconv_uint64pow10 : DataW Unit) = Lib.tabData .u64 Lib.pow10Tab:=by rfl
end Go.Proofs.YtpheooheinfbgaaGreatDoor
end
section
set_option linter.unusedVariables false
namespace Go.Proofs.YtpheooheinfbgaaGreatDoor
open Go Go.ChangeShapes Go.WideShapes Go.ChangeAt Go.WideMaps Go.WideElems Go.RowKit
theorem cl2 {W : World} (h : laidMetH Tryz.prog Rows.viewPascalRow.laid W) : Tab W:=by
 rw [MakeChecks.laidMetH_plain _ _ _ (by kernel_rfl)] at h
 obtain ⟨ps,⟨g0,t0,cs0,f0,p0,q0,hg0,ht0,hv0,hd0,⟨g1,t1,cs1,f1,p1,q1,hg1,ht1,hv1,hd1,⟨g2,t2,cs2,f2,p2,q2,hg2,ht2,hv2,hd2,_⟩,_⟩,_⟩,_⟩:=h
 obtain rfl:=Option.some.inj (cr4.symm.trans hg2)
 obtain rfl:=Option.some.inj (ct5.symm.trans ht2)
 rw [cs9] at hd2
 unfold Tab Lib.TabIs
 rw [hv2,← Lib.cells_of_tab Tryz.underlying235 Tryz.underlying132 co1 ct8 hd2]
theorem b87 (os : Os) (args : Array Value) : laidMetH Tryz.prog Rows.viewPascalRow.laid ((World.laidAll Tryz.prog os Rows.viewPascalRow.laid).forCall (fun _ _=>0) ⟨#[],args,[]⟩).memory:=by
 rw [MakeChecks.laidMetH_plain _ _ _ (by kernel_rfl)]
 exact laidMet_laidAll _ (by kernel_rfl) (by kernel_rfl)
theorem bj4 : laidOutB Tryz.prog = true:=by kernel_rfl
theorem cm7 : Tryz.prog.cellsOf 34 = 6:=by kernel_rfl
theorem cj2 : Tryz.prog.cellsOf 60 = 9:=by kernel_rfl
theorem bs6 : Tryz.prog.cellsOf 3 = 1:=by kernel_rfl
set_option maxRecDepth 100000 in
theorem at2 (os : Os) (started : os.Started) (H : Type) (enc : TypeId × Value → H) :
  ReturnsInHanded {} Tryz.checked os 4 .any (fun w args=>(Rows.viewPascalSpec.pre enc Tryz.prog Tryz.f4 [] false w args ∧ laidMetH Tryz.prog Rows.viewPascalRow.laid w) ∧ sizedMet enc Tryz.prog Tryz.f4 (OpenSpec.ofChange Rows.viewPascalSpec) false w args)
   (Rows.viewPascalSpec.post enc Tryz.prog Tryz.f4 false true false false):=by
 refine returnsInHanded_of_change_and (C:=Tryz.checked) (X:=fun w _=>laidMetH Tryz.prog Rows.viewPascalRow.laid w) (fun _ _ _ hh h=>h.of_heap hh) own started (by kernel_rfl) Tryz.func4
  (ChangeSpec.witness_shaped (enc:=enc) (C:=Tryz.checked) (os:=os) (X:=fun w _=>laidMetH Tryz.prog Rows.viewPascalRow.laid w) false (World.laidAll Tryz.prog os Rows.viewPascalRow.laid) #[.agg #[.int .i64 0,.int .i64 0,.int .i64 0,.int .i64 0,.int .i64 0,.int .i64 0],.agg #[.int .i64 0,.int .i64 0,.int .i64 0,.int .i64 0,.int .i64 0,.int .i64 0,.int .i64 0,.int .i64 0,.int .i64 0]] 8 (World.laidAll_os _ _ _) (World.shaped_of_ZipB (by kernel_rfl) (by kernel_rfl)) (by kernel_rfl) (by kernel_rfl) (by kernel_rfl) (b87 os _)) ?_
 intro W base args ds gs before hval0 hW _ _ hL _
 have hval : ∀ (j : Nat) t v,Tryz.f4.params[j]? = some t → args[j]? = some v → Value.okWide Tryz.prog W .any base t v:=hval0
 have hW':=hW
 obtain ⟨p,q,hA0,hV,rfl,hfz,hnd⟩:=hW
 have hA : DataW.TrodAll enc Tryz.prog W 0 (fun _=>true) true Tryz.f4.params.toList args.toList ds p:=hA0
 rw [Tryz.params4] at hA hval
 obtain ⟨v0,v1,d0,d1,p0,p1,rfl,rfl,rfl,h0,h1⟩:=trodAll_two hA
 obtain ⟨rfl,rfl⟩:=trodVars_none hV
 have h0k:=h0
 have h1k:=h1
 obtain ⟨a,rfl,_⟩:=at9 Tryz.underlying34 Tryz.underlying3 bs6 cm7 (hval 0 34 v0 rfl rfl) h0
 obtain ⟨b,rfl,_⟩:=at9 Tryz.underlying60 Tryz.underlying3 bs6 cj2 (hval 1 60 v1 rfl rfl) h1
 clear hA0 hval0
 have hlt : ∀ x ∈ p0 ++ p1,x.block < W.heap.size:=fun x hx=>hW'.lt x (List.mem_append_left _ hx)
 have hargs0 : ∀ (W' : World),Below W.heap.size W W' → DataW.Trod enc Tryz.prog W' 0 (fun b=>decide (b < W.heap.size)) true 34 (arrV 6 a) d0 p0:=
  fun W' hn=>Below.trod bj4 (by kernel_rfl) (of_decide_eq_true (by kernel_rfl)) h0k hn fun x hx=>hlt x (List.mem_append_left _ hx)
 have hargs1 : ∀ (W' : World),Below W.heap.size W W' → DataW.Trod enc Tryz.prog W' 0 (fun b=>decide (b < W.heap.size)) true 60 (arrV 9 b) d1 p1:=
  fun W' hn=>Below.trod bj4 (by kernel_rfl) (of_decide_eq_true (by kernel_rfl)) h1k hn fun x hx=>hlt x (List.mem_append_right _ hx)
 refine Calls.mono (a04 (n:=a) (m:=b) (cl2 hL)) fun e W' ⟨v,he,hv,hw⟩=>?_
 subst he hv
 refine ⟨_,rfl,_,_,_,[],p0 ++ p1,[],hW',?_,?_,rfl,hw.below.frame _,fun h=>by cases h⟩
 ·exact trodAll_mk1 (shut_bool Tryz.underlying4 _)
 ·exact trodAll_mk2 (hargs0 W' hw.below) (hargs1 W' hw.below)
theorem bf9 : Rows.ViewPascalSaid:=
 OpenClaim.holds_of_wide 4 Tryz.f4 rfl rfl rfl rfl rfl rfl rfl ⟨rfl,rfl,rfl,rfl,rfl⟩ rfl rfl rfl rfl rfl (by kernel_rfl) Tryz.func4 (by kernel_rfl)
  (of_decide_eq_true (by kernel_rfl)) (by unfold Func.isWrapper; first | (rw [if_pos (by decide +kernel)]; kernel_rfl) | (rw [if_neg (by decide +kernel)]; exact ⟨rfl,rfl⟩))
  (fun os started H enc _=>at2 os started H enc)
set_option maxHeartbeats 4000000 in
set_option maxRecDepth 100000 in
theorem pascal_holds : Rows.ViewPascalCardSaid:=
 Claim7.holds_tied_plain_at .later [] [.data,.data,.data,.data,.sentinel,.sentinel,.pinned] true Rows.viewPascalCard.stood.harness true
  bf9 (fun _ h=>by cases h) (by kernel_rfl) (fun _ h=>by cases h) viewPascal_row_tie rfl ⟨rfl,rfl⟩ (by kernel_rfl) rfl
  (fun f fn hf hfn=>by
   obtain rfl : f = 4 := Option.some.inj ((show Tryz.prog.funcNamed "rabbet/rabbetlaw06.ViewPascal" = some 4 by kernel_rfl).symm.trans hf) |>.symm
   obtain rfl : fn = Tryz.f4:=(Option.some.inj (Tryz.func4.symm.trans hfn)).symm
   exact ⟨by kernel_rfl,fun j t ht=>by
    rw [Tryz.params4] at ht
    rcases j with _ | _ | j
    ·obtain rfl : t = 34:=by simpa using ht.symm
     exact (show Tryz.prog.wantsStandIn 34 = false by kernel_rfl)
    ·obtain rfl : t = 60:=by simpa using ht.symm
     exact (show Tryz.prog.wantsStandIn 60 = false by kernel_rfl)
    ·simp at ht⟩)
  (by kernel_rfl)
end Go.Proofs.YtpheooheinfbgaaGreatDoor
end

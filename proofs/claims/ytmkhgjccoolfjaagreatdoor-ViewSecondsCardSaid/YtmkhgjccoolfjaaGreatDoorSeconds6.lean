/- Part 6. -/
import Derived.Test.YtmkhgjccoolfjaaGreatDoorSeconds3
import Derived.Test.YtmkhgjccoolfjaaGreatDoorSeconds5
set_option linter.unusedSectionVars false
set_option linter.unusedSimpArgs false
set_option linter.unusedVariables false
set_option maxRecDepth 100000
set_option maxHeartbeats 8000000
section
namespace Go.Proofs.YtmkhgjccoolfjaaGreatDoor
open Go Tryz
variable {k : Rat} {p q r p' q' v : T3}
structure M3 where
 a : T3
 b : T3
 c : T3
namespace T3
def smul (k : Rat) (p : T3) : T3:=⟨k * p.x,k * p.y,k * p.z⟩
theorem bm2 (k l : Rat) (p q : T3) : (p.smul k).cross (q.smul l) = (p.cross q).smul (k * l):=by
 ext <;> simp only [smul,cross] <;> grind
theorem b99 (k l : Rat) (p q : T3) : (p.smul k).dot (q.smul l) = k * l * p.dot q:=by
 simp only [smul,dot]; grind
theorem smul_none (hk : k ≠ 0) : (p.smul k).None ↔ p.None:=by
 unfold None smul
 simp only [Rat.mul_eq_zero,hk,false_or]
theorem cw4 {l m : Rat} (hk : k ≠ 0) (hl : l ≠ 0) (hm : m ≠ 0) : Flat (p.smul k) (q.smul l) (r.smul m) ↔ Flat p q r:=by
 unfold Flat
 rw [bm2,b99]
 constructor
 ·intro h
  rcases Rat.mul_eq_zero.1 h with h | h
  ·rcases Rat.mul_eq_zero.1 h with h | h
   ·rcases Rat.mul_eq_zero.1 h with h | h
    ·exact absurd h hk
    exact absurd h hl
   exact absurd h hm
  exact h
 intro h; rw [h,Rat.mul_zero]
def Like (p q : T3) : Prop:=∃ k,k ≠ 0 ∧ p = q.smul k
theorem cu3 (k l : Rat) (p : T3) : (p.smul k).smul l = p.smul (l * k):=by
 ext <;> simp only [smul] <;> grind
theorem de3 (p : T3) : p.smul 1 = p:=by
 ext <;> simp only [smul] <;> grind
theorem Like.rfl : Like p p:=⟨1,by decide,(de3 p).symm⟩
theorem Like.trans (h : Like p q) (k : Like q r) : Like p r:=by
 obtain ⟨a,ha,rfl⟩:=h
 obtain ⟨b,hb,rfl⟩:=k
 refine ⟨a * b,?_,cu3 _ _ _⟩
 intro h
 rcases Rat.mul_eq_zero.1 h with h | h
 ·exact ha h
 exact hb h
theorem Like.cross (h : Like p p') (k : Like q q') : Like (p.cross q) (p'.cross q'):=by
 obtain ⟨a,ha,rfl⟩:=h
 obtain ⟨b,hb,rfl⟩:=k
 refine ⟨a * b,?_,bm2 _ _ _ _⟩
 intro h
 rcases Rat.mul_eq_zero.1 h with h | h
 ·exact ha h
 exact hb h
theorem Like.none (h : Like p p') : p.None ↔ p'.None:=by
 obtain ⟨a,ha,rfl⟩:=h
 exact smul_none ha
theorem Like.same (h : Like p p') (k : Like q q') : Same p q ↔ Same p' q':=(h.cross k).none
theorem Like.flat {r' : T3} (h : Like p p') (k : Like q q') (l : Like r r') : Flat p q r ↔ Flat p' q' r':=by
 obtain ⟨a,ha,rfl⟩:=h
 obtain ⟨b,hb,rfl⟩:=k
 obtain ⟨c,hc,rfl⟩:=l
 exact cw4 ha hb hc
theorem like_normal (h : ¬ p.None) : Like p.normal p:=by
 have hl:=lead_ne h
 refine ⟨1 / p.lead,by grind,?_⟩
 ext <;> simp only [smul,normal,over] <;> grind
end T3
namespace M3
def det (m : M3) : Rat:=m.a.dot (m.b.cross m.c)
def apply (m : M3) (p : T3) : T3:=⟨m.a.dot p,m.b.dot p,m.c.dot p⟩
def cof (m : M3) : M3:=⟨m.b.cross m.c,m.c.cross m.a,m.a.cross m.b⟩
theorem cross_apply (m : M3) (p q : T3) : (m.apply p).cross (m.apply q) = m.cof.apply (p.cross q):=by
 ext <;> simp only [apply,cof,T3.cross,T3.dot] <;> grind
theorem cq9 (m : M3) (p : T3) : m.cof.cof.apply p = (m.apply p).smul m.det:=by
 ext <;> simp only [apply,cof,det,T3.cross,T3.dot,T3.smul] <;> grind
theorem ff0 (m : M3) (v : T3) : m.det * v.x = m.a.x * (m.cof.apply v).x + m.b.x * (m.cof.apply v).y + m.c.x * (m.cof.apply v).z ∧
  m.det * v.y = m.a.y * (m.cof.apply v).x + m.b.y * (m.cof.apply v).y + m.c.y * (m.cof.apply v).z ∧ m.det * v.z = m.a.z * (m.cof.apply v).x + m.b.z * (m.cof.apply v).y + m.c.z * (m.cof.apply v).z:=by
 refine ⟨?_,?_,?_⟩ <;> simp only [apply,cof,det,T3.cross,T3.dot] <;> grind
theorem b43 {m : M3} (h : m.det ≠ 0) : (m.cof.apply v).None ↔ v.None:=by
 obtain ⟨h1,h2,h3⟩:=ff0 m v
 constructor
 ·rintro ⟨e1,e2,e3⟩
  rw [e1,e2,e3] at h1 h2 h3
  have z : ∀ x : Rat,m.det * x = 0 → x = 0:=fun x hx=>(Rat.mul_eq_zero.1 hx).resolve_left h
  exact ⟨z _ (by rw [h1]; grind),z _ (by rw [h2]; grind),z _ (by rw [h3]; grind)⟩
 rintro ⟨e1,e2,e3⟩
 unfold T3.None apply T3.dot
 simp only [e1,e2,e3]
 refine ⟨?_,?_,?_⟩ <;> grind
theorem cn1 (m : M3) : m.cof.det = m.det * m.det:=by
 simp only [det,cof,T3.cross,T3.dot]; grind
theorem c55 {m : M3} (h : m.det ≠ 0) : m.cof.det ≠ 0:=by
 rw [cn1]
 intro e
 rcases Rat.mul_eq_zero.1 e with e | e <;> exact h e
theorem cofcof_like {m : M3} (h : m.det ≠ 0) (v : T3) : T3.Like (m.cof.cof.apply v) (m.apply v):=by
 rw [cq9]
 exact ⟨m.det,h,rfl⟩
theorem same_apply {m : M3} (h : m.det ≠ 0) : T3.Same (m.apply p) (m.apply q) ↔ T3.Same p q:=by
 unfold T3.Same
 rw [cross_apply]
 exact b43 h
theorem same_cof {m : M3} (h : m.det ≠ 0) : T3.Same (m.cof.apply p) (m.cof.apply q) ↔ T3.Same p q:=same_apply (c55 h)
theorem apply_none {m : M3} (h : m.det ≠ 0) : (m.apply v).None ↔ v.None:=by
 have h1:=b43 (c55 h) (v:=v)
 rw [cq9,T3.smul_none h] at h1
 exact h1
theorem flat_apply {m : M3} (h : m.det ≠ 0) : T3.Flat (m.apply p) (m.apply q) (m.apply r) ↔ T3.Flat p q r:=by
 unfold T3.Flat
 have e : ((m.apply p).cross (m.apply q)).dot (m.apply r) = m.det * (p.cross q).dot r:=by
  simp only [apply,det,T3.cross,T3.dot]; grind
 rw [e]
 constructor
 ·intro h1; exact (Rat.mul_eq_zero.1 h1).resolve_left h
 intro h1; rw [h1,Rat.mul_zero]
end M3
structure Six6 where
 p0 : T3
 p1 : T3
 p2 : T3
 p3 : T3
 p4 : T3
 p5 : T3
namespace Six6
def l0 (s : Six6) : T3:=s.p0.cross s.p1
def l1 (s : Six6) : T3:=s.p1.cross s.p2
def l2 (s : Six6) : T3:=s.p2.cross s.p3
def l3 (s : Six6) : T3:=s.p3.cross s.p4
def l4 (s : Six6) : T3:=s.p4.cross s.p5
def l5 (s : Six6) : T3:=s.p5.cross s.p0
def m0 (s : Six6) : T3:=s.l0.cross s.l3
def m1 (s : Six6) : T3:=s.l1.cross s.l4
def m2 (s : Six6) : T3:=s.l2.cross s.l5
structure Ok (s : Six6) : Prop where
 d01 : ¬ T3.Same s.p1 s.p0
 d02 : ¬ T3.Same s.p2 s.p0
 d03 : ¬ T3.Same s.p3 s.p0
 d04 : ¬ T3.Same s.p4 s.p0
 d05 : ¬ T3.Same s.p5 s.p0
 d12 : ¬ T3.Same s.p2 s.p1
 d13 : ¬ T3.Same s.p3 s.p1
 d14 : ¬ T3.Same s.p4 s.p1
 d15 : ¬ T3.Same s.p5 s.p1
 d23 : ¬ T3.Same s.p3 s.p2
 d24 : ¬ T3.Same s.p4 s.p2
 d25 : ¬ T3.Same s.p5 s.p2
 d34 : ¬ T3.Same s.p4 s.p3
 d35 : ¬ T3.Same s.p5 s.p3
 d45 : ¬ T3.Same s.p5 s.p4
 o0 : ¬ T3.Same s.l0 s.l3
 o1 : ¬ T3.Same s.l1 s.l4
 o2 : ¬ T3.Same s.l2 s.l5
 fl : T3.Flat s.m0 s.m1 s.m2
 ns : ¬ (T3.Same s.m0 s.m1 ∧ T3.Same s.m0 s.m2)
def map (m : M3) (s : Six6) : Six6:=⟨m.apply s.p0,m.apply s.p1,m.apply s.p2,m.apply s.p3,m.apply s.p4,m.apply s.p5⟩
theorem Ok.map {m : M3} (h : m.det ≠ 0) {s : Six6} (k : s.Ok) : (s.map m).Ok:=by
 have e0 : T3.Like (s.map m).m0 (m.apply s.m0):=by unfold m0 l0 l3 Six6.map; simp only [M3.cross_apply]; exact M3.cofcof_like h _
 have e1 : T3.Like (s.map m).m1 (m.apply s.m1):=by unfold m1 l1 l4 Six6.map; simp only [M3.cross_apply]; exact M3.cofcof_like h _
 have e2 : T3.Like (s.map m).m2 (m.apply s.m2):=by unfold m2 l2 l5 Six6.map; simp only [M3.cross_apply]; exact M3.cofcof_like h _
 refine ⟨?_,?_,?_,?_,?_,?_,?_,?_,?_,?_,?_,?_,?_,?_,?_,?_,?_,?_,?_,?_⟩
 ·exact fun e=>k.d01 ((M3.same_apply h).1 e)
 ·exact fun e=>k.d02 ((M3.same_apply h).1 e)
 ·exact fun e=>k.d03 ((M3.same_apply h).1 e)
 ·exact fun e=>k.d04 ((M3.same_apply h).1 e)
 ·exact fun e=>k.d05 ((M3.same_apply h).1 e)
 ·exact fun e=>k.d12 ((M3.same_apply h).1 e)
 ·exact fun e=>k.d13 ((M3.same_apply h).1 e)
 ·exact fun e=>k.d14 ((M3.same_apply h).1 e)
 ·exact fun e=>k.d15 ((M3.same_apply h).1 e)
 ·exact fun e=>k.d23 ((M3.same_apply h).1 e)
 ·exact fun e=>k.d24 ((M3.same_apply h).1 e)
 ·exact fun e=>k.d25 ((M3.same_apply h).1 e)
 ·exact fun e=>k.d34 ((M3.same_apply h).1 e)
 ·exact fun e=>k.d35 ((M3.same_apply h).1 e)
 ·exact fun e=>k.d45 ((M3.same_apply h).1 e)
 ·exact fun e=>k.o0 ((M3.same_cof h).1 (by unfold l0 l3 Six6.map at e; simp only [M3.cross_apply] at e; exact e))
 ·exact fun e=>k.o1 ((M3.same_cof h).1 (by unfold l1 l4 Six6.map at e; simp only [M3.cross_apply] at e; exact e))
 ·exact fun e=>k.o2 ((M3.same_cof h).1 (by unfold l2 l5 Six6.map at e; simp only [M3.cross_apply] at e; exact e))
 ·exact (e0.flat e1 e2).2 ((M3.flat_apply h).2 k.fl)
 exact fun e=>k.ns ⟨(M3.same_apply h).1 ((e0.same e1).1 e.1),(M3.same_apply h).1 ((e0.same e2).1 e.2)⟩
end Six6
namespace T3
theorem same_symm {u : T3} (h : Same u v) : Same v u:=by
 obtain ⟨h1,h2,h3⟩:=h
 simp only [cross] at h1 h2 h3
 refine ⟨?_,?_,?_⟩ <;> simp only [cross] <;> grind
end T3
end Go.Proofs.YtmkhgjccoolfjaaGreatDoor
end
section
namespace Go.Proofs.YtmkhgjccoolfjaaGreatDoor
open Go Go.RowKit Tryz
section
variable {c : Cx} {st : St} {G : Gh} {all : List Oper} {K : List HRec → Prop} {acc : List HRec} {ops : List Oper}
def dg9 (c : Cx) (st : St) (acc : List HRec) (ops : List Oper) (η : Nat → Value) : Option (Value × Nat × Int × Nat):=match (opH ops).op with
 | .indexAddr T x ix=>match opd (frH st acc η) x,opd (frH st acc η) ix,B9 c.E T with
  | some (.one (.val v)),some (.one (.lit _ z)),.array n e=>(c.E.get e).map fun te=>(v,n,z,te.size)
  | _,_,_=>none
 | _=>none
theorem ak8 (u : Value) (n : Nat) (i : Int) (sz : Nat) (hc : c.Ok) (hok : ∀ η,am7 all st acc ops η = true) (hq : ∀ η,dg9 c st acc ops η = some (u,n,i,sz)) (h0 : 0 ≤ i) (h1 : i < n)
  (h : ∀ β η S w,Mem c.bs st.hp β w → Keeps c.K c.w0 w → G.p S w → depsH acc (opH ops).after.toList η S w → ∃ b k,u = .pointer (some ⟨b,k,none⟩))
  (k : Hd c st G all K (.spec ((opH ops).dst.getD 0) (fun x=>.one (.val x)) (fun x=>o8 (x = n7 u (i.toNat * sz))) :: acc) (ops.drop 1)) : Hd c st G all K acc ops:=by
 refine bj7 (fun x=>.one (.val x)) (fun x=>o8 (x = n7 u (i.toNat * sz))) hok (fun β η S w F m ty hkn hup hM hS hw hG hd=>?_) k
 have hq:=hq η
 unfold dg9 at hq
 split at hq <;> first | (cases hq; done) | skip
 rename_i T x ix hop
 split at hq <;> first | (cases hq; done) | skip
 rename_i v kd z n' e hx hix hk
 cases hte : c.E.get e with
 | none=>rw [hte] at hq; cases hq
 | some te=>
  rw [hte] at hq
  simp only [Option.map_some,Option.some.injEq,Prod.mk.injEq] at hq
  obtain ⟨rfl,rfl,rfl,rfl⟩:=hq
  have hkd:=D8 (t:=T) hc.env
  rw [hk] at hkd
  have hkd' : c.P.underlying T = some (.array n' e):=hkd
  obtain ⟨zz,hty,_⟩:=(hc.env.get hte).ty
  obtain ⟨b,k',hu⟩:=h β η S w hM hw hG hd
  rw [hop] at hkn ⊢
  have g1 : ev F x = .pointer (some ⟨b,k',none⟩):=by rw [(hkn x (by simp [Op.operands]) _ hx).1]; exact hu
  have g2:=(hkn ix (by simp [Op.operands]) _ hix).1
  refine ⟨n7 v (z.toNat * te.size),?_,rfl,a01 _ _,rfl⟩
  rw [hu]
  intro d pos aft g
  simp [execOp,g1,g2,SV.den,Ch.den,Instr.indexAt,asIntOf,run_underlying hkd',Instr.sureAddr,h0,h1,hty.runSize w,Z0,n7]
theorem s3 (u : Value) (n : Nat) (i : Int) (sz : Nat) (h0 : 0 ≤ i) (h1 : i < n) (h : ∀ β η S w,Mem c.bs st.hp β w → Keeps c.K c.w0 w → G.p S w → depsH acc (opH ops).after.toList η S w → ∃ b k,u = .pointer (some ⟨b,k,none⟩)) (k : Hd c st G all K (.spec ((opH ops).dst.getD 0) (fun x=>.one (.val x)) (fun x=>o8 (x = n7 u (i.toNat * sz))) :: acc) (ops.drop 1)) (hc : c.Ok:=by exact ⟨c8,by assumption,l8⟩) (hok : ∀ η,am7 all st acc ops η = true:=by intros; kernel_rfl) (hq : ∀ η,dg9 c st acc ops η = some (u,n,i,sz):=by intros; kernel_rfl) : Hd c st G all K acc ops:=
 ak8 u n i sz hc hok hq h0 h1 h k
end
variable {g : Bool} {S T T0 V V' S0 K : Nat → Prop} {w W w' : World} {u v a1 a2 a3 c1 c2 c3 vp : Value} {vs x args : List Value} {i n B b C m r : Nat} {t p q l q' : T3} {P : Program} {X : Nat → List Value → Gh} {J : (Nat → Prop) → (Nat → Prop) → Nat → Bool → World → Prop} {f : FuncId} {β : Nat → Nat} {ρ : Fr} {E : Env} {code : Code} {ls : List SV} {G : Gh} {base : Bs} {hp : List HE} {Q : G8} {A : AbsE} {o : Out} {Ψ : Value → World → Prop} {rs : List ResultVar} {a : Rat} {z : Int}
theorem At.part {s : Nat} (h : At S w u (A7 vs)) (hl : ∀ x ∈ vs,P6 g s x) {x : Value} (hx : vs[i]? = some x) : At S w (n7 u (i * s)) x.cells.toList:=by
 obtain ⟨b,o,arr,T,fr,h1,h2,h3,h4,h5⟩:=h
 have hi:=(List.getElem?_eq_some_iff.1 hx).1
 have hx1:=(hl x (List.mem_of_getElem? hx)).1
 have hc:=Z3 hl
 have h6:=ap7 hl hx
 have hle : (i + 1) * s ≤ vs.length * s:=Nat.mul_le_mul_right _ hi
 rw [Nat.add_mul,Nat.one_mul] at hle
 refine ⟨b,o + i * s,arr,T,fr,by rw [h1]; rfl,h2,h3,by rw [hx1]; omega,?_⟩
 rw [hx1,← h6]
 show ((arr.toList.drop (o + i * s)).take s) = ((A7 vs).drop (i * s)).take s
 rw [← h5,hc,List.drop_take,List.drop_drop,List.take_take]
 congr 1
 omega
def Six6.list (s : Six6) : List T3:=[s.p0,s.p1,s.p2,s.p3,s.p4,s.p5]
def HexP (S : Nat → Prop) (w : World) (u : Value) (s : Six6) : Prop:=∃ vs,At S w u (A7 vs) ∧ ElsV true 9 al6 S w vs s.list
abbrev d20 (u : Value) (s : Six6) : Gh:=⟨fun S w=>HexP S w u s,fun ⟨vs,h1,h2⟩ k=>⟨vs,h1.keep k,(bh3 true 9 al6 vs s.list).keep h2 k⟩,fun ⟨vs,h1,h2⟩ k=>⟨vs,h1.mono k,(bh3 true 9 al6 vs s.list).mono h2 k⟩⟩
section
variable {S : Nat → Prop} {w : World} {u : Value} {s : Six6}
theorem HexP.ptr (h : HexP S w u s) : ∃ b k,u = .pointer (some ⟨b,k,none⟩):=by
 obtain ⟨vs,⟨b,o,_,_,_,h1,_⟩,_⟩:=h
 exact ⟨b,o,h1⟩
theorem HexP.el (h : HexP S w u s) {p : Value} (hi : s.list[i]? = some t) (hp : p = n7 u (i * 9)) : ∃ S' x,P6 true 9 x ∧ At S' w p x.cells.toList ∧ (j5 x t).p S w:=by
 subst hp
 obtain ⟨vs,h1,h2⟩:=h
 have hl : i < vs.length:=by rw [h2.len]; exact (List.getElem?_eq_some_iff.1 hi).1
 have hx : vs[i]? = some vs[i]:=List.getElem?_eq_getElem hl
 exact ⟨S,vs[i],h2.lies _ (List.getElem_mem _),h1.part h2.lies hx,h2.el i t _ hi hx⟩
theorem HexP.seq (h : HexP S w u s) : ∃ b k,u = .pointer (some ⟨b,k,none⟩) ∧ (cn5 (.slice (some ⟨b,k,none⟩) 6 6) s.list).p S w:=by
 obtain ⟨vs,h1,h2⟩:=h
 exact d77 h2 h1 (show 6 ≤ maxLen by decide)
end
theorem fc1 {s : Six6} {P : T3 → Prop} (h0 : P s.p0) (h1 : P s.p1) (h2 : P s.p2) (h3 : P s.p3) (h4 : P s.p4) (h5 : P s.p5) : ∀ t ∈ s.list,P t:=by
 intro t ht
 simp only [Six6.list,List.mem_cons,List.not_mem_nil,or_false] at ht
 rcases ht with rfl | rfl | rfl | rfl | rfl | rfl
 ·exact h0
 ·exact h1
 ·exact h2
 ·exact h3
 ·exact h4
 exact h5
namespace Six6
def n0 (s : Six6) : T3:=(s.l0.normal.cross s.l3.normal).normal
def n1 (s : Six6) : T3:=(s.l1.normal.cross s.l4.normal).normal
def n2 (s : Six6) : T3:=(s.l2.normal.cross s.l5.normal).normal
noncomputable def line (s : Six6) : T3:=if T3.Same s.n0 s.n1 then (s.n0.cross s.n2).normal else (s.n0.cross s.n1).normal
structure Few (s : Six6) (k : Nat) : Prop where
 t0 : tl s.p0 k
 t1 : tl s.p1 k
 t2 : tl s.p2 k
 t3 : tl s.p3 k
 t4 : tl s.p4 k
 t5 : tl s.p5 k
end Six6
theorem W8 {k : Nat} (hp : tl p k) (hq : tl q k) : tl (p.cross q).normal (6 * k + 1) ∧ il (p.cross q).normal (6 * k + 1):=by
 have h:=bi3 (cb6 hp) (cb6 hq)
 have h2 : il (p.cross q) (6 * k + 1):=c86 h (by omega)
 exact ⟨aw7 h2 (by omega),bu3 h2⟩
theorem aw0 {u v : T3} {k : Nat} (hu : il u (6 * k + 1)) (hv : il v (6 * k + 1)) : tl (u.cross v).normal (12 * k + 3) ∧ il (u.cross v).normal (12 * k + 3):=by
 have h2 : il (u.cross v) (12 * k + 3):=c86 (bi3 hu hv) (by omega)
 exact ⟨aw7 h2 (by omega),bu3 h2⟩
theorem bf7 {u v : T3} {k : Nat} (hu : il u (12 * k + 3)) (hv : il v (12 * k + 3)) : tl (u.cross v).normal (24 * k + 7):=aw7 (c86 (bi3 hu hv) (by omega)) (by omega)
def HexV (S : Nat → Prop) (w : World) (v : Value) (s : Six6) : Prop:=(SV.one (.ag 54 v)).Ok 0 ∧ ∃ vs,v.cells.toList = A7 vs ∧ ElsV true 9 al6 S w vs s.list
abbrev fe0 (v : Value) (s : Six6) : Gh:=⟨fun S w=>HexV S w v s,fun ⟨o,vs,h1,h2⟩ k=>⟨o,vs,h1,(bh3 true 9 al6 vs s.list).keep h2 k⟩,fun ⟨o,vs,h1,h2⟩ k=>⟨o,vs,h1,(bh3 true 9 al6 vs s.list).mono h2 k⟩⟩
theorem HexV.ok {s : Six6} (h : HexV S w v s) : (SV.one (.ag 54 v)).Ok 0:=h.1
theorem c44 {s : Six6} {T : TypeId} (h : (ch7 u T (d6 (fun _=>0) [.ag 54 v])).p S w) (hv : HexV S w v s) : HexP S w u s:=by
 obtain ⟨b,rfl,hs,hB⟩:=h
 rw [Y9] at hB
 obtain ⟨_,vs,e1,e2⟩:=hv
 refine ⟨vs,?_,e2⟩
 rw [← e1]
 exact ⟨b,0,v.cells.toList.toArray,T,(0,0),rfl,hs,hB,by simp,by rw [List.drop_zero]; exact List.take_of_length_le (Nat.le_refl _)⟩
theorem Six6.line_ne {s : Six6} (g : s.Ok) : ¬ s.line.None:=by
 have D : ∀ {p q : T3},¬ T3.Same p q → T3.Like (p.cross q).normal (p.cross q):=fun h=>T3.like_normal h
 have L0 : T3.Like s.l0.normal s.l0:=D fun e=>g.d01 (T3.same_symm e)
 have L1 : T3.Like s.l1.normal s.l1:=D fun e=>g.d12 (T3.same_symm e)
 have L2 : T3.Like s.l2.normal s.l2:=D fun e=>g.d23 (T3.same_symm e)
 have L3 : T3.Like s.l3.normal s.l3:=D fun e=>g.d34 (T3.same_symm e)
 have L4 : T3.Like s.l4.normal s.l4:=D fun e=>g.d45 (T3.same_symm e)
 have L5 : T3.Like s.l5.normal s.l5:=D g.d05
 have N0 : T3.Like s.n0 s.m0:=(D fun e=>g.o0 ((L0.same L3).1 e)).trans (L0.cross L3)
 have N1 : T3.Like s.n1 s.m1:=(D fun e=>g.o1 ((L1.same L4).1 e)).trans (L1.cross L4)
 have N2 : T3.Like s.n2 s.m2:=(D fun e=>g.o2 ((L2.same L5).1 e)).trans (L2.cross L5)
 unfold Six6.line
 split
 ·rename_i h1
  exact fun e=>g.ns ⟨(N0.same N1).1 h1,(N0.same N2).1 (T3.normal_none.1 e)⟩
 rename_i h1
 exact fun e=>h1 (T3.normal_none.1 e)
variable {s : Six6}
def ah2 (l : Nat) : Value:=.func (.yield l) #[] #[]
structure SeqA (P : Program) (l : Nat) (X : Nat → List Value → Gh) (n : Nat) (B : Nat → Prop) (W : World) (T0 : Nat → Prop) (J : (Nat → Prop) → (Nat → Prop) → Nat → Bool → World → Prop) : Prop where
 stab : ∀ T V k f W1 W2,J T V k f W1 → W1.heap.size ≤ W2.heap.size → (∀ b,T b ∨ V b → W2.heap[b]? = W1.heap[b]?) → Keeps (fun b=>¬ T0 b) W W2 → J T V k f W2
 fits : ∀ T V k f W1,J T V k f W1 → ∀ b,T b → b < W1.heap.size
 t0 : ∀ T V k f W1,J T V k f W1 → ∀ b,T0 b → T b
 yld : ∀ T V V' k x W1,k < n → J T V k true W1 → Keeps (fun b=>¬ T0 b) W W1 → (∀ b,V b → V' b) → (∀ b,V' b → ¬ T b ∧ b < W1.heap.size ∧ B b) → (X k x).p V' W1 → YieldAt Fence.wide 0 P l x.toArray W1 fun e W'=>
  ∃ f T',e = .returned (.bool f) ∧ J T' V' (k + 1) f W' ∧ Keeps (fun b=>¬ T b) W1 W' ∧ ∀ b,T' b → T b ∨ W1.heap.size ≤ b
def d84 (P : Program) (gf : FuncId) (lb : List Value) (X : Nat → List Value → Gh) (n n0 : Nat) (S : Nat → Prop) (w : World) : Prop:=
 ∀ l W T0 J,Keeps S w W → (∀ b,b < w.heap.size → S b → ¬ T0 b) → SeqA P l X n (fun b=>(S b ∧ b < n0) ∨ n0 ≤ b) W T0 J → J T0 (fun _=>False) 0 true W →
  Gives P gf (ah2 l :: lb) W fun _ W'=>Keeps (fun b=>¬ T0 b) W W' ∧ ∃ T' V' k,(k = n ∧ J T' V' k true W') ∨ J T' V' k false W'
theorem SeqA.bound {l : Nat} {B B' : Nat → Prop} (q : SeqA P l X n B W T0 J) (h : ∀ b,B' b → B b) : SeqA P l X n B' W T0 J:=
 ⟨q.stab,q.fits,q.t0,fun T V V' k x W1 hk hJ hkp h1 h2 h3=>q.yld T V V' k x W1 hk hJ hkp h1 (fun b hb=>⟨(h2 b hb).1,(h2 b hb).2.1,h b (h2 b hb).2.2⟩) h3⟩
abbrev du7 (P : Program) (gf : FuncId) (lb : List Value) (X : Nat → List Value → Gh) (n n0 : Nat) : Gh:=⟨fun S w=>n0 ≤ w.heap.size ∧ d84 P gf lb X n n0 S w,
 fun h k=>⟨Nat.le_trans h.1 k.size,fun l W T0 J h1 h2 h3 h4=>h.2 l W T0 J (k.trans h1) (fun b hb g=>h2 b (Nat.lt_of_lt_of_le hb k.size) g) h3 h4⟩,
 fun h hs=>⟨h.1,fun l W T0 J h1 h2 h3 h4=>h.2 l W T0 J ⟨h1.os,h1.tape,h1.output,h1.size,fun k hk hk2=>h1.block k hk (hs k hk hk2)⟩ (fun b hb hb2=>h2 b hb (hs b hb hb2)) (h3.bound fun b hb=>hb.imp (fun hb=>⟨hs b (Nat.lt_of_lt_of_le hb.2 h.1) hb.1,hb.2⟩) id) h4⟩⟩
theorem ci9 (h : b < w.heap.size) (e : w'.heap[b]? = w.heap[b]?) : b < w'.heap.size:=by
 rw [Array.getElem?_eq_getElem h] at e
 exact (Array.getElem?_eq_some_iff.1 e).1
def at6 (W : World) (T0 : Nat → Prop) (J : (Nat → Prop) → (Nat → Prop) → Nat → Bool → World → Prop) (T V : Nat → Prop) (C : Nat → Option Obj) (k : Nat) (f : Bool) : AbsE where
 Q:=T
 R:=fun w=>(∀ b,T b → b < w.heap.size) ∧ (∀ b,T0 b → T b) ∧ ∀ w2,w.heap.size ≤ w2.heap.size → (∀ b,T b → w2.heap[b]? = w.heap[b]?) → (∀ b,V b → w2.heap[b]? = C b) → Keeps (fun b=>¬ T0 b) W w2 → J T V k f w2
 frame:=fun w w' ⟨h1,h0,h2⟩ hz hs=>⟨fun b hb=>ci9 (h1 b hb) (hs b hb),h0,fun w2 h0 h3 h4=>h2 w2 (Nat.le_trans hz h0) (fun b hb=>(h3 b hb).trans (hs b hb)) h4⟩
theorem SeqA.entry {l : Nat} {B : Nat → Prop} (q : SeqA P l X n B W T0 J) {C : Nat → Option Obj} {k : Nat} {f : Bool} (h : J T V k f w) (hC : ∀ b,V b → w.heap[b]? = C b) : (at6 W T0 J T V C k f).R w:=
 ⟨q.fits T V k f w h,q.t0 T V k f w h,fun w2 h0 h1 h2 h3=>q.stab T V k f w w2 h h0 (fun b hb=>hb.elim (h1 b) fun hv=>(h2 b hv).trans (hC b hv).symm) h3⟩
abbrev df0 (V : Nat → Prop) (C : Nat → Option Obj) : Gh:=⟨fun S w=>∀ b,V b → S b ∧ b < w.heap.size ∧ w.heap[b]? = C b,
 fun h k b hb=>⟨(h b hb).1,Nat.lt_of_lt_of_le (h b hb).2.1 k.size,(k.block b (h b hb).2.1 (h b hb).1).trans (h b hb).2.2⟩,fun h hs b hb=>⟨hs b (h b hb).2.1 (h b hb).1,(h b hb).2⟩⟩
def bf4 (st : St) : Cur → Option (Value × List SV × Nat)
 | .ops _ (o1 :: _)=>match o1.guard,o1.dst,o1.op with
  | none,some d,.call cl=>match cl.callee with
   | .value x=>match opd st.fr x with
    | some (.one (.val v))=>match a23 (cl.args.toList.map (opd st.fr)) with
     | some l=>some (v,l,d)
     | none=>none
    | _=>none
   | _=>none
  | _,_,_=>none
 | _=>none
def d28 (o : Out) : Option Value:=(bf4 o.st o.cur).map (·.1)
def cn3 (o : Out) : List SV:=match bf4 o.st o.cur with | some (_,l,_)=>l | none=>[]
def bg3 (o : Out) (f : Bool) (b : Nat) (A : AbsE) : Out:=match G3 o (.one (.bb f)) with | ⟨cur,k,⟨fr,hp⟩,_⟩=>⟨cur,k,⟨fr,Z9 hp b (.abs A)⟩,[]⟩
section
variable {c : Cx} {o : Out} {G : Gh}
theorem cx5 [Rd] {l : Nat} (hf : d28 o = some (ah2 l)) (hS : Sat c.bs o.st β ρ w) :
  ∃ all o1 r d,o.cur = .ops all (o1 :: r) ∧ o1.guard = none ∧ o1.dst = some d ∧ (∀ s,G3 o s = ⟨.ops all r,o.k,⟨(d,s) :: o.st.fr,o.st.hp⟩,[]⟩) ∧
   (execOp (ev ρ) o1).run c.P w = (Instr.yield l ((cn3 o).map (SV.den β)).toArray).run c.P w:=by
 unfold d28 at hf
 cases hco : bf4 o.st o.cur with
 | none=>rw [hco] at hf; cases hf
 | some x=>
  obtain ⟨g,l',d⟩:=x
  rw [hco] at hf
  simp only [Option.map_some,Option.some.injEq] at hf
  subst hf
  have hargs : cn3 o = l':=by unfold cn3; rw [hco]
  unfold bf4 at hco
  split at hco <;> first | (cases hco; done) | skip
  rename_i all o1 r hcur
  split at hco <;> first | (cases hco; done) | skip
  rename_i d' cl hg hd hop
  split at hco <;> first | (cases hco; done) | skip
  rename_i x hcl
  split at hco <;> first | (cases hco; done) | skip
  rename_i v hx
  split at hco <;> first | (cases hco; done) | skip
  rename_i l2 hl
  simp only [Option.some.injEq,Prod.mk.injEq] at hco
  obtain ⟨rfl,rfl,rfl⟩:=hco
  refine ⟨all,o1,r,d',hcur,hg,hd,fun s=>by unfold G3; rw [hcur]; simp only [hd,Option.getD_some],?_⟩
  have h1:=(ai2 (ρ:=ρ) (fun t _=>hS.fr t) _ hx).1
  have h2:=b20 hS.fr hl
  rw [hargs,← h2]
  obtain ⟨dst,op,ty,pos,aft,g⟩:=o1
  simp only at hop hg hd
  subst hop
  obtain ⟨callee,args,ts⟩:=cl
  simp only at hcl
  subst hcl
  have e : (List.map (ev ρ) args.toList).toArray = Array.map (ev ρ) args:=by rw [← Array.toList_map,Array.toArray_toList]
  show _ = (Instr.yield l (List.map (ev ρ) args.toList).toArray).run c.P w
  rw [e]
  simp [execOp,resolve,Deferred.ofValue,h1,SV.den,Ch.den,ah2,invoke]
theorem af3 [Rd] {l : Nat} {B : Nat → Prop} (q : SeqA c.P l X n B W T0 J) (b : Nat) (T V : Nat → Prop) (C : Nat → Option Obj) (k : Nat) (x : List Value) (hc : c.Ok) (hw0 : c.w0 = W) (hK : c.K = fun b=>¬ T0 b) (hB : ∀ b,c.S0 b → T0 b ∨ B b)
  (hx : k < n) (hb : nth o.st.hp b = some (.abs (at6 W T0 J T V C k true))) (hf : d28 o = some (ah2 l)) (ha : ∀ β S w,Keeps c.K c.w0 w → G.p S w → (cn3 o).map (SV.den β) = x ∧ (X k x).p S w ∧ (df0 V C).p S w)
  (h1 : ∀ T' V' C',Run c (bg3 o true b (at6 W T0 J T' V' C' (k + 1) true)) ((df0 V' C').and G)) (h2 : ∀ T' V' C',Run c (bg3 o false b (at6 W T0 J T' V' C' (k + 1) false)) ((df0 V' C').and G)) : Run c o G:=by
 refine ⟨fun β ρ w hS hw hG=>?_⟩
 rw [O9] at hb
 obtain ⟨all,o1,r,d,hcur,hg,hd,hnx,hr⟩:=cx5 hf hS
 have hbl:=(List.getElem?_eq_some_iff.1 hb).1
 have hmb : ∀ g,m7 β o.st.hp b g ↔ T g:=fun g=>U3 hb
 have hkw : Keeps (fun b=>¬ T0 b) W w:=by have:=hw; rw [hK,hw0] at this; exact this
 obtain ⟨f1,f0,f2⟩:=hS.mem.abs b _ hb
 obtain ⟨a1,a2,a3⟩:=ha β _ w hw hG
 have hJ : J T V k true w:=f2 w (Nat.le_refl _) (fun _ _=>rfl) (fun b hb=>(a3 b hb).2.2) hkw
 let V' : Nat → Prop:=fun g=>Sof c.S0 β o.st.hp g ∧ g < w.heap.size
 have hVT : ∀ g,V' g → ¬ T g:=fun g hg ht=>hg.1.2 b ((hmb g).2 ht)
 obtain ⟨fn,tmps,assign,body,hy,hR⟩:=q.yld T V V' k x w hx hJ hkw (fun g hg=>⟨(a3 g hg).1,(a3 g hg).2.1⟩) (fun g hg=>⟨hVT g hg,hg.2,(hB g hg.1.1).resolve_left fun h0=>hVT g hg (f0 g h0)⟩) ((X k x).mono a2 fun g hg hs=>⟨hs,hg⟩)
 rw [a1] at hr
 rw [hcur]
 show WqR c.P c.n all (kQ c.P c.n c.Q o.k) (o1 :: r) ρ w
 refine db1 hg hd (hr.trans hy) hR fun e w' he=>?_
 obtain ⟨f,T',rfl,hJ',hkp,hT⟩:=he
 refine ⟨_,rfl,?_⟩
 let C' : Nat → Option Obj:=fun g=>w.heap[g]?
 have hC' : ∀ g,V' g → w'.heap[g]? = C' g:=fun g hg=>hkp.block g hg.2 (hVT g hg)
 have hlen : (o.st.hp.set b (.abs (at6 W T0 J T' V' C' (k + 1) f))).length = o.st.hp.length:=by simp
 have hget : ∀ i y,(o.st.hp.set b (.abs (at6 W T0 J T' V' C' (k + 1) f)))[i]? = some y → (i = b ∧ y = .abs (at6 W T0 J T' V' C' (k + 1) f)) ∨ (b ≠ i ∧ o.st.hp[i]? = some y):=by
  intro i y hy
  by_cases e : b = i
  ·subst e
   rw [List.getElem?_set_self hbl] at hy
   exact .inl ⟨rfl,(Option.some.inj hy).symm⟩
  rw [List.getElem?_set_ne e] at hy
  exact .inr ⟨e,hy⟩
 have hother : ∀ i g,b ≠ i → m7 β o.st.hp i g → ¬ T g:=fun i g hne hm ht=>hne (hS.mem.apart b i g ((hmb g).2 ht) hm)
 have hmine : ∀ i g,m7 β (o.st.hp.set b (.abs (at6 W T0 J T' V' C' (k + 1) f))) i g → (i = b ∧ T' g) ∨ (b ≠ i ∧ m7 β o.st.hp i g):=by
  rintro i g ⟨y,hy,hm⟩
  rcases hget i y hy with ⟨rfl,rfl⟩ | ⟨h3,h4⟩
  ·exact .inl ⟨rfl,hm⟩
  exact .inr ⟨h3,y,h4,hm⟩
 have hlow : ∀ i g,m7 β o.st.hp i g → g < w.heap.size:=fun i g hm=>(hS.mem.low i g hm).2
 have hSat : ∀ s : SV,s.Ok o.st.hp.length → Sat c.bs ⟨(d,s) :: o.st.fr,o.st.hp.set b (.abs (at6 W T0 J T' V' C' (k + 1) f))⟩ β (upd ρ d (s.den β)) w':=by
  intro s hs
  refine ⟨fun i s' hs'=>?_,⟨fun i T2 l2 hi=>?_,fun i T2 s2 v n cs hi=>?_,fun i A hi=>?_,fun i g hi=>?_,fun i j g hi hj=>?_⟩,by rw [hlen]; exact hS.agr.1,hS.agr.2⟩
  ·show _ ∧ s'.Ok (o.st.hp.set b (.abs (at6 W T0 J T' V' C' (k + 1) f))).length
   rw [hlen]
   exact ((hS.put (d:=d) (s:=s) (v:=s.den β) rfl hs).fr i) s' hs'
  ·rcases hget i _ hi with ⟨_,e⟩ | ⟨hne,e⟩
   ·cases e
   show _ ∧ ∀ c ∈ l2,c.Ok (o.st.hp.set b (.abs (at6 W T0 J T' V' C' (k + 1) f))).length
   rw [hlen]
   exact ⟨(hS.mem.blk i T2 l2 e).1.keep hkp (hother i _ hne ⟨_,e,rfl⟩),(hS.mem.blk i T2 l2 e).2⟩
  ·rcases hget i _ hi with ⟨_,e⟩ | ⟨hne,e⟩
   ·cases e
   exact ad1 (hS.mem.row i T2 s2 v n cs e) hkp fun g hg=>hother i g hne ⟨_,e,hg⟩
  ·rcases hget i _ hi with ⟨_,e⟩ | ⟨hne,e⟩
   ·cases e
    exact q.entry hJ' hC'
   exact A.keep (hS.mem.abs i A e) (fun k' g=>hlow i k' ⟨_,e,g⟩) hkp fun g hg=>hother i g hne ⟨_,e,hg⟩
  ·rcases hmine i g hi with ⟨rfl,ht⟩ | ⟨hne,hm⟩
   ·refine ⟨?_,q.fits _ _ _ _ _ hJ' g ht⟩
    rcases hT g ht with h3 | h3
    ·exact (hS.mem.low i g ((hmb g).2 h3)).1
    have:=hw.size
    exact .inl (Nat.le_trans this h3)
   exact ⟨(hS.mem.low i g hm).1,Nat.lt_of_lt_of_le (hlow i g hm) hkp.size⟩
  rcases hmine i g hi with ⟨rfl,ht⟩ | ⟨hne,hm⟩ <;> rcases hmine j g hj with ⟨e2,ht2⟩ | ⟨hne2,hm2⟩
  ·exact e2.symm
  ·rcases hT g ht with h3 | h3
   ·exact hS.mem.apart i j g ((hmb g).2 h3) hm2
   ·have:=hlow j g hm2
    omega
  ·subst e2
   rcases hT g ht2 with h3 | h3
   ·exact hS.mem.apart i j g hm ((hmb g).2 h3)
   ·have:=hlow i g hm
    omega
  exact hS.mem.apart i j g hm hm2
 have hw' : Keeps c.K c.w0 w':=Mem.grow hS.mem hw hkp b fun i hi=>(hmb i).2 (Classical.not_not.1 hi)
 have hsof : ∀ g,V' g → Sof c.S0 β (o.st.hp.set b (.abs (at6 W T0 J T' V' C' (k + 1) f))) g:=fun g hs=>⟨hs.1.1,fun i hi=>by
  rcases hmine i g hi with ⟨rfl,ht⟩ | ⟨_,hm⟩
  ·rcases hT g ht with h3 | h3
   ·exact hs.1.2 i ((hmb g).2 h3)
   ·have:=hs.2
    omega
  exact hs.1.2 i hm⟩
 have hG' : ((df0 V' C').and G).p (Sof c.S0 β (o.st.hp.set b (.abs (at6 W T0 J T' V' C' (k + 1) f)))) w':=by
  have g1 : G.p V' w:=G.mono hG fun g hg hs=>⟨hs,hg⟩
  have g2:=G.keep g1 (hkp.mono fun g hg=>hVT g hg)
  exact ⟨fun g hg=>⟨hsof g hg,Nat.lt_of_lt_of_le hg.2 hkp.size,hC' g hg⟩,G.mono g2 fun g _ hs=>hsof g hs⟩
 cases f with
 | true=>
  have h3:=(h1 T' V' C').run
  unfold bg3 at h3
  rw [hnx] at h3
  simp only [O7] at h3
  exact h3 β _ w' (hSat (.one (.bb true)) trivial) hw' hG'
 | false=>
  have h3:=(h2 T' V' C').run
  unfold bg3 at h3
  rw [hnx] at h3
  simp only [O7] at h3
  exact h3 β _ w' (hSat (.one (.bb false)) trivial) hw' hG'
end
theorem d41 {fn : Func} {lb : List Value} {n0 : Nat} (hn0 : n0 ≤ w.heap.size) (hf : P.funcs[f]? = some fn) (hb : fn.body = some code) (hok : bd9 fn code = true)
  (hn : Nat.ble (lb.length + 1) fn.ntmps = true) (hl : SVsOk ls) (ha : ls.map (SV.den fun _=>0) = lb) (hG : G.p S w)
  (h : ∀ l W T0 J (S0 : Nat → Prop),Up S0 W → (∀ k,¬ ¬ T0 k → S0 k) → SeqA P l X n (fun b=>(S b ∧ b < n0) ∨ n0 ≤ b) W T0 J → (∀ b,S0 b → T0 b ∨ ((S b ∧ b < n0) ∨ n0 ≤ b)) →
   Run (Cx.fnK P fn E W S0 (fun b=>¬ T0 b) fun _ W'=>Keeps (fun b=>¬ T0 b) W W' ∧ ∃ T' V' k,(k = n ∧ J T' V' k true W') ∨ J T' V' k false W') ⟨.code code,[],⟨bo3 0 (.one (.val (ah2 l)) :: ls),[.abs (at6 W T0 J T0 (fun _=>False) (fun _=>none) 0 true)]⟩,[]⟩ G) : d84 P f lb X n n0 S w:=by
 intro l W T0 J hW hT0 q hJ
 have hmine : ∀ i g,m7 (fun _=>0) [HE.abs (at6 W T0 J T0 (fun _=>False) (fun _=>none) 0 true)] i g → i = 0 ∧ T0 g:=by
  rintro i g ⟨y,hy,hm⟩
  cases i with
  | zero=>
   simp only [List.getElem?_cons_zero,Option.some.injEq] at hy
   subst hy
   exact ⟨rfl,hm⟩
  | succ i=>simp at hy
 refine b55 (S0:=fun k=>(S k ∧ k < w.heap.size) ∨ w.heap.size ≤ k ∨ T0 k) (K:=fun b=>¬ T0 b) (hp:=[.abs (at6 W T0 J T0 (fun _=>False) (fun _=>none) 0 true)]) (β:=fun _=>0) (l:=.one (.val (ah2 l)) :: ls) hf hb hok (by simpa using hn) ⟨rfl,?_⟩ (by rw [List.map_cons,ha]; rfl) ?_ ?_
  (h l W T0 J _ (fun k g=>.inr (.inl (Nat.le_trans hW.size g))) (fun k g=>.inr (.inr (Classical.not_not.1 g))) q (fun b hb=>?_))
 ·have aux : ∀ {r : List SV},SVsOk r → SVsOkM 1 r:=by
   intro r
   induction r with
   | nil=>intro _; trivial
   | cons s r ih=>intro h; exact ⟨h.1.le (Nat.zero_le _),ih h.2⟩
  exact aux hl
 ·refine ⟨fun i T l hi=>?_,fun i T s v n cs hi=>?_,fun i A hi=>?_,fun i g hi=>?_,fun i j g hi hj=>?_⟩
  ·cases i <;> simp at hi
  ·cases i <;> simp at hi
  ·cases i with
   | zero=>
    simp only [List.getElem?_cons_zero,Option.some.injEq,HE.abs.injEq] at hi
    subst hi
    exact q.entry hJ fun _ hb=>hb.elim
   | succ i=>simp at hi
  ·obtain ⟨rfl,h1⟩:=hmine i g hi
   exact ⟨.inr fun h2=>h2 h1,q.fits _ _ _ _ _ hJ g h1⟩
  rw [(hmine i g hi).1,(hmine j g hj).1]
 ·have g1 : G.p (fun k=>S k ∧ k < w.heap.size) w:=G.mono hG fun k hk hs=>⟨hs,hk⟩
  have g2:=G.keep g1 (hW.mono fun k hk=>hk.1)
  exact G.mono g2 fun k _ hk=>⟨.inl hk,fun i hi=>hT0 k hk.2 hk.1 (hmine i k hi).2⟩
 rcases hb with ⟨h1,h2⟩ | h1 | h1
 ·rcases Nat.lt_or_ge b n0 with h3 | h3
  ·exact .inr (.inl ⟨h1,h3⟩)
  exact .inr (.inr h3)
 ·exact .inr (.inr (Nat.le_trans hn0 h1))
 exact .inl h1
theorem ac2 {C : Nat → Option Obj} {k : Nat} {f : Bool} (hM : Mem base hp β w) (hb : nth hp b = some (.abs (at6 W T0 J T V C k f))) (hz : (df0 V C).p S w) (hw : Keeps (fun b=>¬ T0 b) W w) (hk : f = true → k = n) :
  Keeps (fun b=>¬ T0 b) W w ∧ ∃ T' V' k,(k = n ∧ J T' V' k true w) ∨ J T' V' k false w:=by
 rw [O9] at hb
 have h:=(hM.abs b _ hb).2.2 w (Nat.le_refl _) (fun _ _=>rfl) (fun b hb=>(hz b hb).2.2) hw
 refine ⟨hw,T,V,k,?_⟩
 cases f with
 | true=>exact .inl ⟨hk rfl,h⟩
 | false=>exact .inr h
theorem c43 [Rd] {x : Code} (h : G5 n x = true → ∀ D a,MtI n D a ρ → x.wpIn RF 0 P (ax7 n D Q) a w) : WqC P n x Q ρ w:=by unfold WqC; exact h
theorem cq8 [Rd] {x : Code} (h : WqC P n x Q ρ w) : G5 n x = true → ∀ D a,MtI n D a ρ → x.wpIn RF 0 P (ax7 n D Q) a w:=by unfold WqC at h; exact h
theorem Mem.keepS (h : Mem base hp β w) (k : Keeps S w w') (hs : ∀ i b,m7 β hp i b → S b) : Mem base hp β w':=
 ⟨fun i T l hi=>⟨(h.blk i T l hi).1.keep k (hs i _ ⟨_,hi,rfl⟩),(h.blk i T l hi).2⟩,fun i T s v n cs hi=>ad1 (h.row i T s v n cs hi) k fun g hg=>hs i g ⟨_,hi,hg⟩,
  fun i A hi=>A.keep (h.abs i A hi) (fun k' g=>(h.low i k' ⟨_,hi,g⟩).2) k fun g hg=>hs i g ⟨_,hi,hg⟩,
  fun i k' hk=>⟨(h.low i k' hk).1,Nat.lt_of_lt_of_le (h.low i k' hk).2 k.size⟩,h.apart⟩
theorem Mem.rebase {base' : Bs} (h : Mem base hp β w) (hl : ∀ i k,m7 β hp i k → base'.n ≤ k ∨ ¬ base'.K k) : Mem base' hp β w:=
 ⟨h.blk,h.row,h.abs,fun i k hk=>⟨hl i k hk,(h.low i k hk).2⟩,h.apart⟩
theorem aw5 {e : HE} {k : Nat} (h : m7 β (hp ++ [e]) i k) : m7 β hp i k ∨ (i = hp.length ∧ e.mine (β i) k):=by
 obtain ⟨y,hy,hm⟩:=h
 rcases Nat.lt_or_ge i hp.length with hi | hi
 ·rw [List.getElem?_append_left hi] at hy
  exact .inl ⟨y,hy,hm⟩
 rw [List.getElem?_append_right hi] at hy
 have : i - hp.length = 0:=by
  cases h0 : i - hp.length with
  | zero=>rfl
  | succ n=>rw [h0] at hy; simp at hy
 rw [this] at hy
 simp only [List.getElem?_cons_zero,Option.some.injEq] at hy
 subst hy
 exact .inr ⟨by omega,hm⟩
theorem Mem.snoc (h : Mem base hp β w) (hA : A.R w) (hl : ∀ k,A.Q k → (base.n ≤ k ∨ ¬ base.K k) ∧ k < w.heap.size) (ho : ∀ i k,m7 β hp i k → ¬ A.Q k) : Mem base (hp ++ [.abs A]) β w:=by
 have get : ∀ {i : Nat} {e : HE},(hp ++ [.abs A])[i]? = some e → hp[i]? = some e ∨ (i = hp.length ∧ e = .abs A):=by
  intro i e hi
  rcases Nat.lt_or_ge i hp.length with h1 | h1
  ·rw [List.getElem?_append_left h1] at hi
   exact .inl hi
  rw [List.getElem?_append_right h1] at hi
  have : i - hp.length = 0:=by
   cases h0 : i - hp.length with
   | zero=>rfl
   | succ n=>rw [h0] at hi; simp at hi
  rw [this] at hi
  simp only [List.getElem?_cons_zero,Option.some.injEq] at hi
  exact .inr ⟨by omega,hi.symm⟩
 refine ⟨fun i T l hi=>?_,fun i T s v n cs hi=>?_,fun i B hi=>?_,fun i k hk=>?_,fun i j k hi hj=>?_⟩
 ·rcases get hi with h1 | ⟨_,h1⟩
  ·exact ⟨(h.blk i T l h1).1,fun c hc=>((h.blk i T l h1).2 c hc).le (by simp)⟩
  cases h1
 ·rcases get hi with h1 | ⟨_,h1⟩
  ·exact h.row i T s v n cs h1
  cases h1
 ·rcases get hi with h1 | ⟨_,h1⟩
  ·exact h.abs i B h1
  cases h1; exact hA
 ·rcases aw5 hk with h1 | ⟨_,h1⟩
  ·exact h.low i k h1
  exact hl k h1
 rcases aw5 hi with h1 | ⟨h0,h1⟩ <;> rcases aw5 hj with h2 | ⟨h3,h2⟩
 ·exact h.apart i j k h1 h2
 ·exact absurd h2 (ho i k h1)
 ·exact absurd h1 (ho j k h2)
 rw [h0,h3]
def dfE (D : Nat) : AbsE where
 Q:=fun k=>k = D
 R:=fun w=>w.heap[D]? = some (.deferred (some []))
 frame:=fun w w' h _ hs=>(hs D rfl).trans h
def dd4 (D : Nat) : Value:=.pointer (some ⟨D,0,none⟩)
def mkS : List Nat → SV
 | []=>.und
 | D :: ms=>.tup ((D :: ms).map fun D=>(false,[.val (dd4 D)]))
def mkD (D : Nat) : Deferred:={ target:=.collected D,args:=#[] }
theorem d83 (ms : List Nat) : (mkS ms).Ok m:=by
 cases ms with
 | nil=>trivial
 | cons D ms=>
  intro p hp
  obtain ⟨D',_,rfl⟩:=List.mem_map.1 hp
  intro c hc
  simp only [List.mem_singleton] at hc
  subst hc
  rfl
theorem a86 (β : Nat → Nat) (ms : List Nat) : bi5 ((mkS ms).den β) = ms.map mkD:=by
 have key : ∀ l : List Nat,(l.map dd4).flatMap c68 = l.map mkD:=by
  intro l
  induction l with
  | nil=>rfl
  | cons D l ih=>rw [List.map_cons,List.flatMap_cons,ih]; rfl
 cases ms with
 | nil=>rfl
 | cons D ms=>
  have e : (mkS (D :: ms)).den β = .tuple ((D :: ms).map dd4).toArray:=by
   show Value.tuple (((D :: ms).map fun D=>(false,[Ch.val (dd4 D)])).map (av6 β)).toArray = _
   rw [List.map_map]
   rfl
  rw [e]
  show (((D :: ms).map dd4).toArray.toList).flatMap c68 = _
  rw [List.toList_toArray]
  exact key _
def aq8 (ps : List Nat) (ls : List SV) (fr : List (Nat × SV)) : List (Nat × SV):=(ps.zip ls).foldl (fun fr p=>p :: fr) fr
def b35 (ps : List Nat) (vs : List Value) (ρ : Fr) : Fr:=(ps.zip vs).foldl (fun ρ p=>upd ρ p.1 p.2) ρ
theorem c94 : ∀ {ps : List Nat} {ls : List SV} {fr : List (Nat × SV)} {ρ : Fr},(∀ d,Kn β m (J8 fr d) (ρ d)) → (∀ s ∈ ls,s.Ok m) → ∀ d,Kn β m (J8 (aq8 ps ls fr) d) (b35 ps (ls.map (SV.den β)) ρ d):=by
 intro ps
 induction ps with
 | nil=>intro ls fr ρ h _; simpa [aq8,b35] using h
 | cons p ps ih=>
  intro ls fr ρ h hl
  cases ls with
  | nil=>simpa [aq8,b35] using h
  | cons s ls=>
   have h2:=ih (ls:=ls) (fr:=(p,s) :: fr) (ρ:=upd ρ p (s.den β)) (fun d s' hs=>?_) (fun s' g=>hl s' (List.mem_cons_of_mem _ g))
   ·simpa [aq8,b35] using h2
   rw [H6] at hs
   rw [ag5]
   split at hs
   ·rename_i e
    simp only [Option.some.injEq] at hs
    subst hs
    rw [if_pos e]
    exact ⟨rfl,hl s (List.mem_cons_self ..)⟩
   rename_i e
   rw [if_neg e]
   exact h d s' hs
theorem dp0 [Rd] {D : List Deferred} : ∀ {ps : List Nat} {vs : List Value} {a : Act} {ρ : Fr},MtI n D a ρ → ps.all (fun d=>Nat.blt d n) = true → MtI n D { tmps:=(ps.zip vs).foldl (fun t p=>t.setIfInBounds p.1 p.2) a.tmps,defers:=a.defers } (b35 ps vs ρ):=by
 intro ps
 induction ps with
 | nil=>intro vs a ρ h _; simpa [b35] using h
 | cons p ps ih=>
  intro vs a ρ h hp
  simp only [List.all_cons,Bool.and_eq_true] at hp
  cases vs with
  | nil=>simpa [b35] using h
  | cons v vs=>exact ih (vs:=vs) (a:=a.put (some p) v) (ρ:=upd ρ p v) (h.put hp.1 v) hp.2
section
variable {ι : Type}
def fe9 (c : Cx) (hpI : ι → List HE) (GI : ι → Gh) (pN : ι → Prop) (pX : Exit → ι → Prop) : G8:=fun e ρ w=>match e with
 | .normal=>∃ j,pN j ∧ RelI c (fun j=>⟨[],hpI j⟩) GI j ρ w
 | .exit id=>∃ j,pX (.exit id) j ∧ RelI c (fun j=>⟨[],hpI j⟩) GI j ρ w
 | .ret=>∃ j,pX .ret j ∧ RelI c (fun j=>⟨[],hpI j⟩) GI j ρ w
 | _=>False
abbrev Cx.rnd (c : Cx) (hpI : ι → List HE) (GI : ι → Gh) (pN : ι → Prop) (pX : Exit → ι → Prop) : Cx:=⟨c.P,c.n,c.E,c.w0,c.S0,c.K,fe9 c hpI GI pN pX,c.m,c.b⟩
def fc3 (o : Out) : Exit:=match o.cur with | .ex e=>e | _=>.normal
def c98 (o : Out) : Bool:=match o.cur,o.k with | .ex (.exit _),[]=>true | .ex .ret,[]=>true | _,_=>false
theorem cj3 [Rd] {c : Cx} {hpI : ι → List HE} {GI : ι → Gh} {pN : ι → Prop} {pX : Exit → ι → Prop} (j : ι) (he : at0 o = true) (hp : pN j) (hsub : bv5 o.st ⟨[],hpI j⟩) (hok : ∀ S w,Keeps c.K c.w0 w → G.p S w → ak9 ⟨[],hpI j⟩) (hg : ∀ S w,Keeps c.K c.w0 w → G.p S w → (GI j).p S w) :
  Run (c.rnd hpI GI pN pX) o G:=by
 refine ⟨fun β ρ w hS hw hG=>?_⟩
 obtain ⟨h1,h2⟩:=a71 he
 rw [h1,h2]
 exact ⟨j,hp,bn1 (c:=c) (st':=fun j=>⟨[],hpI j⟩) j hS hw hG hsub hok hg⟩
theorem d69 [Rd] {c : Cx} {hpI : ι → List HE} {GI : ι → Gh} {pN : ι → Prop} {pX : Exit → ι → Prop} (j : ι) (he : c98 o = true) (hp : pX (fc3 o) j) (hsub : bv5 o.st ⟨[],hpI j⟩) (hok : ∀ S w,Keeps c.K c.w0 w → G.p S w → ak9 ⟨[],hpI j⟩) (hg : ∀ S w,Keeps c.K c.w0 w → G.p S w → (GI j).p S w) :
  Run (c.rnd hpI GI pN pX) o G:=by
 refine ⟨fun β ρ w hS hw hG=>?_⟩
 have hr:=bn1 (c:=c) (st':=fun j=>⟨[],hpI j⟩) j hS hw hG hsub hok hg
 unfold fc3 at hp
 unfold c98 at he
 split at he <;> first | (cases he; done) | skip
 ·rename_i id e1 e2
  rw [e1] at hp ⊢
  rw [e2]
  exact ⟨j,hp,hr⟩
 rename_i e1 e2
 rw [e1] at hp ⊢
 rw [e2]
 exact ⟨j,hp,hr⟩
structure RngJ (c : Cx) (N0 : Nat) (β0 : Nat → Nat) (W : World) (l D : Nat) (T0 : Nat → Prop) (hpI : ι → List HE) (GI : ι → Gh) (j : ι) (β : Nat → Nat) (T V : Nat → Prop) (W1 : World) : Prop where
 mem : Mem c.bs (hpI j) β W1
 agr : ∀ i,i < N0 → β i = β0 i
 k0 : Keeps (fun b=>¬ T0 b) W W1
 own : ∀ i b,m7 β (hpI j) i b → T b ∧ b ≠ l ∧ b ≠ D
 facts : (GI j).p (fun b=>Sof c.S0 β (hpI j) b ∧ ((b < W.heap.size ∧ ¬ T0 b) ∨ (T b ∧ b ≠ l ∧ b ≠ D) ∨ V b)) W1
 dfr : W1.heap[D]? = some (.deferred (some []))
 tl : T l
 td : T D
 t0 : ∀ b,T0 b → T b
 vt : ∀ b,V b → ¬ T b
 lo : ∀ b,T b → b < W1.heap.size
 nw : ∀ b,T b → T0 b ∨ W.heap.size ≤ b
theorem RngJ.stab {c : Cx} {N0 : Nat} {β0 : Nat → Nat} {l D : Nat} {hpI : ι → List HE} {GI : ι → Gh} {j : ι} {W1 W2 : World} (h : RngJ c N0 β0 W l D T0 hpI GI j β T V W1)
  (hz : W1.heap.size ≤ W2.heap.size) (hT : ∀ b,T b ∨ V b → W2.heap[b]? = W1.heap[b]?) (hk : Keeps (fun b=>¬ T0 b) W W2) : RngJ c N0 β0 W l D T0 hpI GI j β T V W2:=by
 have k : Keeps (fun b=>(b < W.heap.size ∧ ¬ T0 b) ∨ T b ∨ V b) W1 W2:=by
  refine ⟨hk.os.trans h.k0.os.symm,hk.tape.trans h.k0.tape.symm,hk.output.trans h.k0.output.symm,hz,fun b _ hb=>?_⟩
  rcases hb with ⟨h1,h2⟩ | h1
  ·exact (hk.block b h1 h2).trans (h.k0.block b h1 h2).symm
  exact hT b h1
 refine ⟨h.mem.keepS k fun i b hb=>.inr (.inl (h.own i b hb).1),h.agr,hk,h.own,?_,(hT D (.inl h.td)).trans h.dfr,h.tl,h.td,h.t0,h.vt,fun b hb=>Nat.lt_of_lt_of_le (h.lo b hb) hz,h.nw⟩
 refine (GI j).keep h.facts (k.mono fun b hb=>?_)
 rcases hb.2 with h1 | h1 | h1
 ·exact .inl h1
 ·exact .inr (.inl h1.1)
 exact .inr (.inr h1)
def rfQ (o : Out) : Option (Operand × List Nat × Code × Code):=match o.cur with | .code (.rangeFunc g ps a b)=>some (g,ps.toList,a,b) | _=>none
def dm8 (o : Out) : List Nat:=match rfQ o with | some (_,ps,_,_)=>ps | none=>[]
def rfA (o : Out) : Code:=match rfQ o with | some (_,_,a,_)=>a | none=>.skip
def rfB (o : Out) : Code:=match rfQ o with | some (_,_,_,b)=>b | none=>.skip
def rfF (o : Out) : Option Value:=match rfQ o with | some (g,_,_,_)=>(match opd o.st.fr g with | some (.one (.val v))=>some v | _=>none) | none=>none
noncomputable def rfO (E : Env) (N : Nat) (o : Out) (ls : List SV) (hp : List HE) : Out:=exec E false N ⟨.code (rfA o),[],⟨aq8 (dm8 o) ls o.st.fr,hp⟩,[]⟩
def bf5 (o : Out) : Bool:=match o.cur,o.k,o.vc with | .ex .normal,[],[]=>true | _,_,_=>false
end
abbrev R4 (fn : FuncId) (tmps : Array Value) (ps : Array Tmp) (A B : Code) (D : Nat) (st : LoopState) (pe : Option Code) : Loop:={ state:=st,pending:=pe,fn:=fn,tmps:=tmps,params:=ps,assign:=A,body:=B,defers:=D }
theorem I7 {l : Nat} {x : Obj} : Keeps (fun b=>b ≠ l) w (w.putObj l x):=
 ⟨rfl,rfl,rfl,by rw [World.putObj_size]; exact Nat.le_refl _,fun k _ hk=>World.putObj_heap_other hk⟩
section
variable {ι : Type} {c : Cx} {hpI : ι → List HE} {GI : ι → Gh} {pN : ι → Prop} {pX : Exit → ι → Prop} {W W1 : World} {l D N0 : Nat} {T0 T V : Nat → Prop} {β β0 : Nat → Nat} {j : ι}
def d98 (c : Cx) (N0 : Nat) (β0 : Nat → Nat) (W : World) (l D : Nat) (T0 : Nat → Prop) (hpI : ι → List HE) (GI : ι → Gh) (pN : ι → Prop) (pX : Exit → ι → Prop) (R : LoopState → Option Code → Loop) (f : Bool) (T V : Nat → Prop) (W1 : World) : Prop:=
 ∃ j β,RngJ c N0 β0 W l D T0 hpI GI j β T V W1 ∧ match f with
  | true=>pN j ∧ W1.heap[l]? = some (.loop (R .ready none))
  | false=>(pX .ret j ∧ W1.heap[l]? = some (.loop (R .done (some .ret)))) ∨ ∃ id,pX (.exit id) j ∧ W1.heap[l]? = some (.loop (R .done (some (.exit id))))
theorem cg2 (h : bf5 o = true) : o.cur = .ex .normal ∧ o.k = [] ∧ o.vc = []:=by
 unfold bf5 at h
 split at h
 ·rename_i h1 h2 h3; exact ⟨h1,h2,h3⟩
 cases h
theorem bu7 {oA : St} {β2 : Nat → Nat} {w1 w3 : World} {j' : ι} {ρ3 : Fr} (hc : c.Ok) (h : RngJ c N0 β0 W l D T0 hpI GI j β T V W1) (hlD : l ≠ D) (hT0l : T0 l) (hW : c.w0.heap.size ≤ W1.heap.size) (hN0 : N0 ≤ (hpI j).length) (hV' : ∀ b,V' b → ¬ T b ∧ b < W1.heap.size)
  (R : LoopState → Option Code → Loop) (hS2 : (hpI j).length ≤ oA.hp.length ∧ ∀ i,i < (hpI j).length → β2 i = β i) (hlow2 : ∀ i k,m7 β2 oA.hp i k → W1.heap.size ≤ k ∨ ∃ i',m7 β (hpI j) i' k)
  (hw2 : Keeps (fun b=>∀ i,¬ m7 β (hpI j) i b) W1 w1)
  (hr : RelI ⟨c.P,c.n,c.E,w1.putObj l (.loop (R .busy none)),fun b=>c.S0 b ∧ ((b < W.heap.size ∧ ¬ T0 b) ∨ (T b ∧ b ≠ l ∧ b ≠ D) ∨ V' b ∨ W1.heap.size ≤ b),fun b=>∀ i,¬ m7 β2 oA.hp i b,fun _ _ _=>False,oA.hp.length,β2⟩ (fun j=>⟨[],hpI j⟩) GI j' ρ3 w3) :
  w3.heap[l]? = some (.loop (R .busy none)) ∧ ∀ x : Obj,∃ β3 T',RngJ c N0 β0 W l D T0 hpI GI j' β3 T' V' (w3.putObj l x) ∧ Keeps (fun b=>¬ T b) W1 (w3.putObj l x) ∧ (∀ b,T' b → T b ∨ W1.heap.size ≤ b) ∧ (w3.putObj l x).heap[l]? = some x:=by
 obtain ⟨β3,⟨hS3,hag3⟩,hw3,hG3⟩:=hr
 simp only at hS3 hag3 hw3 hG3
 have hl1 : l < W1.heap.size:=h.lo l h.tl
 have hD1 : D < W1.heap.size:=h.lo D h.td
 have hl2 : l < w1.heap.size:=Nat.lt_of_lt_of_le hl1 hw2.size
 have hz2 : (w1.putObj l (.loop (R .busy none))).heap.size = w1.heap.size:=World.putObj_size
 have hne2 : ∀ i b,m7 β2 oA.hp i b → b ≠ l ∧ b ≠ D:=by
  intro i b hb
  rcases hlow2 i b hb with h1 | ⟨i',h1⟩
  ·exact ⟨by omega,by omega⟩
  exact (h.own i' b h1).2
 have hrec2 : (w1.putObj l (.loop (R .busy none))).heap[l]? = some (.loop (R .busy none)):=World.putObj_heap_same hl2
 have hrec3 : w3.heap[l]? = some (.loop (R .busy none)):=(hw3.block l (by rw [hz2]; exact hl2) fun i hi=>(hne2 i l hi).1 rfl).trans hrec2
 have hl3 : l < w3.heap.size:=(Array.getElem?_eq_some_iff.1 hrec3).1
 refine ⟨hrec3,fun x=>?_⟩
 have hk4 : Keeps (fun b=>(∀ i,¬ m7 β (hpI j) i b) ∧ b ≠ l) W1 (w3.putObj l x):=by
  refine Keeps.behind (Keeps.behind (Keeps.behind (hw2.mono fun b hb=>hb.1) (I7 (x:=.loop (R .busy none))) fun b _ hb=>hb.2) hw3 ?_) (I7 (x:=x)) fun b _ hb=>hb.2
  intro b hb hb2 i hi
  rcases hlow2 i b hi with h1 | ⟨i',h1⟩
  ·omega
  exact hb2.1 i' h1
 have hz4 : w3.heap.size = (w3.putObj l x).heap.size:=World.putObj_size.symm
 have hmine3 : ∀ i b,m7 β3 (hpI j') i b → W1.heap.size ≤ b ∨ ∃ i',m7 β (hpI j) i' b:=by
  intro i b hb
  rcases (hS3.mem.low i b hb).1 with h1 | h1
  ·have h2 : (w1.putObj l (.loop (R .busy none))).heap.size ≤ b:=h1
   rw [hz2] at h2
   exact .inl (Nat.le_trans hw2.size h2)
  obtain ⟨i',h2⟩:=Classical.not_forall.1 h1
  exact hlow2 i' b (Classical.not_not.1 h2)
 have hne3 : ∀ i b,m7 β3 (hpI j') i b → b ≠ l ∧ b ≠ D:=by
  intro i b hb
  rcases hmine3 i b hb with h1 | ⟨i',h1⟩
  ·exact ⟨by omega,by omega⟩
  exact (h.own i' b h1).2
 have hlow3 : ∀ i b,m7 β3 (hpI j') i b → b < (w3.putObj l x).heap.size:=fun i b hb=>by rw [← hz4]; exact (hS3.mem.low i b hb).2
 have hSl : ∀ b,(c.S0 b ∧ ((b < W.heap.size ∧ ¬ T0 b) ∨ (T b ∧ b ≠ l ∧ b ≠ D) ∨ V' b ∨ W1.heap.size ≤ b)) → b ≠ l:=by
  rintro b ⟨_,h1 | h1 | h1 | h1⟩
  ·exact fun e=>h1.2 (e ▸ hT0l)
  ·exact h1.2.1
  ·exact fun e=>(hV' b h1).1 (e ▸ h.tl)
  omega
 refine ⟨β3,fun b=>T b ∨ (W1.heap.size ≤ b ∧ b < (w3.putObj l x).heap.size),⟨?_,?_,?_,?_,?_,?_,.inl h.tl,.inl h.td,fun b hb=>.inl (h.t0 b hb),?_,?_,?_⟩,hk4.mono fun b hb=>⟨fun i hi=>hb (h.own i b hi).1,fun e=>hb (e ▸ h.tl)⟩,?_,World.putObj_heap_same hl3⟩
 ·refine (hS3.mem.keepS (I7 (x:=x)) fun i b hb=>(hne3 i b hb).1).rebase fun i b hb=>?_
  rcases hmine3 i b hb with h1 | ⟨i',h1⟩
  ·exact .inl (Nat.le_trans hW h1)
  exact (h.mem.low i' b h1).1
 ·intro i hi
  have h1 : i < (hpI j).length:=Nat.lt_of_lt_of_le hi hN0
  exact ((hag3 i (Nat.lt_of_lt_of_le h1 hS2.1)).trans (hS2.2 i h1)).trans (h.agr i hi)
 ·refine Keeps.behind h.k0 hk4 fun b hb hb2=>⟨fun i hi=>?_,fun e=>hb2 (e ▸ hT0l)⟩
  rcases h.nw b (h.own i b hi).1 with h1 | h1
  ·exact hb2 h1
  omega
 ·intro i b hb
  refine ⟨?_,hne3 i b hb⟩
  rcases hmine3 i b hb with h1 | ⟨i',h1⟩
  ·exact .inr ⟨h1,hlow3 i b hb⟩
  exact .inl (h.own i' b h1).1
 ·have g1:=(GI j').keep hG3 ((I7 (w:=w3) (l:=l) (x:=x)).mono fun b hb=>hSl b hb.1)
  refine (GI j').mono g1 fun b hb hs=>⟨⟨hs.1.1,hs.2⟩,?_⟩
  rcases hs.1.2 with h1 | h1 | h1 | h1
  ·exact .inl h1
  ·exact .inr (.inl ⟨.inl h1.1,h1.2⟩)
  ·exact .inr (.inr h1)
  exact .inr (.inl ⟨.inr ⟨h1,hb⟩,by omega,by omega⟩)
 ·exact (hk4.block D hD1 ⟨fun i hi=>(h.own i D hi).2.2 rfl,fun e=>hlD e.symm⟩).trans h.dfr
 ·rintro b hb (h1 | h1)
  ·exact (hV' b hb).1 h1
  have:=(hV' b hb).2
  omega
 ·rintro b (h1 | h1)
  ·exact Nat.lt_of_lt_of_le (h.lo b h1) hk4.size
  exact h1.2
 ·rintro b (h1 | h1)
  ·exact h.nw b h1
  exact .inr (Nat.le_trans h.k0.size h1.1)
 rintro b (h1 | h1)
 ·exact .inl h1
 exact .inr h1.1
theorem cy2 {fr : List (Nat × SV)} {fn : FuncId} {tmps : Array Value} {ps : Array Tmp} {A B : Code} {N : Nat} {F : Gh} (hc : c.Ok) (h : RngJ c N0 β0 W l D T0 hpI GI j β T V W1)
  (hrec : W1.heap[l]? = some (.loop (R4 fn tmps ps A B D .ready none))) (hlD : l ≠ D) (hT0l : T0 l) (hW : c.w0.heap.size ≤ W1.heap.size) (hm : @MtI ⟨some l,false⟩ c.n [] { tmps:=tmps,defers:=[] } ρ) (hfr : ∀ d,Kn β0 N0 (J8 fr d) (ρ d)) (hN0 : N0 ≤ (hpI j).length)
  (hokA : G5 c.n A = true) (hokB : G5 c.n B = true) (hps : ps.toList.all (fun d=>Nat.blt d c.n) = true) (hx : ls.map (SV.den fun _=>0) = x) (hls : ∀ s ∈ ls,s.Ok 0) (hlen : x.length = ps.size)
  (hVV : ∀ b,V b → V' b) (hV' : ∀ b,V' b → ¬ T b ∧ b < W1.heap.size ∧ c.S0 b) (hF : F.p V' W1)
  (hnA : bf5 (exec c.E false N ⟨.code A,[],⟨aq8 ps.toList ls fr,hpI j⟩,[]⟩) = true)
  (hB : ∀ (i : Rd) (w1 : World) (S K : Nat → Prop) (m : Nat) (b : Nat → Nat),(Cx.rnd ⟨c.P,c.n,c.E,w1,S,K,fun _ _ _=>False,m,b⟩ hpI GI pN pX).Ok →
   Run (Cx.rnd ⟨c.P,c.n,c.E,w1,S,K,fun _ _ _=>False,m,b⟩ hpI GI pN pX) ⟨.code B,[],(exec c.E false N ⟨.code A,[],⟨aq8 ps.toList ls fr,hpI j⟩,[]⟩).st,[]⟩ (F.and (GI j))) :
  YieldAt Fence.wide 0 c.P l x.toArray W1 fun e W'=>∃ f T',e = .returned (.bool f) ∧ d98 c N0 β0 W l D T0 hpI GI pN pX (R4 fn tmps ps A B D) f T' V' W' ∧ Keeps (fun b=>¬ T b) W1 W' ∧ ∀ b,T' b → T b ∨ W1.heap.size ≤ b:=by
 letI i0 : Rd:=⟨some l,false⟩
 obtain ⟨oA,hoA⟩ : ∃ oA,exec c.E false N ⟨.code A,[],⟨aq8 ps.toList ls fr,hpI j⟩,[]⟩ = oA:=⟨_,rfl⟩
 rw [hoA] at hnA hB
 obtain ⟨hn1,hn2,hn3⟩:=cg2 hnA
 have hl1 : l < W1.heap.size:=h.lo l h.tl
 have hD1 : D < W1.heap.size:=h.lo D h.td
 have hmS : ∀ i k,m7 β (hpI j) i k → c.S0 k:=fun i k hk=>by
  rcases (h.mem.low i k hk).1 with h1 | h1
  ·exact hc.up k h1
  exact hc.lent k h1
 let SA : Nat → Prop:=fun b=>c.S0 b ∧ ((b < W.heap.size ∧ ¬ T0 b) ∨ (T b ∧ b ≠ l ∧ b ≠ D) ∨ V' b ∨ W1.heap.size ≤ b)
 let KA : Nat → Prop:=fun b=>∀ i,¬ m7 β (hpI j) i b
 have hup : Up SA W1:=fun k hk=>⟨hc.up k (Nat.le_trans hW hk),.inr (.inr (.inr hk))⟩
 have hlA : ∀ k,¬ KA k → ∃ i,m7 β (hpI j) i k:=fun k hk=>by
  obtain ⟨i,hi⟩:=Classical.not_forall.1 hk
  exact ⟨i,Classical.not_not.1 hi⟩
 have hSA : ∀ i k,m7 β (hpI j) i k → SA k:=fun i k hk=>⟨hmS i k hk,.inr (.inl (h.own i k hk))⟩
 let cA : Cx:=⟨c.P,c.n,c.E,W1,SA,KA,fun e ρ w=>e = .normal ∧ ∃ β',Sat ⟨W1.heap.size,KA,(hpI j).length,β⟩ oA.st β' ρ w ∧ Keeps KA W1 w ∧ (F.and (GI j)).p (Sof SA β' oA.st.hp) w,(hpI j).length,β⟩
 have hcA : cA.Ok:=⟨hc.env,hup,fun k hk=>by obtain ⟨i,hi⟩:=hlA k hk; exact hSA i k hi⟩
 have hA : Run cA ⟨.code A,[],⟨aq8 ps.toList ls fr,hpI j⟩,[]⟩ (F.and (GI j)):=by
  refine cr2 (un:=false) hcA (N:=N) ?_ ?_
  ·show I3 (exec c.E false N ⟨.code A,[],⟨aq8 ps.toList ls fr,hpI j⟩,[]⟩).vc
   rw [hoA,hn3]
   trivial
  show Run cA (exec c.E false N ⟨.code A,[],⟨aq8 ps.toList ls fr,hpI j⟩,[]⟩) (F.and (GI j))
  rw [hoA]
  refine ⟨fun β' ρ' w' hS hw hG=>?_⟩
  rw [hn1,hn2]
  exact ⟨rfl,β',hS,hw,hG⟩
 have hxβ : ls.map (SV.den β) = x:=by
  rw [← hx]
  exact List.map_congr_left fun s hs=>SV.den_congr (m:=0) (fun i hi=>absurd hi (Nat.not_lt_zero i)) (hls s hs)
 have hS1 : Sat cA.bs ⟨aq8 ps.toList ls fr,hpI j⟩ β (b35 ps.toList x ρ) W1:=by
  refine ⟨fun d=>?_,h.mem.rebase fun i k hk=>.inr fun h2=>h2 i hk,Nat.le_refl _,fun _ _=>rfl⟩
  rw [← hxβ]
  refine c94 (fun d s hs=>?_) (fun s g=>(hls s g).le (Nat.zero_le _)) d
  obtain ⟨h1,h2⟩:=hfr d s hs
  exact ⟨h1.trans (SV.den_congr (fun i hi=>(h.agr i hi).symm) h2),h2.le hN0⟩
 have hG1 : (F.and (GI j)).p (Sof SA β (hpI j)) W1:=⟨F.mono hF fun b _ hb=>⟨⟨(hV' b hb).2.2,.inr (.inr (.inl hb))⟩,fun i hi=>(hV' b hb).1 (h.own i b hi).1⟩,(GI j).mono h.facts fun b _ hb=>⟨⟨hb.1.1,hb.2.elim .inl fun h1=>h1.elim (fun h1=>.inr (.inl h1)) fun h1=>.inr (.inr (.inl (hVV b h1)))⟩,hb.1.2⟩⟩
 have hmt:=dp0 (vs:=x) hm hps
 have h1:=cq8 (hA.run β _ W1 hS1 .refl hG1) hokA [] _ hmt
 refine ⟨fn,_,A,B,run_yield hrec (by simpa using hlen),roundIn_of_wpIn trivial ?_⟩
 have ht : (ps.zip x.toArray).foldl (fun tmps (t,a)=>tmps.setIfInBounds t a) tmps = (ps.toList.zip x).foldl (fun t p=>t.setIfInBounds p.1 p.2) tmps:=by
  rw [← Array.foldl_toList,Array.toList_zip]
 show A.wpIn (Fence.wide.inRound l) 0 c.P _ { tmps:=(ps.zip x.toArray).foldl (fun tmps (t,a)=>tmps.setIfInBounds t a) tmps,defers:=[] } W1
 rw [ht]
 refine Go.wpIn_mono h1 ?_
 rintro e a1 w1 ⟨ρ2,hm2,rfl,β2,hS2,hw2,hG2⟩
 have hrec1 : w1.heap[l]? = some (.loop (R4 fn tmps ps A B D .ready none)):=(hw2.block l hl1 fun i hi=>(h.own i l hi).2.1 rfl).trans hrec
 refine ⟨_,run_beginRound hrec1 rfl,?_⟩
 have hl2 : l < w1.heap.size:=Nat.lt_of_lt_of_le hl1 hw2.size
 have hz2 : (w1.putObj l (.loop (R4 fn tmps ps A B D .busy none))).heap.size = w1.heap.size:=World.putObj_size
 have hlow2 : ∀ i k,m7 β2 oA.st.hp i k → W1.heap.size ≤ k ∨ ∃ i',m7 β (hpI j) i' k:=by
  intro i k hk
  rcases (hS2.mem.low i k hk).1 with h1 | h1
  ·exact .inl h1
  exact .inr (hlA k h1)
 have hne2 : ∀ i b,m7 β2 oA.st.hp i b → b ≠ l:=by
  intro i b hb
  rcases hlow2 i b hb with h1 | ⟨i',h1⟩
  ·omega
  exact (h.own i' b h1).2.1
 have hSl : ∀ b,SA b → b ≠ l:=by
  rintro b ⟨_,h1 | h1 | h1 | h1⟩
  ·exact fun e=>h1.2 (e ▸ hT0l)
  ·exact h1.2.1
  ·exact fun e=>(hV' b h1).1 (e ▸ h.tl)
  omega
 let w2:=w1.putObj l (.loop (R4 fn tmps ps A B D .busy none))
 let KB : Nat → Prop:=fun b=>∀ i,¬ m7 β2 oA.st.hp i b
 have hcB : (Cx.rnd ⟨c.P,c.n,c.E,w2,SA,KB,fun _ _ _=>False,oA.st.hp.length,β2⟩ hpI GI pN pX).Ok:=by
  refine ⟨hc.env,fun k hk=>hup k ?_,fun k hk=>?_⟩
  ·have : w2.heap.size ≤ k:=hk
   rw [hz2] at this
   exact Nat.le_trans hw2.size this
  obtain ⟨i,hi⟩:=Classical.not_forall.1 hk
  rcases hlow2 i k (Classical.not_not.1 hi) with h1 | ⟨i',h1⟩
  ·exact hup k h1
  exact hSA i' k h1
 have hS2' : Sat ⟨w2.heap.size,KB,oA.st.hp.length,β2⟩ oA.st β2 ρ2 w2:=
  ⟨hS2.fr,(hS2.mem.keepS I7 hne2).rebase fun i k hk=>.inr fun h2=>h2 i hk,Nat.le_refl _,fun _ _=>rfl⟩
 have hG2' : (F.and (GI j)).p (Sof SA β2 oA.st.hp) w2:=(F.and (GI j)).keep hG2 (I7.mono fun b hb=>hSl b hb.1)
 have h2:=cq8 ((hB i0 w2 SA KB oA.st.hp.length β2 hcB).run β2 ρ2 w2 hS2' .refl hG2') hokB [] a1 hm2
 refine Go.wpIn_mono h2 ?_
 rintro e a3 w3 ⟨ρ3,hm3,hq⟩
 cases e with
 | normal=>
  obtain ⟨j',hp,hr⟩:=hq
  obtain ⟨h3,h4⟩:=bu7 hc h hlD hT0l hW hN0 (fun b hb=>⟨(hV' b hb).1,(hV' b hb).2.1⟩) (R4 fn tmps ps A B D) hS2.agr hlow2 hw2 hr
  obtain ⟨β3,T',h5,h6,h7,h8⟩:=h4 (.loop (R4 fn tmps ps A B D .ready none))
  exact ⟨_,_,run_endRound none h3,true,T',rfl,⟨j',β3,h5,hp,h8⟩,h6,h7⟩
 | ret=>
  obtain ⟨j',hp,hr⟩:=hq
  obtain ⟨h3,h4⟩:=bu7 hc h hlD hT0l hW hN0 (fun b hb=>⟨(hV' b hb).1,(hV' b hb).2.1⟩) (R4 fn tmps ps A B D) hS2.agr hlow2 hw2 hr
  obtain ⟨β3,T',h5,h6,h7,h8⟩:=h4 (.loop (R4 fn tmps ps A B D .done (some .ret)))
  exact ⟨_,_,run_endRound (some .ret) h3,false,T',rfl,⟨j',β3,h5,.inl ⟨hp,h8⟩⟩,h6,h7⟩
 | exit id=>
  obtain ⟨j',hp,hr⟩:=hq
  obtain ⟨h3,h4⟩:=bu7 hc h hlD hT0l hW hN0 (fun b hb=>⟨(hV' b hb).1,(hV' b hb).2.1⟩) (R4 fn tmps ps A B D) hS2.agr hlow2 hw2 hr
  obtain ⟨β3,T',h5,h6,h7,h8⟩:=h4 (.loop (R4 fn tmps ps A B D .done (some (.exit id))))
  exact ⟨_,_,run_endRound (some (.exit id)) h3,false,T',rfl,⟨j',β3,h5,.inr ⟨id,hp,h8⟩⟩,h6,h7⟩
 | _=>exact hq.elim
end
def d92 (o : Out) : Bool:=(rfQ o).isSome
def rfN (o : Out) : Nat:=(dm8 o).length
theorem bv2 {x y : Obj} : Ext w ((w.alloc x).alloc y):=(R1 w x).trans (R1 _ y)
section
variable {ι : Type}
theorem dj1 {c : Cx} [i : Rd] (gf : FuncId) (lb : List Value) (X : Nat → List Value → Gh) (n n0 : Nat) (hpI : ι → List HE) (GI : ι → Gh) (pre : ι → Prop) (kk : ι → Nat) (prx : Exit → ι → Prop) (ls : ι → List Value → List SV) (N : Nat) (ms : List Nat) (j0 : ι) (hr : i.r = none) (hdm : i.dm = true) (hc : c.Ok) [hcl : CallI c.P gf]
  (hq : d92 o = true) (hF : rfF o = some (.func (.func gf) #[] lb.toArray)) (hms : J8 o.st.fr c.n = some (mkS ms)) (hn0 : c.w0.heap.size ≤ n0) (hseq : ∀ S w,Keeps c.K c.w0 w → G.p S w → (du7 c.P gf lb X n n0).p S w)
  (hl : ∀ j,o.st.hp.length ≤ (hpI j).length) (hp0 : pre j0) (hk0 : kk j0 = 0) (hsub : bv5 o.st ⟨[],hpI j0⟩) (hok : ∀ S w,Keeps c.K c.w0 w → G.p S w → ak9 ⟨[],hpI j0⟩) (hg : ∀ S w,Keeps c.K c.w0 w → G.p S w → (GI j0).p S w)
  (hx : ∀ j x S w,pre j → kk j < n → (X (kk j) x).p S w → (ls j x).map (SV.den fun _=>0) = x ∧ SVsOk (ls j x) ∧ (ls j x).length = rfN o)
  (hA : ∀ j x,pre j → kk j < n → bf5 (rfO c.E N o (ls j x) (hpI j)) = true)
  (hB : ∀ j x (i' : Rd) (w1 : World) (S K : Nat → Prop) (m : Nat) (b : Nat → Nat),pre j → kk j < n → (Cx.rnd ⟨c.P,c.n,c.E,w1,S,K,fun _ _ _=>False,m,b⟩ hpI GI (fun j'=>pre j' ∧ kk j' = kk j + 1) prx).Ok →
   Run (Cx.rnd ⟨c.P,c.n,c.E,w1,S,K,fun _ _ _=>False,m,b⟩ hpI GI (fun j'=>pre j' ∧ kk j' = kk j + 1) prx) ⟨.code (rfB o),[],(rfO c.E N o (ls j x) (hpI j)).st,[]⟩ ((X (kk j) x).and (GI j)))
  (h1 : ∀ D j,pre j → kk j = n → Run c ⟨.ex .normal,o.k,⟨(c.n,mkS (D :: ms)) :: o.st.fr,hpI j ++ [.abs (dfE D)]⟩,[]⟩ (GI j))
  (h2 : ∀ D j e,prx e j → (e = .ret ∨ ∃ id,e = .exit id) → Run c ⟨.ex e,o.k,⟨(c.n,mkS (D :: ms)) :: o.st.fr,hpI j ++ [.abs (dfE D)]⟩,[]⟩ (GI j)) : Run c o G:=by
 refine ⟨fun β0 ρ w hS hw hG=>?_⟩
 obtain ⟨hS0,hsof⟩:=hS.sub hsub (hok _ _ hw hG)
 have hg0:=hg _ _ hw hG
 obtain ⟨hsz,hsq⟩:=hseq _ _ hw hG
 unfold rfF at hF
 unfold d92 at hq
 unfold rfN dm8 at hx
 unfold rfO dm8 rfA at hA hB
 unfold rfB at hB
 cases hQ : rfQ o with
 | none=>rw [hQ] at hq; cases hq
 | some y=>
 obtain ⟨g,psl,A,B⟩:=y
 rw [hQ] at hF hx hA hB
 simp only at hF hx hA hB
 have hcur : ∃ ps : Array Tmp,o.cur = .code (.rangeFunc g ps A B) ∧ psl = ps.toList:=by
  unfold rfQ at hQ
  split at hQ
  ·rename_i g' ps' a' b' e
   simp only [Option.some.injEq,Prod.mk.injEq] at hQ
   obtain ⟨rfl,rfl,rfl,rfl⟩:=hQ
   exact ⟨ps',e,rfl⟩
  cases hQ
 obtain ⟨ps,hcur,rfl⟩:=hcur
 have hgo : opd o.st.fr g = some (.one (.val (.func (.func gf) #[] lb.toArray))):=by
  split at hF
  ·rename_i v e
   simp only [Option.some.injEq] at hF
   subst hF
   exact e
  cases hF
 rw [hcur]
 show WqC c.P c.n (.rangeFunc g ps A B) (kQ c.P c.n c.Q o.k) ρ w
 refine c43 fun hcok D0 a hm=>?_
 simp only [G5,Bool.and_eq_true] at hcok
 obtain ⟨⟨⟨hg1,hps⟩,hokA⟩,hokB⟩:=hcok
 refine wpIn_rangeFunc fun fn _=>?_
 rw [c74,hr]
 have hgv : a.eval g = .func (.func gf) #[] lb.toArray:=(hm.opd hg1).trans ((ai2 (fun t _=>hS.fr t)) _ hgo).1
 obtain ⟨W,hW⟩ : ∃ W,(w.alloc (.deferred (some []))).alloc (.loop (R4 fn a.tmps ps A B w.heap.size .ready none)) = W:=⟨_,rfl⟩
 have hzW : W.heap.size = w.heap.size + 2:=by rw [← hW]; simp
 have hxW : Ext w W:=by rw [← hW]; exact bv2
 have hWl : W.heap[w.heap.size + 1]? = some (.loop (R4 fn a.tmps ps A B w.heap.size .ready none)):=by
  rw [← hW]; have:=World.alloc_heap_new (w.alloc (.deferred (some []))) (.loop (R4 fn a.tmps ps A B w.heap.size .ready none)); rwa [World.size_alloc] at this
 have hWD : W.heap[w.heap.size]? = some (.deferred (some [])):=by
  rw [← hW]; exact (Below.heap_alloc _ _ _ (by simp)).trans (World.alloc_heap_new w _)
 let T0 : Nat → Prop:=fun b=>(∃ i,m7 β0 (hpI j0) i b) ∨ b = w.heap.size ∨ b = w.heap.size + 1
 have hT0w : ∀ b,b < w.heap.size → T0 b → ∃ i,m7 β0 (hpI j0) i b:=by
  rintro b hb (h3 | h3 | h3)
  ·exact h3
  ·omega
  omega
 have hw0 : c.w0.heap.size ≤ w.heap.size:=hw.size
 let J : (Nat → Prop) → (Nat → Prop) → Nat → Bool → World → Prop:=fun T V k f W1=>d98 c o.st.hp.length β0 W (w.heap.size + 1) w.heap.size T0 hpI GI (fun j=>pre j ∧ kk j = k) prx (R4 fn a.tmps ps A B w.heap.size) f T V W1
 have hJ0 : J T0 (fun _=>False) 0 true W:=by
  refine ⟨j0,β0,⟨?_,fun _ _=>rfl,.refl,?_,?_,hWD,.inr (.inr rfl),.inr (.inl rfl),fun _ hb=>hb,fun _ hb=>hb.elim,?_,fun b hb=>.inl hb⟩,⟨hp0,hk0⟩,hWl⟩
  ·exact (hS0.mem.rebase (base':=c.bs) fun i k hk=>(hS0.mem.low i k hk).1).to hxW
  ·intro i b hb
   have:=(hS0.mem.low i b hb).2
   exact ⟨.inl ⟨i,hb⟩,by omega,by omega⟩
  ·have g1:=(GI j0).mono hg0 (S':=fun b=>Sof c.S0 β0 o.st.hp b ∧ b < w.heap.size) fun b hb hs=>⟨hs,hb⟩
   refine (GI j0).mono ((GI j0).keep g1 (Keeps.of hxW)) fun b _ hb=>⟨hsof _ _ hb.1,.inl ⟨by omega,fun h3=>?_⟩⟩
   obtain ⟨i,h4⟩:=hT0w b hb.2 h3
   exact (hsof _ _ hb.1).2 i h4
  ·rintro b (⟨i,h3⟩ | h3 | h3)
   ·have:=(hS0.mem.low i b h3).2
    omega
   ·omega
   omega
 have hA' : SeqA c.P (w.heap.size + 1) X n (fun b=>(Sof c.S0 β0 o.st.hp b ∧ b < n0) ∨ n0 ≤ b) W T0 J:=by
  refine ⟨?_,?_,?_,?_⟩
  ·rintro T V k f W1 W2 ⟨j,β,h3,h4⟩ hz hT hk
   refine ⟨j,β,h3.stab hz hT hk,?_⟩
   cases f with
   | true=>exact ⟨h4.1,(hT _ (.inl h3.tl)).trans h4.2⟩
   | false=>exact h4.imp (fun h5=>⟨h5.1,(hT _ (.inl h3.tl)).trans h5.2⟩) fun ⟨id,h5⟩=>⟨id,h5.1,(hT _ (.inl h3.tl)).trans h5.2⟩
  ·rintro T V k f W1 ⟨j,β,h3,_⟩
   exact h3.lo
  ·rintro T V k f W1 ⟨j,β,h3,_⟩
   exact h3.t0
  rintro T V V' k x W1 hlt ⟨j,β,h3,⟨hp,rfl⟩,hrec⟩ hk hVV hV' hF'
  obtain ⟨x1,x2,x3⟩:=hx j x _ _ hp hlt hF'
  have hmr : @MtI ⟨some (w.heap.size + 1),false⟩ c.n [] { tmps:=a.tmps,defers:=[] } ρ:=@MtI.mk ⟨some (w.heap.size + 1),false⟩ c.n [] { tmps:=a.tmps,defers:=[] } ρ hm.size rfl hm.get
  refine cy2 (fr:=o.st.fr) (ρ:=ρ) (N:=N) hc h3 hrec (by omega) (.inr (.inr rfl)) (Nat.le_trans hw0 (Nat.le_trans hxW.size hk.size)) hmr hS.fr (hl j) hokA hokB hps x1 (SVsOk.all x2) ?_ hVV (fun b hb=>⟨(hV' b hb).1,(hV' b hb).2.1,?_⟩) hF' (hA j x hp hlt) (fun i' w1 S K m b h4=>hB j x i' w1 S K m b hp hlt h4)
  ·rw [← x1,List.length_map,x3]
   simp
  rcases (hV' b hb).2.2 with h4 | h4
  ·exact h4.1.1
  exact hc.up b (Nat.le_trans hn0 h4)
 have hkw : ∀ W3 x,Keeps (fun b=>¬ T0 b) W W3 → Keeps c.K c.w0 (W3.putObj (w.heap.size + 1) x):=by
  intro W3 x hk
  have h3 : Keeps (fun b=>¬ T0 b) w (W3.putObj (w.heap.size + 1) x):=Keeps.behind (Keeps.behind (Keeps.of hxW) hk fun b _ hb=>hb) (I7 (x:=x)) fun b hb hb2=>by omega
  refine Keeps.behind hw h3 fun b hb hb2 hT=>?_
  obtain ⟨i,h4⟩:=hT0w b (by omega) hT
  rcases (hS0.mem.low i b h4).1 with h5 | h5
  ·have h6 : c.w0.heap.size ≤ b:=h5
   omega
  exact h5 hb2
 have fin : ∀ j β T V W3 x,RngJ c o.st.hp.length β0 W (w.heap.size + 1) w.heap.size T0 hpI GI j β T V W3 →
   Sat c.bs ⟨(c.n,mkS (w.heap.size :: ms)) :: o.st.fr,hpI j ++ [.abs (dfE w.heap.size)]⟩ β (upd ρ c.n ((mkS (w.heap.size :: ms)).den β)) (W3.putObj (w.heap.size + 1) x) ∧
   (GI j).p (Sof c.S0 β (hpI j ++ [.abs (dfE w.heap.size)])) (W3.putObj (w.heap.size + 1) x) ∧
   MtI c.n D0 { a with defers:=[mkD w.heap.size] ++ a.defers } (upd ρ c.n ((mkS (w.heap.size :: ms)).den β)):=by
  intro j β T V W3 x h3
  have hD3:=h3.lo _ h3.td
  have hlen : o.st.hp.length ≤ (hpI j ++ [HE.abs (dfE w.heap.size)]).length:=by
   have:=hl j
   simp
   omega
  refine ⟨⟨fun d s hs=>?_,?_,Nat.le_trans hS.agr.1 hlen,fun i hi=>(h3.agr i (Nat.lt_of_lt_of_le hi hS.agr.1)).trans (hS.agr.2 i hi)⟩,?_,?_,?_,?_⟩
  ·rw [H6] at hs
   rw [ag5]
   split at hs
   ·rename_i e
    simp only [Option.some.injEq] at hs
    subst hs
    rw [if_pos e]
    exact ⟨rfl,d83 _⟩
   rename_i e
   rw [if_neg e]
   obtain ⟨h4,h5⟩:=hS.fr d s hs
   exact ⟨h4.trans (SV.den_congr (fun i hi=>(h3.agr i hi).symm) h5),h5.le hlen⟩
  ·refine Mem.snoc (h3.mem.keepS I7 fun i b hb=>(h3.own i b hb).2.1) ?_ ?_ ?_
   ·exact (World.putObj_heap_other (by omega)).trans h3.dfr
   ·rintro k rfl
    exact ⟨.inl hw0,by rw [World.putObj_size]; exact hD3⟩
   rintro i k hk rfl
   exact (h3.own i _ hk).2.2 rfl
  ·have g1:=(GI j).keep h3.facts ((I7 (w:=W3) (l:=w.heap.size + 1) (x:=x)).mono fun b hb=>?_)
   ·refine (GI j).mono g1 fun b _ hb=>⟨hb.1.1,fun i hi=>?_⟩
    rcases aw5 hi with h4 | ⟨_,h4⟩
    ·exact hb.1.2 i h4
    have h5 : b = w.heap.size:=h4
    rcases hb.2 with h6 | h6 | h6
    ·exact h6.2 (.inr (.inl h5))
    ·exact h6.2.2 h5
    exact h3.vt b h6 (h5 ▸ h3.td)
   rcases hb.2 with h6 | h6 | h6
   ·exact fun e=>h6.2 (.inr (.inr e))
   ·exact h6.2.1
   exact fun e=>h3.vt b h6 (e ▸ h3.tl)
  ·exact hm.size
  ·show [mkD w.heap.size] ++ a.defers = bq6 (upd ρ c.n ((mkS (w.heap.size :: ms)).den β) c.n) ++ D0
   have h4:=hm.defers
   have h5 : ρ c.n = (mkS ms).den β0:=((hS.fr c.n) _ hms).1
   unfold bq6 at h4 ⊢
   rw [A8,hdm,cond_true,a86]
   rw [h5,hdm,cond_true,a86] at h4
   rw [h4]
   rfl
  intro t ht
  rw [ag5,if_neg (show c.n ≠ t by omega)]
  exact hm.get t ht
 refine ⟨w.heap.size + 1,[mkD w.heap.size],W,{ target:=.fn (.func gf) lb.toArray,args:=#[ah2 (w.heap.size + 1)] },W,gf,#[ah2 (w.heap.size + 1)] ++ lb.toArray,W,?_,?_,fun f' _=>ad8 f',?_,au2,ao8 ?_⟩
 ·rw [← hW]; exact run_enterLoop_outer _ _ _ _ _
 ·simp only [resolve,hgv]
  simp [go_sem,ah2]
 ·simp [invoke,go_sem,hcl.run]
 have h3:=hsq (w.heap.size + 1) W T0 J (Keeps.of hxW) (fun b hb g hT=>by obtain ⟨i,h4⟩:=hT0w b hb hT; exact (hsof _ _ g).2 i h4) hA' hJ0
 unfold Gives at h3
 have e : (ah2 (w.heap.size + 1) :: lb).toArray = #[ah2 (w.heap.size + 1)] ++ lb.toArray:=by simp
 rw [e] at h3
 refine Calls.mono h3 ?_
 rintro e W3 ⟨v,rfl,hk3,T',V',k,hJ⟩
 rcases hJ with ⟨rfl,j,β,h4,⟨hp,hkj⟩,hrec⟩ | ⟨j,β,h4,h5⟩
 ·obtain ⟨f1,f2,f3⟩:=fin j β T' V' W3 (.loop (R4 fn a.tmps ps A B w.heap.size .exhausted none)) h4
  exact ⟨none,_,run_endLoop hrec (by simp),⟨_,f3,(h1 w.heap.size j hp hkj).run β _ _ f1 (hkw W3 _ hk3) f2⟩⟩
 rcases h5 with ⟨hp,hrec⟩ | ⟨id,hp,hrec⟩
 ·obtain ⟨f1,f2,f3⟩:=fin j β T' V' W3 (.loop (R4 fn a.tmps ps A B w.heap.size .exhausted (some .ret))) h4
  exact ⟨some .ret,_,run_endLoop hrec (by simp),Go.wpIn_ret ⟨_,f3,(h2 w.heap.size j _ hp (.inl rfl)).run β _ _ f1 (hkw W3 _ hk3) f2⟩⟩
 obtain ⟨f1,f2,f3⟩:=fin j β T' V' W3 (.loop (R4 fn a.tmps ps A B w.heap.size .exhausted (some (.exit id)))) h4
 exact ⟨some (.exit id),_,run_endLoop hrec (by simp),Go.wpIn_exit ⟨_,f3,(h2 w.heap.size j _ hp (.inr ⟨id,rfl⟩)).run β _ _ f1 (hkw W3 _ hk3) f2⟩⟩
end
abbrev Cx.fnD (P : Program) (fn : Func) (E : Env) (w0 : World) (S0 K : Nat → Prop) (Ψ : Value → World → Prop) : Cx:=⟨P,fn.ntmps,E,w0,S0,K,ca2 P fn Ψ,0,fun _=>0⟩
variable {c : Cx}
theorem dc2 {fn : Func} {l : List SV} (hf : P.funcs[f]? = some fn) (hb : fn.body = some code) (hok : bd9 fn code = true)
  (hn : Nat.ble args.length fn.ntmps = true) (hl : SVsOkM hp.length l) (ha : l.map (SV.den β) = args) (hM : Mem (Bs.of w.heap.size K) hp β w) (hG : G.p (Sof S0 β hp) w)
  (h : ∀ i : Rd,i.dm = true → i.r = none → Run (Cx.fnD P fn E w S0 K Ψ) ⟨.code code,[],⟨(fn.ntmps,mkS []) :: bo3 0 l,hp⟩,[]⟩ G) : Gives P f args w Ψ:=by
 refine c09 hf hb hok hn fun i h1 h2=>?_
 subst ha
 have h0:=bh2 (base:=Bs.of w.heap.size K) hl hM rfl
 refine (h i h1 h2).run β _ w ⟨fun d s hs=>?_,h0.mem,h0.agr⟩ .refl hG
 rw [H6] at hs
 split at hs
 ·rename_i e
  simp only [Option.some.injEq] at hs
  subst hs
  refine ⟨?_,trivial⟩
  have h3 : (l.map (SV.den β)).length ≤ d:=by rw [← e]; exact Nat.le_of_ble_eq_true hn
  show (l.map (SV.den β)).getD d undef = undef
  simp [List.getD_eq_getElem?_getD,List.getElem?_eq_none h3]
 exact h0.fr d s hs
theorem di1 {fn : Func} {l : List SV} (hf : P.funcs[f]? = some fn) (hb : fn.body = some code) (hok : bd9 fn code = true)
  (hn : Nat.ble args.length fn.ntmps = true) (hl : SVsOk l) (ha : l.map (SV.den fun _=>0) = args) (hG : G.p S0 w)
  (h : ∀ i : Rd,i.r = none → i.dm = true → Run (Cx.fnD P fn E w S0 All Ψ) ⟨.code code,[],⟨(fn.ntmps,mkS []) :: bo3 0 l,[]⟩,[]⟩ G) : Gives P f args w Ψ:=by
 have aux : ∀ {r : List SV},SVsOk r → SVsOkM 0 r:=by
  intro r
  induction r with
  | nil=>intro _; trivial
  | cons s r ih=>intro h; exact ⟨h.1,ih h.2⟩
 exact dc2 (hp:=[]) (β:=fun _=>0) hf hb hok hn (aux hl) ha (a99 (base:=Bs.of w.heap.size All) hl rfl).mem (G.mono hG fun k _ hk=>⟨hk,fun i hi=>by simp [m7] at hi⟩) fun i h1 h2=>h i h2 h1
theorem cc6 (hm : hp.length = m) (h : hp.foldr (fun p q=>HE.Ok m p ∧ q) True) : ak9 ⟨[],hp⟩:=by
 subst hm
 have key : ∀ {m : Nat} {l : List HE},l.foldr (fun p q=>HE.Ok m p ∧ q) True → ∀ p ∈ l,HE.Ok m p:=by
  intro m l
  induction l with
  | nil=>intro _ p hp; cases hp
  | cons x r ih=>
   intro h p hp
   rcases List.mem_cons.1 hp with rfl | hp
   ·exact h.1
   exact ih h.2 p hp
 exact ⟨fun d s hs=>(by cases hs),key h⟩
def dj0 : List HE → List Nat → List Nat → Prop
 | _,[],[]=>True
 | hp,b :: bs,D :: ms=>nth hp b = some (.abs (dfE D)) ∧ dj0 (Z9 hp b .gone) bs ms
 | _,_,_=>False
def ay4 : List HE → List Nat → List HE
 | hp,[]=>hp
 | hp,b :: bs=>ay4 (Z9 hp b .gone) bs
theorem di5 (h : Mem base hp β w) (hb : hp[b]? = some (.abs A)) (k : Keeps (fun g=>¬ A.Q g) w w') : Mem base (hp.set b .gone) β w' ∧ ∀ i g,m7 β (hp.set b .gone) i g → m7 β hp i g:=by
 have get : ∀ {i : Nat} {e : HE},(hp.set b .gone)[i]? = some e → (b ≠ i ∧ hp[i]? = some e) ∨ e = .gone:=by
  intro i e hi
  by_cases e0 : b = i
  ·subst e0
   rw [List.getElem?_set_self (List.getElem?_eq_some_iff.1 hb).1] at hi
   exact .inr (Option.some.inj hi).symm
  rw [List.getElem?_set_ne e0] at hi
  exact .inl ⟨e0,hi⟩
 have hm : ∀ i g,m7 β (hp.set b .gone) i g → b ≠ i ∧ m7 β hp i g:=by
  rintro i g ⟨e,he,hg⟩
  rcases get he with ⟨h1,h2⟩ | rfl
  ·exact ⟨h1,e,h2,hg⟩
  exact hg.elim
 have hA : ∀ i g,b ≠ i → m7 β hp i g → ¬ A.Q g:=fun i g hne hg hq=>hne (h.apart b i g ⟨_,hb,hq⟩ hg)
 refine ⟨⟨fun i T l hi=>?_,fun i T s v n cs hi=>?_,fun i B hi=>?_,fun i g hi=>?_,fun i j g hi hj=>h.apart i j g (hm i g hi).2 (hm j g hj).2⟩,fun i g hi=>(hm i g hi).2⟩
 ·rcases get hi with ⟨h1,h2⟩ | h1
  ·exact ⟨(h.blk i T l h2).1.keep k (hA i _ h1 ⟨_,h2,rfl⟩),fun c hc=>by rw [List.length_set]; exact (h.blk i T l h2).2 c hc⟩
  cases h1
 ·rcases get hi with ⟨h1,h2⟩ | h1
  ·exact ad1 (h.row i T s v n cs h2) k fun g hg=>hA i g h1 ⟨_,h2,hg⟩
  cases h1
 ·rcases get hi with ⟨h1,h2⟩ | h1
  ·exact B.keep (h.abs i B h2) (fun g hg=>(h.low i g ⟨_,h2,hg⟩).2) k fun g hg=>hA i g h1 ⟨_,h2,hg⟩
  cases h1
 exact ⟨(h.low i g (hm i g hi).2).1,Nat.lt_of_lt_of_le (h.low i g (hm i g hi).2).2 k.size⟩
theorem ds6 {K : World → Prop} : ∀ {ms bs : List Nat} {hp : List HE} {w : World},dj0 hp bs ms → Mem c.bs hp β w → Keeps c.K c.w0 w → (∀ k,S k → ∀ i,¬ m7 β hp i k) → G.p S w →
  (∀ w',Mem c.bs (ay4 hp bs) β w' → Keeps c.K c.w0 w' → G.p S w' → K w') → a49 c.P (ms.map mkD) w K:=by
 intro ms
 induction ms with
 | nil=>
  intro bs hp w hd hM hw hS hG hK
  cases bs with
  | nil=>exact hK w hM hw hG
  | cons b bs=>exact hd.elim
 | cons D ms ih=>
  intro bs hp w hd hM hw hS hG hK
  cases bs with
  | nil=>exact hd.elim
  | cons b bs=>
   obtain ⟨h1,h2⟩:=hd
   rw [O9] at h1
   have h3 : w.heap[D]? = some (.deferred (some [])):=hM.abs b _ h1
   have hk : Keeps (fun g=>g ≠ D) w (w.putObj D (.deferred none)):=I7
   obtain ⟨h4,h5⟩:=di5 hM h1 (w':=w.putObj D (.deferred none)) (hk.mono fun g hg=>hg)
   refine ⟨D,_,rfl,run_takeDeferred h3,ih (hp:=Z9 hp b .gone) h2 ?_ ?_ ?_ ?_ hK⟩
   ·rw [O7]; exact h4
   ·exact Mem.grow hM hw hk b fun i hi=>⟨_,h1,Classical.not_not.1 hi⟩
   ·intro k hk i hi
    rw [O7] at hi
    exact hS k hk i (h5 i k hi)
   refine G.keep hG (hk.mono fun g hg e=>hS g hg b ⟨_,h1,e⟩)
theorem bs6 : ∀ {bs : List Nat} {hp : List HE},(ay4 hp bs).length = hp.length:=by
 intro bs
 induction bs with
 | nil=>intro hp; rfl
 | cons b bs ih=>intro hp; simp only [ay4]; rw [ih,O7,List.length_set]
theorem dx2 [Rd] {fn : Func} (v : Value) (ms bs : List Nat) (hc : c.Ok) (hQ : c.Q = ca2 c.P fn Ψ) (hn : c.n = fn.ntmps) (hrs : fn.results.toList = rs) (he : ai1 o = true)
  (hms : J8 o.st.fr c.n = some (mkS ms)) (hbs : dj0 o.st.hp bs ms) (hv : ∀ β,ah8 c.E rs ⟨o.st.fr,ay4 o.st.hp bs⟩ β = some v)
  (h : ∀ β S w,Mem c.bs (ay4 o.st.hp bs) β w → (∀ k,S k → Sof c.S0 β o.st.hp k) → Keeps c.K c.w0 w → G.p S w → Ψ v w) : Run c o G:=by
 refine ⟨fun β ρ w hS hw hG=>?_⟩
 have hend : ∀ e,e = Exit.ret ∨ e = Exit.normal → ca2 c.P fn Ψ e ρ w:=by
  have h0 : a49 c.P (bi5 (ρ fn.ntmps)) w fun w'=>∃ vs,S8 c.P ρ w' fn.results.toList vs ∧ Ψ (be5 vs) w':=by
   rw [← hn,((hS.fr c.n) _ hms).1,a86]
   refine ds6 (S:=Sof c.S0 β o.st.hp) hbs hS.mem hw (fun k g=>g.2) hG fun w' hM' hw' hG'=>?_
   have h1:=hv β
   unfold ah8 at h1
   cases hl : at8 c.E ⟨o.st.fr,ay4 o.st.hp bs⟩ rs with
   | none=>rw [hl] at h1; cases h1
   | some l=>
    rw [hl] at h1
    simp only [Option.map_some,Option.some.injEq] at h1
    have hS' : Sat c.bs ⟨o.st.fr,ay4 o.st.hp bs⟩ β ρ w':=⟨fun d s hs=>by rw [bs6]; exact hS.fr d s hs,hM',by rw [bs6]; exact hS.agr.1,hS.agr.2⟩
    have h2:=a13 hc.env hS' hl
    exact ⟨_,hrs ▸ h2,h1 ▸ h β _ w' hM' (fun k g=>g) hw' hG'⟩
  rintro e (rfl | rfl) <;> exact h0
 unfold ai1 at he
 split at he <;> first | (cases he; done) | skip
 ·rename_i e1 e2
  rw [e1,e2]
  show c.Q .ret ρ w
  rw [hQ]
  exact hend _ (.inl rfl)
 rename_i e1 e2
 rw [e1,e2]
 show c.Q .normal ρ w
 rw [hQ]
 exact hend _ (.inr rfl)
theorem dw1 [Rd] {fn : Func} {w0 : World} (v : Value) (ms bs : List Nat) (hc : (Cx.fnD P fn E w0 S0 K Ψ).Ok) (hv0 : (ex (Cx.fnD P fn E w0 S0 K Ψ) o).vc = []) (hrs : fn.results.toList = rs) (he : ai1 (ex (Cx.fnD P fn E w0 S0 K Ψ) o) = true)
  (hms : J8 (ex (Cx.fnD P fn E w0 S0 K Ψ) o).st.fr fn.ntmps = some (mkS ms)) (hbs : dj0 (ex (Cx.fnD P fn E w0 S0 K Ψ) o).st.hp bs ms) (hv : ∀ β,ah8 E rs ⟨(ex (Cx.fnD P fn E w0 S0 K Ψ) o).st.fr,ay4 (ex (Cx.fnD P fn E w0 S0 K Ψ) o).st.hp bs⟩ β = some v)
  (h : ∀ β S w,Mem (Bs.of w0.heap.size K) (ay4 (ex (Cx.fnD P fn E w0 S0 K Ψ) o).st.hp bs) β w → (∀ k,S k → Sof S0 β (ex (Cx.fnD P fn E w0 S0 K Ψ) o).st.hp k) → Keeps K w0 w → G.p S w → Ψ v w) : Run (Cx.fnD P fn E w0 S0 K Ψ) o G:=
 O6 hc hv0 (dx2 v ms bs hc rfl rfl hrs he hms hbs hv h)
def ml (m : M3) (n : Nat) : Prop:=tl m.a n ∧ tl m.b n ∧ tl m.c n
noncomputable def b19 (a1 a2 a3 b1 b2 b3 c1 c2 c3 : Value) : Value:=(SV.agg [.ag 4 a1,.ag 4 a2,.ag 4 a3,.ag 4 b1,.ag 4 b2,.ag 4 b3,.ag 4 c1,.ag 4 c2,.ag 4 c3]).den fun _=>0
structure QMapC (S : Nat → Prop) (w : World) (m : M3) (a1 a2 a3 b1 b2 b3 c1 c2 c3 : Value) : Prop where
 a1 : QV S w a1 m.a.x
 a2 : QV S w a2 m.a.y
 a3 : QV S w a3 m.a.z
 b1 : QV S w b1 m.b.x
 b2 : QV S w b2 m.b.y
 b3 : QV S w b3 m.b.z
 c1 : QV S w c1 m.c.x
 c2 : QV S w c2 m.c.y
 c3 : QV S w c3 m.c.z
def QMapV (S : Nat → Prop) (w : World) (v : Value) (m : M3) : Prop:=∃ a1 a2 a3 b1 b2 b3 c1 c2 c3,v = b19 a1 a2 a3 b1 b2 b3 c1 c2 c3 ∧ QMapC S w m a1 a2 a3 b1 b2 b3 c1 c2 c3
section
variable {S S' : Nat → Prop} {w w' : World} {v : Value} {m : M3}
theorem QMapV.keep (h : QMapV S w v m) (k : Keeps S w w') : QMapV S w' v m:=let ⟨a1,a2,a3,b1,b2,b3,c1,c2,c3,e,h⟩:=h; ⟨a1,a2,a3,b1,b2,b3,c1,c2,c3,e,⟨h.a1.keep k,h.a2.keep k,h.a3.keep k,h.b1.keep k,h.b2.keep k,h.b3.keep k,h.c1.keep k,h.c2.keep k,h.c3.keep k⟩⟩
theorem QMapV.mono (h : QMapV S w v m) (hs : ∀ k,k < w.heap.size → S k → S' k) : QMapV S' w v m:=let ⟨a1,a2,a3,b1,b2,b3,c1,c2,c3,e,h⟩:=h; ⟨a1,a2,a3,b1,b2,b3,c1,c2,c3,e,⟨h.a1.mono hs,h.a2.mono hs,h.a3.mono hs,h.b1.mono hs,h.b2.mono hs,h.b3.mono hs,h.c1.mono hs,h.c2.mono hs,h.c3.mono hs⟩⟩
theorem QMapC.ok (n : Nat) {b1 b2 b3 : Value} (h : QMapC S w m a1 a2 a3 b1 b2 b3 c1 c2 c3) : (SV.agg [.ag 4 a1,.ag 4 a2,.ag 4 a3,.ag 4 b1,.ag 4 b2,.ag 4 b3,.ag 4 c1,.ag 4 c2,.ag 4 c3]).Ok n:=
 I1 ⟨h.a1.okc,h.a2.okc,h.a3.okc,h.b1.okc,h.b2.okc,h.b3.okc,h.c1.okc,h.c2.okc,h.c3.okc,trivial⟩
theorem QMapV.ok (h : QMapV S w v m) : (SV.one (.ag 36 v)).Ok 0:=by
 obtain ⟨a1,a2,a3,b1,b2,b3,c1,c2,c3,rfl,h⟩:=h
 exact as8 (h.ok 0) rfl
end
abbrev ax6 (v : Value) (m : M3) : Gh:=⟨fun S w=>QMapV S w v m,fun h k=>h.keep k,fun h k=>h.mono k⟩
theorem bx5 {α : Type} {s : Nat} {F : Value → α → Gh} {l : List α} (i k n : Nat) (T : TypeId) (vs : List Value) (hM : Mem base hp β w) (hb : nth hp i = some (.blk T (vs.map (Ch.ag s)))) (hl : ∀ x ∈ vs,P6 g s x) (h : ElsV g s F S w ((vs.drop k).take n) l) (hn : l.length = n) (hkn : k + n ≤ vs.length) (hm : n ≤ maxLen) :
  SeqV g s F (fun k=>S k ∨ some k = Value.ownBlock (.slice (some ⟨β i,0,none⟩) 0 0)) w (.slice (some ⟨β i,k * s,none⟩) n n) l:=by
 rw [O9] at hb
 have hB:=(hM.blk i T _ hb).1
 rw [ba2] at hB
 have hc:=Z3 hl
 have hle : (k + n) * s ≤ vs.length * s:=Nat.mul_le_mul_right _ hkn
 rw [Nat.add_mul] at hle
 refine ⟨T,(vs.drop k).take n,h.len,h.lies,⟨?_,.inr ⟨β i,k * s,n,(A7 vs).toArray,(0,0),by rw [hn],by rw [hn]; exact Nat.le_refl _,hm,.inr rfl,hB,?_,?_⟩⟩,fun j a x ha hx=>((F x a).mono (h.el j a x ha hx) fun k _ hk=>.inl hk)⟩
 ·have h1:=Z3 h.lies
  rw [h.len] at h1
  exact h1
 ·simp only [List.size_toArray,hc]
  omega
 rw [hn]
 have e1:=cu0 (g:=g) (s:=s) (vs:=vs.drop k) (fun x hx=>hl x (List.mem_of_mem_drop hx)) n
 have e2 : (A7 vs).drop (k * s) = A7 (vs.drop k):=by
  have h3 : A7 vs = A7 (vs.take k) ++ A7 (vs.drop k):=by unfold A7; rw [← List.flatMap_append,List.take_append_drop]
  have h4:=Z3 (g:=g) (s:=s) (vs:=vs.take k) (fun x hx=>hl x (List.mem_of_mem_take hx))
  rw [List.length_take,Nat.min_eq_left (by omega)] at h4
  rw [h3,← h4,List.drop_left]
 show ((A7 vs).drop (k * s)).take (n * s) = _
 rw [e2,e1]
 rfl
theorem d56 {a b c : Value} (h1 : QV S w a t.x) (h2 : QV S w b t.y) (h3 : QV S w c t.z) : ElsV true 4 qF S w [a,b,c] t.list:=by
 refine ⟨rfl,fun x hx=>?_,fun i q x hq hx=>?_⟩
 ·simp only [List.mem_cons,List.not_mem_nil,or_false] at hx
  rcases hx with rfl | rfl | rfl
  ·exact h1.lies
  ·exact h2.lies
  exact h3.lies
 match i with
 | 0=>simp [T3.list] at hq hx; subst hq hx; exact h1
 | 1=>simp [T3.list] at hq hx; subst hq hx; exact h2
 | 2=>simp [T3.list] at hq hx; subst hq hx; exact h3
 | i + 3=>simp [T3.list] at hq
theorem c58 {m : M3} (hS : Up S w) (hv : QMapV S w v m) (hl : ml m n) (hn : n ≤ 100000) :
  Gives prog 76 [v] w fun v' w'=>Ext w w' ∧ QV S w' v' m.det:=by
 obtain ⟨a1,a2,a3,b1,b2,b3,c1,c2,c3,rfl,hm⟩:=hv
 refine n4 (E:=env) (S0:=S) (G:=((qG a1 m.a.x).and ((qG a2 m.a.y).and ((qG a3 m.a.z).and ((qG b1 m.b.x).and ((qG b2 m.b.y).and ((qG b3 m.b.z).and ((qG c1 m.c.x).and ((qG c2 m.c.y).and (qG c3 m.c.z)))))))))) (l:=[.agg [.ag 4 a1,.ag 4 a2,.ag 4 a3,.ag 4 b1,.ag 4 b2,.ag 4 b3,.ag 4 c1,.ag 4 c2,.ag 4 c3]]) func76 rfl rfl rfl ⟨hm.ok _,trivial⟩ rfl ⟨hm.a1,hm.a2,hm.a3,hm.b1,hm.b2,hm.b3,hm.c1,hm.c2,hm.c3⟩ ?_
 refine a8 8 ?_
 refine a6 6 ?_
 refine f4 12 l7 (m.b.cross m.c) (fun _ _ S w g _ _ d _=>(kx (E8 g ⟨_,_,_,rfl,d.2.2.2.1,d.2.2.2.2.1,d.2.2.2.2.2.1⟩ ⟨_,_,_,rfl,d.2.2.2.2.2.2.1,d.2.2.2.2.2.2.2.1,d.2.2.2.2.2.2.2.2⟩ hl.2.1 hl.2.2 (by omega)))) ?_
 refine f4 4 qG m.det (fun _ g S w d _ _ s t=>(kx (S7 d ⟨_,_,_,rfl,s.1,s.2.1,s.2.2.1⟩ (j8 t 6 : (l7 (g 6) (m.b.cross m.c)).p S w) hl.1 (q7 hl.2.1 hl.2.2) (by omega)))) ?_
 refine b6 1 (fun g d=>(qG (d 7) m.det).and g) (fun g _=>(by kernel_rfl)) ?_
 intro η_1
 exact j9 (η_1 7) rfl (fun S w g d s=>⟨d,s.1.mono fun k _ hk=>g k hk⟩)
theorem M4 {m : M3} {k : Nat} (hS : Up S w) (hv : QMapV S w v m) (hp : QTripV S w vp p) (hl : ml m n) (hk : tl p k) (hn : n + k ≤ 100000) :
  Gives prog 9 [v,vp] w fun v' w'=>Ext w w' ∧ QTripV S w' v' (m.apply p):=by
 obtain ⟨a1,a2,a3,b1,b2,b3,c1,c2,c3,rfl,hm⟩:=hv
 refine n4 (E:=env) (S0:=S) (G:=((l7 vp p).and ((qG a1 m.a.x).and ((qG a2 m.a.y).and ((qG a3 m.a.z).and ((qG b1 m.b.x).and ((qG b2 m.b.y).and ((qG b3 m.b.z).and ((qG c1 m.c.x).and ((qG c2 m.c.y).and (qG c3 m.c.z))))))))))) (l:=[.agg [.ag 4 a1,.ag 4 a2,.ag 4 a3,.ag 4 b1,.ag 4 b2,.ag 4 b3,.ag 4 c1,.ag 4 c2,.ag 4 c3],.one (.ag 12 vp)]) func9 rfl rfl rfl ⟨hm.ok _,hp.ok,trivial⟩ rfl ⟨hp,hm.a1,hm.a2,hm.a3,hm.b1,hm.b2,hm.b3,hm.c1,hm.c2,hm.c3⟩ ?_
 refine i1 ?_
 refine a8 7 ?_
 refine a6 5 ?_
 refine f4 4 qG (m.a.dot p) (fun _ _ S w g _ _ d _=>(kx (S7 g ⟨_,_,_,rfl,d.2.1,d.2.2.1,d.2.2.2.1⟩ d.1 hl.1 hk (by omega)))) ?_
 refine a6 1 ?_
 refine H5 1 (gk (gd (gd (gd g0)))) (fun g d=>(qG (d 5) (m.a.dot p)).and g) (by kernel_rfl) (fun g _=>(by kernel_rfl)) ?_
 intro η_1
 refine a8 7 ?_
 refine a6 5 ?_
 refine f4 4 qG (m.b.dot p) (fun _ _ S w g _ _ d _=>(kx (S7 g ⟨_,_,_,rfl,d.2.2.1,d.2.2.2.1,d.2.2.2.2.1⟩ d.2.1 hl.2.1 hk (by omega)))) ?_
 refine a6 1 ?_
 refine b6 1 (fun g d=>(qG (d 5) (m.b.dot p)).and g) (fun g _=>(by kernel_rfl)) ?_
 intro η_2
 refine a8 7 ?_
 refine a6 5 ?_
 refine f4 4 qG (m.c.dot p) (fun _ _ S w g _ _ d _=>(kx (S7 g ⟨_,_,_,rfl,d.2.2.2.2.2.2.1,d.2.2.2.2.2.2.2.1,d.2.2.2.2.2.2.2.2⟩ d.2.2.1 hl.2.2 hk (by omega)))) ?_
 refine a6 1 ?_
 refine b6 1 (fun g d=>(qG (d 5) (m.c.dot p)).and g) (fun g _=>(by kernel_rfl)) ?_
 intro η_3
 exact j9 (a42 (η_1 5) (η_2 5) (η_3 5)) rfl (fun S w g d s=>⟨d,_,_,_,rfl,s.2.2.1.mono fun k _ hk=>g k hk,s.2.1.mono fun k _ hk=>g k hk,s.1.mono fun k _ hk=>g k hk⟩)
theorem bi1 {k : Nat} (h : tl t k) (hk : k ≤ 4) : ¬ am8 t.list:=by
 rintro ⟨x,hx,hl⟩
 exact bi0 (aj0 h x hx) hk hl
theorem b93 {m : M3} (h : m.a.None) : m.det = 0:=by
 obtain ⟨h1,h2,h3⟩:=h
 unfold M3.det T3.dot
 rw [h1,h2,h3]
 grind
theorem b68 {m : M3} (hS : Up S w) (hv : QMapV S w v m) (hl : ml m n) (hn : n ≤ 4) :
  Gives prog 46 [v] w fun v' w'=>v' = .int .i64 (if m.det = 0 then 60 else 0) ∧ Ext w w':=by
 have n1:=bi1 hl.1 hn
 have n2:=bi1 hl.2.1 hn
 have n3:=bi1 hl.2.2 hn
 obtain ⟨a1,a2,a3,b1,b2,b3,c1,c2,c3,rfl,hm⟩:=hv
 have hlies : ∀ x ∈ [a1,a2,a3,b1,b2,b3,c1,c2,c3],P6 true 4 x:=by
  intro x hx
  simp only [List.mem_cons,List.not_mem_nil,or_false] at hx
  rcases hx with rfl | rfl | rfl | rfl | rfl | rfl | rfl | rfl | rfl
  ·exact hm.a1.lies
  ·exact hm.a2.lies
  ·exact hm.a3.lies
  ·exact hm.b1.lies
  ·exact hm.b2.lies
  ·exact hm.b3.lies
  ·exact hm.c1.lies
  ·exact hm.c2.lies
  exact hm.c3.lies
 refine n4 (E:=env) (S0:=S) (G:=((qG a1 m.a.x).and ((qG a2 m.a.y).and ((qG a3 m.a.z).and ((qG b1 m.b.x).and ((qG b2 m.b.y).and ((qG b3 m.b.z).and ((qG c1 m.c.x).and ((qG c2 m.c.y).and (qG c3 m.c.z)))))))))) (l:=[.agg [.ag 4 a1,.ag 4 a2,.ag 4 a3,.ag 4 b1,.ag 4 b2,.ag 4 b3,.ag 4 c1,.ag 4 c2,.ag 4 c3]]) func46 rfl rfl rfl ⟨hm.ok _,trivial⟩ rfl ⟨hm.a1,hm.a2,hm.a3,hm.b1,hm.b2,hm.b3,hm.c1,hm.c2,hm.c3⟩ ?_
 by_cases hall : m.a.None ∧ m.b.None ∧ m.c.None
 ·refine n9 (.one (.bb true)) rfl (fun _ S w g _ _ d=>(kx ((M8 g ⟨_,_,_,rfl,d.1,d.2.1,d.2.2.1⟩).mono fun v' w' h=>⟨by rw [h.1,j6 hall.1]; rfl,h.2⟩))) ?_
  refine n9 (.one (.bb true)) rfl (fun _ S w g _ _ d=>(kx ((M8 g ⟨_,_,_,rfl,d.2.2.2.1,d.2.2.2.2.1,d.2.2.2.2.2.1⟩).mono fun v' w' h=>⟨by rw [h.1,j6 hall.2.1]; rfl,h.2⟩))) ?_
  refine n9 (.one (.bb true)) rfl (fun _ S w g _ _ d=>(kx ((M8 g ⟨_,_,_,rfl,d.2.2.2.2.2.2.1,d.2.2.2.2.2.2.2.1,d.2.2.2.2.2.2.2.2⟩).mono fun v' w' h=>⟨by rw [h.1,j6 hall.2.2]; rfl,h.2⟩))) ?_
  exact j9 (.int .i64 60) rfl (fun S w _ g _=>⟨by rw [if_pos (b93 hall.1)],g⟩)
 refine b13 (ι:=Unit) [(4,16)] (fun x=>[(16,.one (.bb false))]) (fun _=>[]) (fun _ g=>g) (fun x=>True) ⟨c8,hS,l8⟩ (by kernel_rfl) (fun hso=>?_) (fun x hx=>?_)
 ·by_cases h1 : m.a.None
  ·refine n9 (.one (.bb true)) rfl (fun _ S w g _ _ d=>(kx ((M8 g ⟨_,_,_,rfl,d.1,d.2.1,d.2.2.1⟩).mono fun v' w' h=>⟨by rw [h.1,j6 h1]; rfl,h.2⟩))) ?_
   by_cases h2 : m.b.None
   ·refine n9 (.one (.bb true)) rfl (fun _ S w g _ _ d=>(kx ((M8 g ⟨_,_,_,rfl,d.2.2.2.1,d.2.2.2.2.1,d.2.2.2.2.2.1⟩).mono fun v' w' h=>⟨by rw [h.1,j6 h2]; rfl,h.2⟩))) ?_
    refine n9 (.one (.bb false)) rfl (fun _ S w g _ _ d=>(kx ((M8 g ⟨_,_,_,rfl,d.2.2.2.2.2.2.1,d.2.2.2.2.2.2.2.1,d.2.2.2.2.2.2.2.2⟩).mono fun v' w' h=>⟨by rw [h.1,j2 fun h3=>hall ⟨h1,h2,h3⟩]; rfl,h.2⟩))) ?_
    exact x7 () hso trivial (fun S w _ _=>⟨z8 rfl,fun p hp=>by cases hp⟩) (fun S w _ g=>g)
   refine n9 (.one (.bb false)) rfl (fun _ S w g _ _ d=>(kx ((M8 g ⟨_,_,_,rfl,d.2.2.2.1,d.2.2.2.2.1,d.2.2.2.2.2.1⟩).mono fun v' w' h=>⟨by rw [h.1,j2 h2]; rfl,h.2⟩))) ?_
   exact x7 () hso trivial (fun S w _ _=>⟨z8 rfl,fun p hp=>by cases hp⟩) (fun S w _ g=>g)
  refine n9 (.one (.bb false)) rfl (fun _ S w g _ _ d=>(kx ((M8 g ⟨_,_,_,rfl,d.1,d.2.1,d.2.2.1⟩).mono fun v' w' h=>⟨by rw [h.1,j2 h1]; rfl,h.2⟩))) ?_
  exact x7 () hso trivial (fun S w _ _=>⟨z8 rfl,fun p hp=>by cases hp⟩) (fun S w _ g=>g)
 refine i1 ?_
 refine ag7 (.one (.bb false)) rfl (fun _ S w g d _ _ s=>(kx ((be7 (A4 g) (bx5 0 0 3 33 [a1,a2,a3,b1,b2,b3,c1,c2,c3] d (by kernel_rfl) hlies (d56 s.1 s.2.1 s.2.2.1) rfl (by simp) (by decide)) (fun x hx=>f5 (aj0 hl.1 x hx))).mono fun v' w' h=>⟨by rw [h.1,j2 n1]; rfl,h.2⟩))) ?_
 refine ag7 (.one (.bb false)) rfl (fun _ S w g d _ _ s=>(kx ((be7 (A4 g) (bx5 0 3 3 33 [a1,a2,a3,b1,b2,b3,c1,c2,c3] d (by kernel_rfl) hlies (d56 s.2.2.2.1 s.2.2.2.2.1 s.2.2.2.2.2.1) rfl (by simp) (by decide)) (fun x hx=>f5 (aj0 hl.2.1 x hx))).mono fun v' w' h=>⟨by rw [h.1,j2 n2]; rfl,h.2⟩))) ?_
 refine ag7 (.one (.bb false)) rfl (fun _ S w g d _ _ s=>(kx ((be7 (A4 g) (bx5 0 6 3 33 [a1,a2,a3,b1,b2,b3,c1,c2,c3] d (by kernel_rfl) hlies (d56 s.2.2.2.2.2.2.1 s.2.2.2.2.2.2.2.1 s.2.2.2.2.2.2.2.2) rfl (by simp) (by decide)) (fun x hx=>f5 (aj0 hl.2.2 x hx))).mono fun v' w' h=>⟨by rw [h.1,j2 n3]; rfl,h.2⟩))) ?_
 refine o6 4 qG m.det (fun _ S w g _ _ d=>(kx (c58 g ⟨_,_,_,_,_,_,_,_,_,rfl,⟨d.1,d.2.1,d.2.2.1,d.2.2.2.1,d.2.2.2.2.1,d.2.2.2.2.2.1,d.2.2.2.2.2.2.1,d.2.2.2.2.2.2.2.1,d.2.2.2.2.2.2.2.2⟩⟩ hl (by omega)))) ?_
 intro d
 refine n9 (.one (.int .i64 m.det.num.sign)) rfl (fun _ S w _ _ _ g=>(kx (ap0 g.1))) ?_
 refine z7 (p:=m.det.num.sign = 0) (fun h0=>?_) (fun h0=>?_)
 ·exact j9 (.int .i64 60) rfl (fun S w _ g _=>⟨by rw [if_pos (ap5.1 h0)],g⟩)
 exact j9 (.int .i64 0) rfl (fun S w _ g _=>⟨by rw [if_neg fun e=>h0 (ap5.2 e)],g⟩)
section
variable {c : Cx} {st : St} {G : Gh} {all : List Oper} {K : List HRec → Prop} {acc : List HRec} {ops : List Oper}
theorem cl6 (u : (Nat → Value) → Value) (V : Value) (n : Nat) (i : Int) (sz : Nat) (hc : c.Ok) (hok : ∀ η,am7 all st acc ops η = true) (hq : ∀ η,dg9 c st acc ops η = some (u η,n,i,sz)) (h0 : 0 ≤ i) (h1 : i < n)
  (h : ∀ β η S w,Mem c.bs st.hp β w → Keeps c.K c.w0 w → G.p S w → depsH acc (opH ops).after.toList η S w → ∃ b k,u η = .pointer (some ⟨b,k,none⟩) ∧ V = n7 (u η) (i.toNat * sz))
  (k : Hd c st G all K (.spec ((opH ops).dst.getD 0) (fun x=>.one (.val x)) (fun x=>o8 (x = V)) :: acc) (ops.drop 1)) : Hd c st G all K acc ops:=by
 refine bj7 (fun x=>.one (.val x)) (fun x=>o8 (x = V)) hok (fun β η S w F m ty hkn hup hM hS hw hG hd=>?_) k
 have hq:=hq η
 obtain ⟨b,k',hu,hV⟩:=h β η S w hM hw hG hd
 generalize u η = uu at hq hu hV
 unfold dg9 at hq
 split at hq <;> first | (cases hq; done) | skip
 rename_i T x ix hop
 split at hq <;> first | (cases hq; done) | skip
 rename_i v kd z n' e hx hix hk
 cases hte : c.E.get e with
 | none=>rw [hte] at hq; cases hq
 | some te=>
  rw [hte] at hq
  simp only [Option.map_some,Option.some.injEq,Prod.mk.injEq] at hq
  obtain ⟨rfl,rfl,rfl,rfl⟩:=hq
  have hkd:=D8 (t:=T) hc.env
  rw [hk] at hkd
  have hkd' : c.P.underlying T = some (.array n' e):=hkd
  obtain ⟨zz,hty,_⟩:=(hc.env.get hte).ty
  rw [hop] at hkn ⊢
  have g1 : ev F x = .pointer (some ⟨b,k',none⟩):=by rw [(hkn x (by simp [Op.operands]) _ hx).1]; exact hu
  have g2:=(hkn ix (by simp [Op.operands]) _ hix).1
  refine ⟨n7 v (z.toNat * te.size),?_,rfl,a01 _ _,hV.symm⟩
  rw [hu]
  intro d pos aft g
  simp [execOp,g1,g2,SV.den,Ch.den,Instr.indexAt,asIntOf,run_underlying hkd',Instr.sureAddr,h0,h1,hty.runSize w,Z0,n7]
end
def M3.rows (m : M3) : List T3:=[m.a,m.b,m.c]
def MapV (S : Nat → Prop) (w : World) (v : Value) (m : M3) : Prop:=(SV.one (.ag 27 v)).Ok 0 ∧ ∃ vs,v.cells.toList = A7 vs ∧ ElsV true 9 al6 S w vs m.rows
abbrev cu6 (v : Value) (m : M3) : Gh:=⟨fun S w=>MapV S w v m,fun ⟨o,vs,h1,h2⟩ k=>⟨o,vs,h1,(bh3 true 9 al6 vs m.rows).keep h2 k⟩,fun ⟨o,vs,h1,h2⟩ k=>⟨o,vs,h1,(bh3 true 9 al6 vs m.rows).mono h2 k⟩⟩
theorem MapV.ok {m : M3} (h : MapV S w v m) : (SV.one (.ag 27 v)).Ok 0:=h.1
def MapP (S : Nat → Prop) (w : World) (u : Value) (m : M3) : Prop:=∃ vs,At S w u (A7 vs) ∧ ElsV true 9 al6 S w vs m.rows
abbrev fa1 (u : Value) (m : M3) : Gh:=⟨fun S w=>MapP S w u m,fun ⟨vs,h1,h2⟩ k=>⟨vs,h1.keep k,(bh3 true 9 al6 vs m.rows).keep h2 k⟩,fun ⟨vs,h1,h2⟩ k=>⟨vs,h1.mono k,(bh3 true 9 al6 vs m.rows).mono h2 k⟩⟩
section
variable {S : Nat → Prop} {w : World} {u : Value} {m : M3}
theorem MapP.ptr (h : MapP S w u m) : ∃ b k,u = .pointer (some ⟨b,k,none⟩):=by
 obtain ⟨vs,⟨b,o,_,_,_,h1,_⟩,_⟩:=h
 exact ⟨b,o,h1⟩
theorem MapP.el (h : MapP S w u m) {p : Value} (hi : m.rows[i]? = some t) (hp : p = n7 u (i * 9)) : ∃ S' x,P6 true 9 x ∧ At S' w p x.cells.toList ∧ (j5 x t).p S w:=by
 subst hp
 obtain ⟨vs,h1,h2⟩:=h
 have hl : i < vs.length:=by rw [h2.len]; exact (List.getElem?_eq_some_iff.1 hi).1
 have hx : vs[i]? = some vs[i]:=List.getElem?_eq_getElem hl
 exact ⟨S,vs[i],h2.lies _ (List.getElem_mem _),h1.part h2.lies hx,h2.el i t _ hi hx⟩
theorem X8 {a : Nat} (h : ∃ g k,u = .pointer (some ⟨g,k,none⟩)) : n7 (n7 u a) b = n7 u (a + b):=by
 obtain ⟨g,k,rfl⟩:=h
 simp [n7,Nat.add_assoc]
theorem MapP.num (h : MapP S w u m) {j : Nat} {q : Rat} {p : Value} (hr : m.rows[r]? = some t) (hj : t.list[j]? = some q) (hp : p = n7 u (r * 9 + j * 3)) : ∃ S' x,P6 true 3 x ∧ At S' w p x.cells.toList ∧ (n5 x q).p S w:=by
 subst hp
 obtain ⟨S',y,_,h2,a,b,c,hy,ha,hb,hc⟩:=h.el hr rfl
 have hl : ∀ x ∈ [a,b,c],P6 true 3 x:=by
  intro x hx
  simp only [List.mem_cons,List.not_mem_nil,or_false] at hx
  rcases hx with rfl | rfl | rfl
  ·exact ha.lies
  ·exact hb.lies
  exact hc.lies
 rw [hy,an2 ha.lies hb.lies hc.lies] at h2
 have key : ∀ {x : Value},[a,b,c][j]? = some x → RatV S w x q → ∃ S' x,P6 true 3 x ∧ At S' w (n7 u (r * 9 + j * 3)) x.cells.toList ∧ (n5 x q).p S w:=fun {x} hx hq=>by
  have h3:=h2.part hl hx
  rw [X8 h.ptr] at h3
  exact ⟨S',x,hq.lies,h3,hq⟩
 match j,hj with
 | 0,hj=>simp [T3.list] at hj; subst hj; exact key rfl ha
 | 1,hj=>simp [T3.list] at hj; subst hj; exact key rfl hb
 | 2,hj=>simp [T3.list] at hj; subst hj; exact key rfl hc
 | j + 3,hj=>simp [T3.list] at hj
theorem b73 {T : TypeId} (h : (ch7 u T (d6 (fun _=>0) [.ag 27 v])).p S w) (hv : MapV S w v m) : MapP S w u m:=by
 obtain ⟨b,rfl,hs,hB⟩:=h
 rw [Y9] at hB
 obtain ⟨_,vs,e1,e2⟩:=hv
 refine ⟨vs,?_,e2⟩
 rw [← e1]
 exact ⟨b,0,v.cells.toList.toArray,T,(0,0),rfl,hs,hB,by simp,by rw [List.drop_zero]; exact List.take_of_length_le (Nat.le_refl _)⟩
end
def M3.mnr (m : M3) (k : Nat) : Rat:=[(m.b.cross m.c).x,(m.b.cross m.c).y,(m.b.cross m.c).z,(m.c.cross m.a).x,(m.c.cross m.a).y,(m.c.cross m.a).z,(m.a.cross m.b).x,(m.a.cross m.b).y,(m.a.cross m.b).z].getD k 0
def dn5 (m : M3) (k : Nat) (x : List Value) : Gh:=(o8 (x = [.agg #[.int .i64 ((k / 3 : Nat) : Int),.int .i64 ((k % 3 : Nat) : Int)],x.getD 1 undef])).and (n5 (x.getD 1 undef) (m.mnr k))
theorem cg1 {m : M3} {k n0 : Nat} (hn0 : n0 ≤ w.heap.size) (o : u.oneCell' = true) (h : MapP S w u m) (hk : ml m k) (hk2 : 2 * (2 * k + 1) + 1 ≤ 3344) : d84 prog 184 [u] (dn5 m) 9 n0 S w:=by
 refine d41 (E:=env) (ls:=[.one (.val u)]) (G:=(fa1 u m).and Gh.nil) hn0 func184 rfl rfl rfl ⟨o,trivial⟩ rfl ⟨h,trivial⟩ ?_
 intro l W T0 J S0 hS hl q hB
 refine bm0 ⟨c8,hS,hl⟩ (by kernel_rfl) ?_
 refine ai8 13 ⟨c8,hS,hl⟩ (by kernel_rfl) (by kernel_rfl) (by kernel_rfl) ?_
 refine a6 3 ?_
 refine ak8 u 3 1 9 ⟨c8,hS,hl⟩ (fun _=>(by kernel_rfl)) (fun _=>(by kernel_rfl)) (by decide) (by decide) (fun _ _ S w _ _ g _=>g.1.ptr) ?_
 refine ah0 3 54 9 j5 m.b (fun _=>(by kernel_rfl)) (fun _=>(by kernel_rfl)) ⟨c8,hS,hl⟩ (fun _ _ _ h=>⟨h.ok,rfl⟩) (fun _ g S w _ _ d s=>d.1.el (i:=1) rfl (j8 s 3 : (o8 ((g 3) = n7 u (Int.toNat 1 * 9))).p S w)) ?_
 refine a6 3 ?_
 refine ak8 u 3 2 9 ⟨c8,hS,hl⟩ (fun _=>(by kernel_rfl)) (fun _=>(by kernel_rfl)) (by decide) (by decide) (fun _ _ S w _ _ g _=>g.1.ptr) ?_
 refine ah0 8 54 9 j5 m.c (fun _=>(by kernel_rfl)) (fun _=>(by kernel_rfl)) ⟨c8,hS,hl⟩ (fun _ _ _ h=>⟨h.ok,rfl⟩) (fun _ g S w _ _ d s=>d.1.el (i:=2) rfl (j8 s 8 : (o8 ((g 8) = n7 u (Int.toNat 2 * 9))).p S w)) ?_
 refine h_1 (fun x0=>.agg [.ag 3 (cel x0 0 3),.ag 3 (cel x0 3 3),.ag 3 (cel x0 6 3)]) (fun x0=>ae9 x0 (m.b.cross m.c)) (fun _=>(by kernel_rfl)) (fun _ _ _ h=>ad5 h) (fun _ g S w d _ _ s t=>have h:=s.1; (kx ((S6 d (j8 t 4 : (j5 (g 4) m.b).p S w) (j8 t 9 : (j5 (g 9) m.c).p S w) hk.2.1 hk.2.2 (by omega)).mono fun v' w' h=>⟨h.1,b37 h.2⟩))) ?_
 refine a6 2 ?_
 refine b6 1 (fun g d=>(ae9 (d 10) (m.b.cross m.c)).and g) (fun g _=>(by kernel_rfl)) ?_
 intro η_1
 refine bm0 ⟨c8,hS,hl⟩ (by kernel_rfl) ?_
 refine O6 ⟨c8,hS,hl⟩ (by kernel_rfl) (af3 q 0 T0 (fun _=>False) (fun _=>none) 0 [.agg #[.int .i64 0,.int .i64 0],cel (η_1 10) 0 3] ⟨c8,hS,hl⟩ rfl rfl hB (by decide) (by kernel_rfl) (by kernel_rfl) (fun _ S w _ g=>⟨(by kernel_rfl),⟨rfl,g.1.2.1⟩,fun b hb=>hb.elim⟩) (fun T1 V1 C1=>?_) (fun T1 V1 C1=>?_))
 rotate_left
 ·exact ag9 (.tuple #[]) ⟨c8,hS,hl⟩ (by kernel_rfl) rfl (by kernel_rfl) (fun _=>rfl) (fun _ S w g _ d s=>ac2 (b:=0) (f:=false) (T:=T1) (k:=0 + 1) g (by kernel_rfl) s.1 d (fun h=>by cases h))
 refine O6 ⟨c8,hS,hl⟩ (by kernel_rfl) (af3 q 0 T1 V1 C1 1 [.agg #[.int .i64 0,.int .i64 1],cel (η_1 10) 3 3] ⟨c8,hS,hl⟩ rfl rfl hB (by decide) (by kernel_rfl) (by kernel_rfl) (fun _ S w _ g=>⟨(by kernel_rfl),⟨rfl,g.2.1.2.2.1⟩,g.1⟩) (fun T2 V2 C2=>?_) (fun T2 V2 C2=>?_))
 rotate_left
 ·exact ag9 (.tuple #[]) ⟨c8,hS,hl⟩ (by kernel_rfl) rfl (by kernel_rfl) (fun _=>rfl) (fun _ S w g _ d s=>ac2 (b:=0) (f:=false) (T:=T2) (k:=1 + 1) g (by kernel_rfl) s.1 d (fun h=>by cases h))
 refine O6 ⟨c8,hS,hl⟩ (by kernel_rfl) (af3 q 0 T2 V2 C2 2 [.agg #[.int .i64 0,.int .i64 2],cel (η_1 10) 6 3] ⟨c8,hS,hl⟩ rfl rfl hB (by decide) (by kernel_rfl) (by kernel_rfl) (fun _ S w _ g=>⟨(by kernel_rfl),⟨rfl,g.2.2.1.2.2.2⟩,g.1⟩) (fun T3 V3 C3=>?_) (fun T3 V3 C3=>?_))
 rotate_left
 ·exact ag9 (.tuple #[]) ⟨c8,hS,hl⟩ (by kernel_rfl) rfl (by kernel_rfl) (fun _=>rfl) (fun _ S w g _ d s=>ac2 (b:=0) (f:=false) (T:=T3) (k:=2 + 1) g (by kernel_rfl) s.1 d (fun h=>by cases h))
 refine bm0 ⟨c8,hS,hl⟩ (by kernel_rfl) ?_
 refine ai8 13 ⟨c8,hS,hl⟩ (by kernel_rfl) (by kernel_rfl) (by kernel_rfl) ?_
 refine a6 3 ?_
 refine ak8 u 3 2 9 ⟨c8,hS,hl⟩ (fun _=>(by kernel_rfl)) (fun _=>(by kernel_rfl)) (by decide) (by decide) (fun _ _ S w _ _ g _=>g.2.2.2.2.1.ptr) ?_
 refine ah0 3 54 9 j5 m.c (fun _=>(by kernel_rfl)) (fun _=>(by kernel_rfl)) ⟨c8,hS,hl⟩ (fun _ _ _ h=>⟨h.ok,rfl⟩) (fun _ g S w _ _ d s=>d.2.2.2.2.1.el (i:=2) rfl (j8 s 3 : (o8 ((g 3) = n7 u (Int.toNat 2 * 9))).p S w)) ?_
 refine a6 3 ?_
 refine ak8 u 3 0 9 ⟨c8,hS,hl⟩ (fun _=>(by kernel_rfl)) (fun _=>(by kernel_rfl)) (by decide) (by decide) (fun _ _ S w _ _ g _=>g.2.2.2.2.1.ptr) ?_
 refine ah0 8 54 9 j5 m.a (fun _=>(by kernel_rfl)) (fun _=>(by kernel_rfl)) ⟨c8,hS,hl⟩ (fun _ _ _ h=>⟨h.ok,rfl⟩) (fun _ g S w _ _ d s=>d.2.2.2.2.1.el (i:=0) rfl (j8 s 8 : (o8 ((g 8) = n7 u (Int.toNat 0 * 9))).p S w)) ?_
 refine h_1 (fun x0=>.agg [.ag 3 (cel x0 0 3),.ag 3 (cel x0 3 3),.ag 3 (cel x0 6 3)]) (fun x0=>ae9 x0 (m.c.cross m.a)) (fun _=>(by kernel_rfl)) (fun _ _ _ h=>ad5 h) (fun _ g S w d _ _ s t=>have h:=s.2.2.2.2.1; (kx ((S6 d (j8 t 4 : (j5 (g 4) m.c).p S w) (j8 t 9 : (j5 (g 9) m.a).p S w) hk.2.2 hk.1 (by omega)).mono fun v' w' h=>⟨h.1,b37 h.2⟩))) ?_
 refine a6 2 ?_
 refine b6 1 (fun g d=>(ae9 (d 10) (m.c.cross m.a)).and g) (fun g _=>(by kernel_rfl)) ?_
 intro η_2
 refine bm0 ⟨c8,hS,hl⟩ (by kernel_rfl) ?_
 refine O6 ⟨c8,hS,hl⟩ (by kernel_rfl) (af3 q 0 T3 V3 C3 3 [.agg #[.int .i64 1,.int .i64 0],cel (η_2 10) 0 3] ⟨c8,hS,hl⟩ rfl rfl hB (by decide) (by kernel_rfl) (by kernel_rfl) (fun _ S w _ g=>⟨(by kernel_rfl),⟨rfl,g.1.2.1⟩,g.2.1⟩) (fun T4 V4 C4=>?_) (fun T4 V4 C4=>?_))
 rotate_left
 ·exact ag9 (.tuple #[]) ⟨c8,hS,hl⟩ (by kernel_rfl) rfl (by kernel_rfl) (fun _=>rfl) (fun _ S w g _ d s=>ac2 (b:=0) (f:=false) (T:=T4) (k:=3 + 1) g (by kernel_rfl) s.1 d (fun h=>by cases h))
 refine O6 ⟨c8,hS,hl⟩ (by kernel_rfl) (af3 q 0 T4 V4 C4 4 [.agg #[.int .i64 1,.int .i64 1],cel (η_2 10) 3 3] ⟨c8,hS,hl⟩ rfl rfl hB (by decide) (by kernel_rfl) (by kernel_rfl) (fun _ S w _ g=>⟨(by kernel_rfl),⟨rfl,g.2.1.2.2.1⟩,g.1⟩) (fun T5 V5 C5=>?_) (fun T5 V5 C5=>?_))
 rotate_left
 ·exact ag9 (.tuple #[]) ⟨c8,hS,hl⟩ (by kernel_rfl) rfl (by kernel_rfl) (fun _=>rfl) (fun _ S w g _ d s=>ac2 (b:=0) (f:=false) (T:=T5) (k:=4 + 1) g (by kernel_rfl) s.1 d (fun h=>by cases h))
 refine O6 ⟨c8,hS,hl⟩ (by kernel_rfl) (af3 q 0 T5 V5 C5 5 [.agg #[.int .i64 1,.int .i64 2],cel (η_2 10) 6 3] ⟨c8,hS,hl⟩ rfl rfl hB (by decide) (by kernel_rfl) (by kernel_rfl) (fun _ S w _ g=>⟨(by kernel_rfl),⟨rfl,g.2.2.1.2.2.2⟩,g.1⟩) (fun T6 V6 C6=>?_) (fun T6 V6 C6=>?_))
 rotate_left
 ·exact ag9 (.tuple #[]) ⟨c8,hS,hl⟩ (by kernel_rfl) rfl (by kernel_rfl) (fun _=>rfl) (fun _ S w g _ d s=>ac2 (b:=0) (f:=false) (T:=T6) (k:=5 + 1) g (by kernel_rfl) s.1 d (fun h=>by cases h))
 refine bm0 ⟨c8,hS,hl⟩ (by kernel_rfl) ?_
 refine ai8 13 ⟨c8,hS,hl⟩ (by kernel_rfl) (by kernel_rfl) (by kernel_rfl) ?_
 refine a6 3 ?_
 refine ak8 u 3 0 9 ⟨c8,hS,hl⟩ (fun _=>(by kernel_rfl)) (fun _=>(by kernel_rfl)) (by decide) (by decide) (fun _ _ S w _ _ g _=>g.2.2.2.2.2.2.2.2.1.ptr) ?_
 refine ah0 3 54 9 j5 m.a (fun _=>(by kernel_rfl)) (fun _=>(by kernel_rfl)) ⟨c8,hS,hl⟩ (fun _ _ _ h=>⟨h.ok,rfl⟩) (fun _ g S w _ _ d s=>d.2.2.2.2.2.2.2.2.1.el (i:=0) rfl (j8 s 3 : (o8 ((g 3) = n7 u (Int.toNat 0 * 9))).p S w)) ?_
 refine a6 3 ?_
 refine ak8 u 3 1 9 ⟨c8,hS,hl⟩ (fun _=>(by kernel_rfl)) (fun _=>(by kernel_rfl)) (by decide) (by decide) (fun _ _ S w _ _ g _=>g.2.2.2.2.2.2.2.2.1.ptr) ?_
 refine ah0 8 54 9 j5 m.b (fun _=>(by kernel_rfl)) (fun _=>(by kernel_rfl)) ⟨c8,hS,hl⟩ (fun _ _ _ h=>⟨h.ok,rfl⟩) (fun _ g S w _ _ d s=>d.2.2.2.2.2.2.2.2.1.el (i:=1) rfl (j8 s 8 : (o8 ((g 8) = n7 u (Int.toNat 1 * 9))).p S w)) ?_
 refine h_1 (fun x0=>.agg [.ag 3 (cel x0 0 3),.ag 3 (cel x0 3 3),.ag 3 (cel x0 6 3)]) (fun x0=>ae9 x0 (m.a.cross m.b)) (fun _=>(by kernel_rfl)) (fun _ _ _ h=>ad5 h) (fun _ g S w d _ _ s t=>have h:=s.2.2.2.2.2.2.2.2.1; (kx ((S6 d (j8 t 4 : (j5 (g 4) m.a).p S w) (j8 t 9 : (j5 (g 9) m.b).p S w) hk.1 hk.2.1 (by omega)).mono fun v' w' h=>⟨h.1,b37 h.2⟩))) ?_
 refine a6 2 ?_
 refine b6 1 (fun g d=>(ae9 (d 10) (m.a.cross m.b)).and g) (fun g _=>(by kernel_rfl)) ?_
 intro η_3
 refine bm0 ⟨c8,hS,hl⟩ (by kernel_rfl) ?_
 refine O6 ⟨c8,hS,hl⟩ (by kernel_rfl) (af3 q 0 T6 V6 C6 6 [.agg #[.int .i64 2,.int .i64 0],cel (η_3 10) 0 3] ⟨c8,hS,hl⟩ rfl rfl hB (by decide) (by kernel_rfl) (by kernel_rfl) (fun _ S w _ g=>⟨(by kernel_rfl),⟨rfl,g.1.2.1⟩,g.2.1⟩) (fun T7 V7 C7=>?_) (fun T7 V7 C7=>?_))
 rotate_left
 ·exact ag9 (.tuple #[]) ⟨c8,hS,hl⟩ (by kernel_rfl) rfl (by kernel_rfl) (fun _=>rfl) (fun _ S w g _ d s=>ac2 (b:=0) (f:=false) (T:=T7) (k:=6 + 1) g (by kernel_rfl) s.1 d (fun h=>by cases h))
 refine O6 ⟨c8,hS,hl⟩ (by kernel_rfl) (af3 q 0 T7 V7 C7 7 [.agg #[.int .i64 2,.int .i64 1],cel (η_3 10) 3 3] ⟨c8,hS,hl⟩ rfl rfl hB (by decide) (by kernel_rfl) (by kernel_rfl) (fun _ S w _ g=>⟨(by kernel_rfl),⟨rfl,g.2.1.2.2.1⟩,g.1⟩) (fun T8 V8 C8=>?_) (fun T8 V8 C8=>?_))
 rotate_left
 ·exact ag9 (.tuple #[]) ⟨c8,hS,hl⟩ (by kernel_rfl) rfl (by kernel_rfl) (fun _=>rfl) (fun _ S w g _ d s=>ac2 (b:=0) (f:=false) (T:=T8) (k:=7 + 1) g (by kernel_rfl) s.1 d (fun h=>by cases h))
 refine O6 ⟨c8,hS,hl⟩ (by kernel_rfl) (af3 q 0 T8 V8 C8 8 [.agg #[.int .i64 2,.int .i64 2],cel (η_3 10) 6 3] ⟨c8,hS,hl⟩ rfl rfl hB (by decide) (by kernel_rfl) (by kernel_rfl) (fun _ S w _ g=>⟨(by kernel_rfl),⟨rfl,g.2.2.1.2.2.2⟩,g.1⟩) (fun T9 V9 C9=>?_) (fun T9 V9 C9=>?_))
 rotate_left
 ·exact ag9 (.tuple #[]) ⟨c8,hS,hl⟩ (by kernel_rfl) rfl (by kernel_rfl) (fun _=>rfl) (fun _ S w g _ d s=>ac2 (b:=0) (f:=false) (T:=T9) (k:=8 + 1) g (by kernel_rfl) s.1 d (fun h=>by cases h))
 exact ag9 (.tuple #[]) ⟨c8,hS,hl⟩ (by kernel_rfl) rfl (by kernel_rfl) (fun _=>rfl) (fun _ S w g _ d s=>ac2 (b:=0) (f:=true) (T:=T9) (k:=9) g (by kernel_rfl) s.1 d (fun _=>rfl))
def itV (u : Value) : Value:=.func (.func 184) #[] #[u]
def dq8 (v : Value) : Value:=match v with | .func _ _ caps=>caps.getD 0 undef | _=>undef
def itS (v : Value) : SV:=.one (.val (itV (dq8 v)))
abbrev itG (v : Value) (m : M3) (n0 : Nat) : Gh:=(o8 (v = itV (dq8 v))).and (du7 prog 184 [dq8 v] (dn5 m) 9 n0)
theorem d27 {m : M3} {n0 : Nat} (h : (itG v m n0).p S w) : (itS v).Ok 0 ∧ (itS v).den (fun _=>0) = v:=⟨rfl,h.1.symm⟩
theorem cw5 {m : M3} {k n0 : Nat} (hn0 : n0 ≤ w.heap.size) (hS : Up S w) (h : MapV S w v m) (hk : ml m k) (hk2 : 2 * (2 * k + 1) + 1 ≤ 3344) :
  Gives prog 143 [v] w fun v' w'=>Ext w w' ∧ (itG v' m n0).p S w':=by
 refine n4 (E:=env) (S0:=S) (G:=(cu6 v m)) (l:=[.one (.ag 27 v)]) func143 rfl rfl rfl ⟨h.ok,trivial⟩ rfl h ?_
 refine o7 (N9 0 98 ([.ag 27 v]) (fun u1=>?_))
 exact j9 (itV u1) rfl (fun S w g d s=>⟨d,(itG (itV u1) m n0).mono ⟨rfl,Nat.le_trans hn0 d.size,cg1 (Nat.le_trans hn0 d.size) (J1 s.1) (b73 s.1 s.2) hk hk2⟩ fun k _ hk=>g k hk⟩)
noncomputable def r7 (z : Int) : Int:=IntKind.u64.wrap z % 7 - 3
noncomputable def M7 (z : Int) : Int:=IntKind.u64.wrap z % 11 - 5
theorem Y8 (z : Int) : -3 ≤ r7 z ∧ r7 z ≤ 3:=by unfold r7; omega
theorem bi9 (z : Int) : -5 ≤ M7 z ∧ M7 z ≤ 5:=by unfold M7; omega
theorem B6 (hS : Up S w) :
  Gives prog 13 [.int .i64 z,.int .i64 3] w fun v' w'=>v' = .int .i64 (r7 z) ∧ Ext w w':=by
 have hz:=B0 z
 refine n4 (E:=env) (S0:=S) (G:=Gh.nil) (l:=[.one (.int .i64 z),.one (.lit .i64 3)]) func13 rfl rfl rfl ⟨trivial,trivial,trivial⟩ rfl trivial ?_
 refine P9 (ps:=[InR .i64 (IntKind.u64.wrap z % 7 - 3),InR .i64 (IntKind.u64.wrap z % 7),0 ≤ IntKind.u64.wrap z ∧ (0 : Int) < 7]) (by simp only [I3,InR,and_true]; omega) ?_
 exact j9 (.int .i64 (IntKind.u64.wrap z % 7 - 3)) rfl (fun S w _ g _=>⟨rfl,g⟩)
theorem cy3 (hS : Up S w) :
  Gives prog 13 [.int .i64 z,.int .i64 5] w fun v' w'=>v' = .int .i64 (M7 z) ∧ Ext w w':=by
 have hz:=B0 z
 refine n4 (E:=env) (S0:=S) (G:=Gh.nil) (l:=[.one (.int .i64 z),.one (.lit .i64 5)]) func13 rfl rfl rfl ⟨trivial,trivial,trivial⟩ rfl trivial ?_
 refine P9 (ps:=[InR .i64 (IntKind.u64.wrap z % 11 - 5),InR .i64 (IntKind.u64.wrap z % 11),0 ≤ IntKind.u64.wrap z ∧ (0 : Int) < 11]) (by simp only [I3,InR,and_true]; omega) ?_
 exact j9 (.int .i64 (IntKind.u64.wrap z % 11 - 5)) rfl (fun S w _ g _=>⟨rfl,g⟩)
theorem a94 (h : z.natAbs < 1000000000) : rl (z : Rat) 1:=⟨G9 (k:=1) (by show z.natAbs < _; omega),G9 (k:=1) (show 1 < 1000000000 ^ 1 by decide)⟩
theorem ac4 (h : z.natAbs < 1000000000) : I63 z:=by unfold I63; omega
noncomputable def onT (n : Int) : T3:=if M7 n = 5 then ⟨0,0,1⟩ else ⟨((M7 n : Int) : Rat),1,((M7 n * M7 n : Int) : Rat)⟩
theorem c18 (h : -5 ≤ z ∧ z ≤ 5) : (z * z).natAbs < 1000000000:=by
 rw [Int.natAbs_mul]
 have h1 : z.natAbs ≤ 5:=by omega
 have:=Nat.mul_le_mul h1 h1
 omega
theorem dx3 : rl (1 : Rat) 1:=I9 (by decide) (by decide)
theorem dn4 : rl (0 : Rat) 1:=I9 (by decide) (by decide)
theorem fg0 (n : Int) : tl (onT n) 1:=by
 have hb:=bi9 n
 unfold onT
 split
 ·exact ⟨dn4,dn4,dx3⟩
 exact ⟨a94 (by omega),dx3,a94 (c18 hb)⟩
theorem aj8 {n : Int} (hS : Up S w) :
  Gives prog 10 [.int .i64 n] w fun v' w'=>Ext w w' ∧ QTripV S w' v' (onT n):=by
 have hb:=bi9 n
 have hq:=c18 hb
 have h1 : I63 (M7 n):=ac4 (by omega)
 have h2 : I63 (M7 n * M7 n):=ac4 hq
 refine n4 (E:=env) (S0:=S) (G:=Gh.nil) (l:=[.one (.int .i64 n)]) func10 rfl rfl rfl ⟨trivial,trivial⟩ rfl trivial ?_
 refine n9 (.one (.int .i64 (M7 n))) rfl (fun _ S w g _ _ _=>(kx (cy3 g))) ?_
 refine z7 (p:=M7 n = 5) (fun h5=>?_) (fun h5=>?_)
 ·refine o6 4 qG (0 : Rat) (fun _ S w g _ _ _=>(kx (Z5 g))) ?_
  intro x1
  refine o6 4 qG (0 : Rat) (fun _ S w g _ _ _=>(kx (Z5 g))) ?_
  intro x2
  refine o6 4 qG (1 : Rat) (fun _ S w g _ _ _=>(kx (ak3 g))) ?_
  intro x3
  exact j9 (a42 x1 x2 x3) rfl (fun S w g d s=>⟨d,by unfold onT; rw [if_pos h5]; exact ⟨x1,x2,x3,rfl,s.2.2.1.mono fun k _ hk=>g k hk,s.2.1.mono fun k _ hk=>g k hk,s.1.mono fun k _ hk=>g k hk⟩⟩)
 refine o6 4 qG ((M7 n : Int) : Rat) (fun _ S w g _ _ _=>(kx (J2 g h1.1 h1.2))) ?_
 intro x1
 refine o6 4 qG (1 : Rat) (fun _ S w g _ _ _=>(kx (ak3 g))) ?_
 intro x2
 refine P9 (ps:=[InR .i64 (M7 n * M7 n)]) (by simp only [I3,InR,and_true]; exact h2) ?_
 refine o6 4 qG ((M7 n * M7 n : Int) : Rat) (fun _ S w g _ _ _=>(kx (J2 g h2.1 h2.2))) ?_
 intro x3
 exact j9 (a42 x1 x2 x3) rfl (fun S w g d s=>⟨d,by unfold onT; rw [if_neg h5]; exact ⟨x1,x2,x3,rfl,s.2.2.1.mono fun k _ hk=>g k hk,s.2.1.mono fun k _ hk=>g k hk,s.1.mono fun k _ hk=>g k hk⟩⟩)
def d96 (a : Nat → Int) : Value:=.agg #[.int .i64 (a 0),.int .i64 (a 1),.int .i64 (a 2),.int .i64 (a 3),.int .i64 (a 4),.int .i64 (a 5),.int .i64 (a 6),.int .i64 (a 7),.int .i64 (a 8)]
theorem co9 {a : Nat → Int} : (SV.agg [.int .i64 (a 0),.int .i64 (a 1),.int .i64 (a 2),.int .i64 (a 3),.int .i64 (a 4),.int .i64 (a 5),.int .i64 (a 6),.int .i64 (a 7),.int .i64 (a 8)]).Ok m:=I1 ⟨trivial,trivial,trivial,trivial,trivial,trivial,trivial,trivial,trivial,trivial⟩
noncomputable def a05 (a : Nat → Int) : M3:=⟨⟨((r7 (a 0) : Int) : Rat),((r7 (a 1) : Int) : Rat),((r7 (a 2) : Int) : Rat)⟩,⟨((r7 (a 3) : Int) : Rat),((r7 (a 4) : Int) : Rat),((r7 (a 5) : Int) : Rat)⟩,⟨((r7 (a 6) : Int) : Rat),((r7 (a 7) : Int) : Rat),((r7 (a 8) : Int) : Rat)⟩⟩
def fb4 : M3:=⟨⟨1,0,0⟩,⟨0,1,0⟩,⟨0,0,1⟩⟩
noncomputable def aq9 (a : Nat → Int) : M3:=if (a05 a).det = 0 then fb4 else a05 a
theorem df1 (a : Nat → Int) : ml (a05 a) 1:=by
 have h : ∀ i,rl ((r7 (a i) : Int) : Rat) 1:=fun i=>a94 (by have:=Y8 (a i); omega)
 exact ⟨⟨h 0,h 1,h 2⟩,⟨h 3,h 4,h 5⟩,⟨h 6,h 7,h 8⟩⟩
theorem b70 (a : Nat → Int) : (aq9 a).det ≠ 0:=by
 unfold aq9
 split
 ·decide +kernel
 assumption
noncomputable def sm3 (a : Nat → Int) (i : Nat) : Rat:=((r7 (a i) : Int) : Rat)
theorem dj5 {a : Nat → Int} (hS : Up S w) :
  Gives prog 6 [d96 a] w fun v' w'=>Ext w w' ∧ QMapV S w' v' (aq9 a):=by
 have hi : ∀ i,I63 (r7 (a i)):=fun i=>ac4 (by have:=Y8 (a i); omega)
 refine n4 (E:=env) (S0:=S) (G:=Gh.nil) (l:=[.agg [.int .i64 (a 0),.int .i64 (a 1),.int .i64 (a 2),.int .i64 (a 3),.int .i64 (a 4),.int .i64 (a 5),.int .i64 (a 6),.int .i64 (a 7),.int .i64 (a 8)]]) func6 rfl rfl rfl ⟨co9,trivial⟩ rfl trivial ?_
 refine i1 ?_
 refine a8 12 ?_
 refine a6 8 ?_
 refine af4 (.one (.int .i64 (r7 (a 0)))) rfl (fun _ _ S w g _ _ _ _=>(kx (B6 g))) ?_
 refine f4 4 qG (sm3 a 0) (fun _ _ S w g _ _ _ _=>(kx (J2 g (hi 0).1 (hi 0).2))) ?_
 refine a6 2 ?_
 refine b6 1 (fun g d=>(qG (d 9) (sm3 a 0)).and g) (fun g _=>(by kernel_rfl)) ?_
 intro η_1
 refine i1 ?_
 refine a8 12 ?_
 refine a6 8 ?_
 refine af4 (.one (.int .i64 (r7 (a 1)))) rfl (fun _ _ S w g _ _ _ _=>(kx (B6 g))) ?_
 refine f4 4 qG (sm3 a 1) (fun _ _ S w g _ _ _ _=>(kx (J2 g (hi 1).1 (hi 1).2))) ?_
 refine a6 2 ?_
 refine b6 1 (fun g d=>(qG (d 9) (sm3 a 1)).and g) (fun g _=>(by kernel_rfl)) ?_
 intro η_2
 refine i1 ?_
 refine a8 12 ?_
 refine a6 8 ?_
 refine af4 (.one (.int .i64 (r7 (a 2)))) rfl (fun _ _ S w g _ _ _ _=>(kx (B6 g))) ?_
 refine f4 4 qG (sm3 a 2) (fun _ _ S w g _ _ _ _=>(kx (J2 g (hi 2).1 (hi 2).2))) ?_
 refine a6 2 ?_
 refine b6 1 (fun g d=>(qG (d 9) (sm3 a 2)).and g) (fun g _=>(by kernel_rfl)) ?_
 intro η_3
 refine i1 ?_
 refine a8 12 ?_
 refine a6 8 ?_
 refine af4 (.one (.int .i64 (r7 (a 3)))) rfl (fun _ _ S w g _ _ _ _=>(kx (B6 g))) ?_
 refine f4 4 qG (sm3 a 3) (fun _ _ S w g _ _ _ _=>(kx (J2 g (hi 3).1 (hi 3).2))) ?_
 refine a6 2 ?_
 refine b6 1 (fun g d=>(qG (d 9) (sm3 a 3)).and g) (fun g _=>(by kernel_rfl)) ?_
 intro η_4
 refine i1 ?_
 refine a8 12 ?_
 refine a6 8 ?_
 refine af4 (.one (.int .i64 (r7 (a 4)))) rfl (fun _ _ S w g _ _ _ _=>(kx (B6 g))) ?_
 refine f4 4 qG (sm3 a 4) (fun _ _ S w g _ _ _ _=>(kx (J2 g (hi 4).1 (hi 4).2))) ?_
 refine a6 2 ?_
 refine b6 1 (fun g d=>(qG (d 9) (sm3 a 4)).and g) (fun g _=>(by kernel_rfl)) ?_
 intro η_5
 refine i1 ?_
 refine a8 12 ?_
 refine a6 8 ?_
 refine af4 (.one (.int .i64 (r7 (a 5)))) rfl (fun _ _ S w g _ _ _ _=>(kx (B6 g))) ?_
 refine f4 4 qG (sm3 a 5) (fun _ _ S w g _ _ _ _=>(kx (J2 g (hi 5).1 (hi 5).2))) ?_
 refine a6 2 ?_
 refine b6 1 (fun g d=>(qG (d 9) (sm3 a 5)).and g) (fun g _=>(by kernel_rfl)) ?_
 intro η_6
 refine i1 ?_
 refine a8 12 ?_
 refine a6 8 ?_
 refine af4 (.one (.int .i64 (r7 (a 6)))) rfl (fun _ _ S w g _ _ _ _=>(kx (B6 g))) ?_
 refine f4 4 qG (sm3 a 6) (fun _ _ S w g _ _ _ _=>(kx (J2 g (hi 6).1 (hi 6).2))) ?_
 refine a6 2 ?_
 refine b6 1 (fun g d=>(qG (d 9) (sm3 a 6)).and g) (fun g _=>(by kernel_rfl)) ?_
 intro η_7
 refine i1 ?_
 refine a8 12 ?_
 refine a6 8 ?_
 refine af4 (.one (.int .i64 (r7 (a 7)))) rfl (fun _ _ S w g _ _ _ _=>(kx (B6 g))) ?_
 refine f4 4 qG (sm3 a 7) (fun _ _ S w g _ _ _ _=>(kx (J2 g (hi 7).1 (hi 7).2))) ?_
 refine a6 2 ?_
 refine b6 1 (fun g d=>(qG (d 9) (sm3 a 7)).and g) (fun g _=>(by kernel_rfl)) ?_
 intro η_8
 refine i1 ?_
 refine a8 12 ?_
 refine a6 8 ?_
 refine af4 (.one (.int .i64 (r7 (a 8)))) rfl (fun _ _ S w g _ _ _ _=>(kx (B6 g))) ?_
 refine f4 4 qG (sm3 a 8) (fun _ _ S w g _ _ _ _=>(kx (J2 g (hi 8).1 (hi 8).2))) ?_
 refine a6 2 ?_
 refine b6 1 (fun g d=>(qG (d 9) (sm3 a 8)).and g) (fun g _=>(by kernel_rfl)) ?_
 intro η_9
 refine n9 (.one (.int .i64 (if (a05 a).det = 0 then 60 else 0))) rfl (fun _ S w g _ _ d=>(kx (b68 g ⟨_,_,_,_,_,_,_,_,_,rfl,⟨d.2.2.2.2.2.2.2.2.1,d.2.2.2.2.2.2.2.1,d.2.2.2.2.2.2.1,d.2.2.2.2.2.1,d.2.2.2.2.1,d.2.2.2.1,d.2.2.1,d.2.1,d.1⟩⟩ (df1 a) (by decide)))) ?_
 by_cases hd : (a05 a).det = 0
 ·refine am0 (p:=¬ (if (a05 a).det = 0 then (60 : Int) else 0) = 0) (by rw [if_pos hd]; decide) ?_
  refine i1 ?_
  refine a8 5 ?_
  refine a6 2 ?_
  refine f4 4 qG (0 : Rat) (fun _ _ S w g _ _ _ _=>(kx (Z5 g))) ?_
  refine a6 2 ?_
  refine b6 0 (fun g _=>g) (fun g _=>(by kernel_rfl)) ?_
  intro η_10
  refine i1 ?_
  refine a8 5 ?_
  refine a6 2 ?_
  refine f4 4 qG (0 : Rat) (fun _ _ S w g _ _ _ _=>(kx (Z5 g))) ?_
  refine a6 2 ?_
  refine b6 1 (fun g d=>(qG (d 2) (0 : Rat)).and g) (fun g _=>(by kernel_rfl)) ?_
  intro η_11
  refine i1 ?_
  refine a8 5 ?_
  refine a6 2 ?_
  refine f4 4 qG (0 : Rat) (fun _ _ S w g _ _ _ _=>(kx (Z5 g))) ?_
  refine a6 2 ?_
  refine b6 1 (fun g d=>(qG (d 2) (0 : Rat)).and g) (fun g _=>(by kernel_rfl)) ?_
  intro η_12
  refine i1 ?_
  refine a8 5 ?_
  refine a6 2 ?_
  refine f4 4 qG (1 : Rat) (fun _ _ S w g _ _ _ _=>(kx (ak3 g))) ?_
  refine a6 2 ?_
  refine b6 1 (fun g d=>(qG (d 2) (1 : Rat)).and g) (fun g _=>(by kernel_rfl)) ?_
  intro η_13
  refine i1 ?_
  refine a8 5 ?_
  refine a6 2 ?_
  refine f4 4 qG (0 : Rat) (fun _ _ S w g _ _ _ _=>(kx (Z5 g))) ?_
  refine a6 2 ?_
  refine b6 1 (fun g d=>(qG (d 2) (0 : Rat)).and g) (fun g _=>(by kernel_rfl)) ?_
  intro η_14
  refine i1 ?_
  refine a8 5 ?_
  refine a6 2 ?_
  refine f4 4 qG (0 : Rat) (fun _ _ S w g _ _ _ _=>(kx (Z5 g))) ?_
  refine a6 2 ?_
  refine b6 0 (fun g _=>g) (fun g _=>(by kernel_rfl)) ?_
  intro η_15
  refine i1 ?_
  refine a8 5 ?_
  refine a6 2 ?_
  refine f4 4 qG (0 : Rat) (fun _ _ S w g _ _ _ _=>(kx (Z5 g))) ?_
  refine a6 2 ?_
  refine b6 1 (fun g d=>(qG (d 2) (0 : Rat)).and g) (fun g _=>(by kernel_rfl)) ?_
  intro η_16
  refine i1 ?_
  refine a8 5 ?_
  refine a6 2 ?_
  refine f4 4 qG (1 : Rat) (fun _ _ S w g _ _ _ _=>(kx (ak3 g))) ?_
  refine a6 2 ?_
  refine b6 1 (fun g d=>(qG (d 2) (1 : Rat)).and g) (fun g _=>(by kernel_rfl)) ?_
  intro η_17
  refine i1 ?_
  refine a8 5 ?_
  refine a6 2 ?_
  refine f4 4 qG (0 : Rat) (fun _ _ S w g _ _ _ _=>(kx (Z5 g))) ?_
  refine a6 2 ?_
  refine b6 1 (fun g d=>(qG (d 2) (0 : Rat)).and g) (fun g _=>(by kernel_rfl)) ?_
  intro η_18
  refine i1 ?_
  refine a8 5 ?_
  refine a6 2 ?_
  refine f4 4 qG (0 : Rat) (fun _ _ S w g _ _ _ _=>(kx (Z5 g))) ?_
  refine a6 2 ?_
  refine b6 1 (fun g d=>(qG (d 2) (0 : Rat)).and g) (fun g _=>(by kernel_rfl)) ?_
  intro η_19
  refine i1 ?_
  refine a8 5 ?_
  refine a6 2 ?_
  refine f4 4 qG (0 : Rat) (fun _ _ S w g _ _ _ _=>(kx (Z5 g))) ?_
  refine a6 2 ?_
  refine b6 0 (fun g _=>g) (fun g _=>(by kernel_rfl)) ?_
  intro η_20
  refine i1 ?_
  refine a8 5 ?_
  refine a6 2 ?_
  refine f4 4 qG (1 : Rat) (fun _ _ S w g _ _ _ _=>(kx (ak3 g))) ?_
  refine a6 2 ?_
  refine b6 1 (fun g d=>(qG (d 2) (1 : Rat)).and g) (fun g _=>(by kernel_rfl)) ?_
  intro η_21
  exact j9 (b19 (η_13 2) (η_11 2) (η_12 2) (η_14 2) (η_17 2) (η_16 2) (η_18 2) (η_19 2) (η_21 2)) rfl (fun S w g d s=>⟨d,by unfold aq9; rw [if_pos hd]; exact ⟨_,_,_,_,_,_,_,_,_,rfl,⟨s.2.2.2.2.2.2.1.mono fun k _ hk=>g k hk,s.2.2.2.2.2.2.2.2.1.mono fun k _ hk=>g k hk,s.2.2.2.2.2.2.2.1.mono fun k _ hk=>g k hk,s.2.2.2.2.2.1.mono fun k _ hk=>g k hk,s.2.2.2.1.mono fun k _ hk=>g k hk,s.2.2.2.2.1.mono fun k _ hk=>g k hk,s.2.2.1.mono fun k _ hk=>g k hk,s.2.1.mono fun k _ hk=>g k hk,s.1.mono fun k _ hk=>g k hk⟩⟩⟩)
 refine as7 (p:=¬ (if (a05 a).det = 0 then (60 : Int) else 0) = 0) (fun h=>h (by rw [if_neg hd])) ?_
 exact j9 (b19 (η_1 9) (η_2 9) (η_3 9) (η_4 9) (η_5 9) (η_6 9) (η_7 9) (η_8 9) (η_9 9)) rfl (fun S w g d s=>⟨d,by unfold aq9; rw [if_neg hd]; exact ⟨_,_,_,_,_,_,_,_,_,rfl,⟨s.2.2.2.2.2.2.2.2.1.mono fun k _ hk=>g k hk,s.2.2.2.2.2.2.2.1.mono fun k _ hk=>g k hk,s.2.2.2.2.2.2.1.mono fun k _ hk=>g k hk,s.2.2.2.2.2.1.mono fun k _ hk=>g k hk,s.2.2.2.2.1.mono fun k _ hk=>g k hk,s.2.2.2.1.mono fun k _ hk=>g k hk,s.2.2.1.mono fun k _ hk=>g k hk,s.2.1.mono fun k _ hk=>g k hk,s.1.mono fun k _ hk=>g k hk⟩⟩⟩)
def M3.part (m : M3) : Nat → Rat
 | 0=>0
 | 1=>m.a.x * (m.b.cross m.c).x
 | 2=>m.a.x * (m.b.cross m.c).x + m.a.y * (m.b.cross m.c).y
 | _=>m.det
def dv5 : Value:=.agg #[.bool false,.slice none 0 0,.slice none 0 0]
def dl0 (k : Nat) (x : List Value) : List SV:=[.agg [.lit .i64 ((k / 3 : Nat) : Int),.lit .i64 ((k % 3 : Nat) : Int)],.one (.ag 3 (x.getD 1 undef))]
theorem ds7 {m : M3} {k : Nat} (h : (dn5 m k x).p S w) : (dl0 k x).map (SV.den fun _=>0) = x ∧ SVsOk (dl0 k x) ∧ (dl0 k x).length = 2:=
 ⟨by rw [show x = _ from h.1]; rfl,⟨I1 ⟨trivial,trivial,trivial⟩,h.2.ok,trivial⟩,rfl⟩
theorem d30 (h : ∃ b k,u = .pointer (some ⟨b,k,none⟩)) : ∃ b k,n7 u 0 = .pointer (some ⟨b,k,none⟩):=by
 obtain ⟨b,k,rfl⟩:=h
 exact ⟨b,k,rfl⟩
def M3.term (m : M3) : Nat → Rat
 | 0=>m.a.x * (m.b.cross m.c).x
 | 1=>m.a.y * (m.b.cross m.c).y
 | _=>m.a.z * (m.b.cross m.c).z
theorem bj6 (m : M3) : ∀ n,n < 3 → m.part n + m.term n = m.part (n + 1):=by
 intro n hn
 match n,hn with
 | 0,_=>exact Rat.zero_add _
 | 1,_=>rfl
 | 2,_=>rfl
theorem bv7 {m : M3} {k : Nat} (hk : ml m k) : ∀ n,n ≤ 3 → rl (m.part n) (16 * k + 8):=by
 have h1:=q7 hk.2.1 hk.2.2
 have e1:=r5 hk.1.1 h1.1
 have e2:=r5 hk.1.2.1 h1.2.1
 have e3:=r5 hk.1.2.2 h1.2.2
 intro n hn
 match n,hn with
 | 0,_=>exact f5 dn4
 | 1,_=>exact f5 e1
 | 2,_=>exact f5 (ae3 e1 e2)
 | 3,_=>exact f5 (ae3 (ae3 e1 e2) e3)
theorem d86 {m : M3} {k : Nat} (hS : Up S w) (h : MapV S w v m) (hk : ml m k) (hk2 : 40 * k + 40 ≤ 3344) :
  Gives prog 118 [v] w fun v' w'=>Ext w w' ∧ RatV S w' v' m.det:=by
 refine di1 (E:=env) (S0:=S) (G:=(cu6 v m).and Gh.nil) (l:=[.one (.ag 27 v)]) func118 rfl rfl rfl ⟨h.ok,trivial⟩ rfl ⟨h,trivial⟩ fun i hr hdm=>?_
 refine o7 (N9 0 98 ([.ag 27 v]) (fun u1=>?_))
 refine ah1 (fun x0=>itS x0) (fun x0=>itG x0 m w.heap.size) (fun _ _ _ h=>d27 h) (fun _ S w g _ d s=>(kx (cw5 d.size g s.2.1 hk (by omega)))) ?_
 intro f
 refine o7 (dj1 (ι:=Nat × Value) 184 [dq8 f] (dn5 m) 9 w.heap.size (fun j=>[.gone,.blk 53 [.ag 3 dv5],.blk 53 [.ag 3 j.2]]) (fun j=>(n5 j.2 (m.part j.1)).and ((fa1 u1 m).and Gh.nil)) (fun j=>j.1 ≤ 3) (fun j=>j.1) (fun e j=>e = .exit 0 ∧ j.1 = 3) (fun j x=>dl0 j.1 x) 100 [] (0,dv5) hr hdm ⟨c8,hS,l8⟩
  (by kernel_rfl) (by kernel_rfl) (by kernel_rfl) (Nat.le_refl _) (fun S w _ g=>g.1.2) (fun j=>Nat.le_of_ble_eq_true (by kernel_rfl)) (Nat.zero_le _) rfl (cc3 (fun _=>by kernel_rfl) (fun _=>by kernel_rfl) (by kernel_rfl))
  (fun S w _ _=>cc6 (m:=3) rfl ⟨trivial,I2 ⟨(F2 (S:=S) (w:=w)).okc,trivial⟩,I2 ⟨(F2 (S:=S) (w:=w)).okc,trivial⟩,trivial⟩) (fun S w _ g=>⟨F2,b73 g.2.1 g.2.2.1,trivial⟩)
  (fun j x S w hj hk3 hx=>ds7 hx) (fun j x hj hk3=>by kernel_rfl) ?_ ?_ ?_)
 ·intro j x i' w1 S1 K1 m1 b1 hj hk9 hc'
  have h4 : j.1 = 0 ∨ j.1 = 1 ∨ j.1 = 2 ∨ j.1 = 3:=by omega
  obtain ⟨k0,o⟩:=j
  simp only at h4
  rcases h4 with rfl | rfl | rfl | rfl
  ·have hX:=q7 hk.2.1 hk.2.2
   refine ai8 10 hc' (by kernel_rfl) (by kernel_rfl) (by kernel_rfl) ?_
   refine a6 3 ?_
   refine ak8 (n7 u1 0) 3 0 9 hc' (fun _=>(by kernel_rfl)) (fun _=>(by kernel_rfl)) (by decide) (by decide) (fun _ _ S w _ _ g _=>d30 g.2.2.1.ptr) ?_
   refine cl6 (fun g=>g 3) (n7 u1 (0 * 9 + 0 * 3)) 3 0 3 hc' (fun _=>(by kernel_rfl)) (fun _=>(by kernel_rfl)) (by decide) (by decide) (fun _ d S w _ _ s t=>by have e : d 3 = n7 u1 (0 * 9):=(j8 t 3 : (o8 ((d 3) = n7 (n7 u1 0) (Int.toNat 0 * 9))).p S w).trans (X8 s.2.2.1.ptr); rw [e]; obtain ⟨g,q,hq⟩:=s.2.2.1.ptr; exact ⟨g,q + 0 * 9,by rw [hq]; rfl,(X8 ⟨g,q,hq⟩).symm⟩) ?_
   refine ah0 4 53 3 n5 m.a.x (fun _=>(by kernel_rfl)) (fun _=>(by kernel_rfl)) hc' (fun _ _ _ h=>⟨h.ok,rfl⟩) (fun _ g S w _ _ d s=>d.2.2.1.num (r:=0) (j:=0) rfl rfl (j8 s 4 : (o8 ((g 4) = (n7 u1 (0 * 9 + 0 * 3)))).p S w)) ?_
   refine a6 1 ?_
   refine f4 3 n5 (m.a.x * (m.b.cross m.c).x) (fun _ g S w d _ _ s t=>(kx (A9 d (j8 t 5 : (n5 (g 5) m.a.x).p S w) s.1.2 hk.1.1 hX.1 (by omega)))) ?_
   refine ab7 53 3 2 (fun x0=>N5 x0 [m.part 0,m.a.x * (m.b.cross m.c).x]) hc' (fun _=>(by kernel_rfl)) (fun _ g S w x0 w' _ _ _ d s t hrow=>bn7 (d.2.1.to t) ((j8 s 7 : (n5 (g 7) (m.a.x * (m.b.cross m.c).x)).p S w).to t) (kc hrow (by kernel_rfl))) ?_
   refine f4 3 n5 (m.part 1) (fun _ g S w d _ _ _ s=>(kx (ae2 (m:=16 * k + 8) (by rw [ct3]; exact bj6 m 0 (by omega)) d (j8 s 8 : (N5 (g 8) [m.part 0,m.a.x * (m.b.cross m.c).x]).p S w) (be6 (bv7 hk _ (by omega)) (f5 (r5 hk.1.1 hX.1))) (by simp only [List.length]; omega)))) ?_
   refine b6 1 (fun g d=>(n5 (d 9) (m.part 1)).and g) (fun g _=>(by kernel_rfl)) ?_
   intro η_1
   exact O6 hc' (by kernel_rfl) (cj3 (1,η_1 9) (by kernel_rfl) (⟨(show (1 : Nat) ≤ 3 by decide),rfl⟩) (cc3 (fun _=>(by kernel_rfl)) (fun _=>(by kernel_rfl)) (by kernel_rfl)) (fun S w _ g=>cc6 (m:=3) rfl ⟨trivial,I2 ⟨(F2 (S:=S) (w:=w)).okc,trivial⟩,I2 ⟨g.1.okc,trivial⟩,trivial⟩) (fun S w _ g=>⟨g.1,g.2.2.2.1,trivial⟩))
  ·have hX:=q7 hk.2.1 hk.2.2
   refine ai8 10 hc' (by kernel_rfl) (by kernel_rfl) (by kernel_rfl) ?_
   refine a6 3 ?_
   refine ak8 (n7 u1 0) 3 0 9 hc' (fun _=>(by kernel_rfl)) (fun _=>(by kernel_rfl)) (by decide) (by decide) (fun _ _ S w _ _ g _=>d30 g.2.2.1.ptr) ?_
   refine cl6 (fun g=>g 3) (n7 u1 (0 * 9 + 1 * 3)) 3 1 3 hc' (fun _=>(by kernel_rfl)) (fun _=>(by kernel_rfl)) (by decide) (by decide) (fun _ d S w _ _ s t=>by have e : d 3 = n7 u1 (0 * 9):=(j8 t 3 : (o8 ((d 3) = n7 (n7 u1 0) (Int.toNat 0 * 9))).p S w).trans (X8 s.2.2.1.ptr); rw [e]; obtain ⟨g,q,hq⟩:=s.2.2.1.ptr; exact ⟨g,q + 0 * 9,by rw [hq]; rfl,(X8 ⟨g,q,hq⟩).symm⟩) ?_
   refine ah0 4 53 3 n5 m.a.y (fun _=>(by kernel_rfl)) (fun _=>(by kernel_rfl)) hc' (fun _ _ _ h=>⟨h.ok,rfl⟩) (fun _ g S w _ _ d s=>d.2.2.1.num (r:=0) (j:=1) rfl rfl (j8 s 4 : (o8 ((g 4) = (n7 u1 (0 * 9 + 1 * 3)))).p S w)) ?_
   refine a6 1 ?_
   refine f4 3 n5 (m.a.y * (m.b.cross m.c).y) (fun _ g S w d _ _ s t=>(kx (A9 d (j8 t 5 : (n5 (g 5) m.a.y).p S w) s.1.2 hk.1.2.1 hX.2.1 (by omega)))) ?_
   refine ab7 53 3 2 (fun x0=>N5 x0 [m.part 1,m.a.y * (m.b.cross m.c).y]) hc' (fun _=>(by kernel_rfl)) (fun _ g S w x0 w' _ _ _ d s t hrow=>bn7 (d.2.1.to t) ((j8 s 7 : (n5 (g 7) (m.a.y * (m.b.cross m.c).y)).p S w).to t) (kc hrow (by kernel_rfl))) ?_
   refine f4 3 n5 (m.part 2) (fun _ g S w d _ _ _ s=>(kx (ae2 (m:=16 * k + 8) (by rw [ct3]; exact bj6 m 1 (by omega)) d (j8 s 8 : (N5 (g 8) [m.part 1,m.a.y * (m.b.cross m.c).y]).p S w) (be6 (bv7 hk _ (by omega)) (f5 (r5 hk.1.2.1 hX.2.1))) (by simp only [List.length]; omega)))) ?_
   refine b6 1 (fun g d=>(n5 (d 9) (m.part 2)).and g) (fun g _=>(by kernel_rfl)) ?_
   intro η_1
   exact O6 hc' (by kernel_rfl) (cj3 (2,η_1 9) (by kernel_rfl) (⟨(show (2 : Nat) ≤ 3 by decide),rfl⟩) (cc3 (fun _=>(by kernel_rfl)) (fun _=>(by kernel_rfl)) (by kernel_rfl)) (fun S w _ g=>cc6 (m:=3) rfl ⟨trivial,I2 ⟨(F2 (S:=S) (w:=w)).okc,trivial⟩,I2 ⟨g.1.okc,trivial⟩,trivial⟩) (fun S w _ g=>⟨g.1,g.2.2.2.1,trivial⟩))
  ·have hX:=q7 hk.2.1 hk.2.2
   refine ai8 10 hc' (by kernel_rfl) (by kernel_rfl) (by kernel_rfl) ?_
   refine a6 3 ?_
   refine ak8 (n7 u1 0) 3 0 9 hc' (fun _=>(by kernel_rfl)) (fun _=>(by kernel_rfl)) (by decide) (by decide) (fun _ _ S w _ _ g _=>d30 g.2.2.1.ptr) ?_
   refine cl6 (fun g=>g 3) (n7 u1 (0 * 9 + 2 * 3)) 3 2 3 hc' (fun _=>(by kernel_rfl)) (fun _=>(by kernel_rfl)) (by decide) (by decide) (fun _ d S w _ _ s t=>by have e : d 3 = n7 u1 (0 * 9):=(j8 t 3 : (o8 ((d 3) = n7 (n7 u1 0) (Int.toNat 0 * 9))).p S w).trans (X8 s.2.2.1.ptr); rw [e]; obtain ⟨g,q,hq⟩:=s.2.2.1.ptr; exact ⟨g,q + 0 * 9,by rw [hq]; rfl,(X8 ⟨g,q,hq⟩).symm⟩) ?_
   refine ah0 4 53 3 n5 m.a.z (fun _=>(by kernel_rfl)) (fun _=>(by kernel_rfl)) hc' (fun _ _ _ h=>⟨h.ok,rfl⟩) (fun _ g S w _ _ d s=>d.2.2.1.num (r:=0) (j:=2) rfl rfl (j8 s 4 : (o8 ((g 4) = (n7 u1 (0 * 9 + 2 * 3)))).p S w)) ?_
   refine a6 1 ?_
   refine f4 3 n5 (m.a.z * (m.b.cross m.c).z) (fun _ g S w d _ _ s t=>(kx (A9 d (j8 t 5 : (n5 (g 5) m.a.z).p S w) s.1.2 hk.1.2.2 hX.2.2 (by omega)))) ?_
   refine ab7 53 3 2 (fun x0=>N5 x0 [m.part 2,m.a.z * (m.b.cross m.c).z]) hc' (fun _=>(by kernel_rfl)) (fun _ g S w x0 w' _ _ _ d s t hrow=>bn7 (d.2.1.to t) ((j8 s 7 : (n5 (g 7) (m.a.z * (m.b.cross m.c).z)).p S w).to t) (kc hrow (by kernel_rfl))) ?_
   refine f4 3 n5 (m.part 3) (fun _ g S w d _ _ _ s=>(kx (ae2 (m:=16 * k + 8) (by rw [ct3]; exact bj6 m 2 (by omega)) d (j8 s 8 : (N5 (g 8) [m.part 2,m.a.z * (m.b.cross m.c).z]).p S w) (be6 (bv7 hk _ (by omega)) (f5 (r5 hk.1.2.2 hX.2.2))) (by simp only [List.length]; omega)))) ?_
   refine b6 1 (fun g d=>(n5 (d 9) (m.part 3)).and g) (fun g _=>(by kernel_rfl)) ?_
   intro η_1
   exact O6 hc' (by kernel_rfl) (cj3 (3,η_1 9) (by kernel_rfl) (⟨(show (3 : Nat) ≤ 3 by decide),rfl⟩) (cc3 (fun _=>(by kernel_rfl)) (fun _=>(by kernel_rfl)) (by kernel_rfl)) (fun S w _ g=>cc6 (m:=3) rfl ⟨trivial,I2 ⟨(F2 (S:=S) (w:=w)).okc,trivial⟩,I2 ⟨g.1.okc,trivial⟩,trivial⟩) (fun S w _ g=>⟨g.1,g.2.2.2.1,trivial⟩))
  have e3 : (3 : Nat) ≤ 3:=Nat.le_refl _
  exact O6 hc' (by kernel_rfl) (d69 (3,o) (by kernel_rfl) (⟨(by kernel_rfl),rfl⟩) (cc3 (fun _=>(by kernel_rfl)) (fun _=>(by kernel_rfl)) (by kernel_rfl)) (fun S w _ g=>cc6 (m:=3) rfl ⟨trivial,I2 ⟨(F2 (S:=S) (w:=w)).okc,trivial⟩,I2 ⟨g.2.1.okc,trivial⟩,trivial⟩) (fun S w _ g=>⟨g.2.1,g.2.2.1,trivial⟩))
 ·intro D j hj hk3
  exact absurd hk3 (by omega)
 rintro D j e ⟨rfl,hj⟩ _
 have e0 : m.part j.1 = m.det:=by rw [hj]; rfl
 exact dw1 j.2 [D] [3] ⟨c8,hS,l8⟩ (by kernel_rfl) rfl (by kernel_rfl) (by kernel_rfl) ⟨by kernel_rfl,trivial⟩ (fun _=>by kernel_rfl) (fun _ S w _ g d s=>⟨d,e0 ▸ (RatV.mono s.1 fun k _ hk=>(g k hk).1)⟩)
noncomputable def cm5 (a1 a2 a3 b1 b2 b3 c1 c2 c3 : Value) : Value:=(SV.agg [.ag 3 a1,.ag 3 a2,.ag 3 a3,.ag 3 b1,.ag 3 b2,.ag 3 b3,.ag 3 c1,.ag 3 c2,.ag 3 c3]).den fun _=>0
structure MapC (S : Nat → Prop) (w : World) (m : M3) (a1 a2 a3 b1 b2 b3 c1 c2 c3 : Value) : Prop where
 a1 : RatV S w a1 m.a.x
 a2 : RatV S w a2 m.a.y
 a3 : RatV S w a3 m.a.z
 b1 : RatV S w b1 m.b.x
 b2 : RatV S w b2 m.b.y
 b3 : RatV S w b3 m.b.z
 c1 : RatV S w c1 m.c.x
 c2 : RatV S w c2 m.c.y
 c3 : RatV S w c3 m.c.z
section
variable {S S' : Nat → Prop} {w w' : World} {v : Value} {m : M3} {a1 a2 a3 b1 b2 b3 c1 c2 c3 : Value}
theorem MapC.keep (h : MapC S w m a1 a2 a3 b1 b2 b3 c1 c2 c3) (k : Keeps S w w') : MapC S w' m a1 a2 a3 b1 b2 b3 c1 c2 c3:=⟨h.a1.keep k,h.a2.keep k,h.a3.keep k,h.b1.keep k,h.b2.keep k,h.b3.keep k,h.c1.keep k,h.c2.keep k,h.c3.keep k⟩
theorem MapC.mono (h : MapC S w m a1 a2 a3 b1 b2 b3 c1 c2 c3) (hs : ∀ k,k < w.heap.size → S k → S' k) : MapC S' w m a1 a2 a3 b1 b2 b3 c1 c2 c3:=⟨h.a1.mono hs,h.a2.mono hs,h.a3.mono hs,h.b1.mono hs,h.b2.mono hs,h.b3.mono hs,h.c1.mono hs,h.c2.mono hs,h.c3.mono hs⟩
theorem MapC.ok (n : Nat) (h : MapC S w m a1 a2 a3 b1 b2 b3 c1 c2 c3) : (SV.agg [.ag 3 a1,.ag 3 a2,.ag 3 a3,.ag 3 b1,.ag 3 b2,.ag 3 b3,.ag 3 c1,.ag 3 c2,.ag 3 c3]).Ok n:=I1 ⟨h.a1.okc,h.a2.okc,h.a3.okc,h.b1.okc,h.b2.okc,h.b3.okc,h.c1.okc,h.c2.okc,h.c3.okc,trivial⟩
theorem bj1 : (cm5 a1 a2 a3 b1 b2 b3 c1 c2 c3).cells.toList = A7 [az7 a1 a2 a3,az7 b1 b2 b3,az7 c1 c2 c3]:=by
 simp [cm5,az7,A7,SV.den,d6,Ch.cells,Value.cells]
theorem MapC.map (h : MapC S w m a1 a2 a3 b1 b2 b3 c1 c2 c3) : MapV S w (cm5 a1 a2 a3 b1 b2 b3 c1 c2 c3) m:=by
 refine ⟨as8 (l:=[.ag 3 a1,.ag 3 a2,.ag 3 a3,.ag 3 b1,.ag 3 b2,.ag 3 b3,.ag 3 c1,.ag 3 c2,.ag 3 c3]) (h.ok 0) rfl,[az7 a1 a2 a3,az7 b1 b2 b3,az7 c1 c2 c3],bj1,rfl,fun x hx=>?_,fun i t x ht hx=>?_⟩
 ·simp only [List.mem_cons,List.not_mem_nil,or_false] at hx
  rcases hx with rfl | rfl | rfl
  ·exact TripV.lies (t:=m.a) ⟨_,_,_,rfl,h.a1,h.a2,h.a3⟩
  ·exact TripV.lies (t:=m.b) ⟨_,_,_,rfl,h.b1,h.b2,h.b3⟩
  exact TripV.lies (t:=m.c) ⟨_,_,_,rfl,h.c1,h.c2,h.c3⟩
 match i with
 | 0=>simp [M3.rows] at ht hx; subst ht hx; exact ⟨_,_,_,rfl,h.a1,h.a2,h.a3⟩
 | 1=>simp [M3.rows] at ht hx; subst ht hx; exact ⟨_,_,_,rfl,h.b1,h.b2,h.b3⟩
 | 2=>simp [M3.rows] at ht hx; subst ht hx; exact ⟨_,_,_,rfl,h.c1,h.c2,h.c3⟩
 | i + 3=>simp [M3.rows] at ht
theorem MapV.ex (h : MapV S w v m) : ∃ a1 a2 a3 b1 b2 b3 c1 c2 c3,v = cm5 a1 a2 a3 b1 b2 b3 c1 c2 c3 ∧ MapC S w m a1 a2 a3 b1 b2 b3 c1 c2 c3:=by
 obtain ⟨ho,vs,hc,he⟩:=h
 have hl : vs.length = 3:=he.len
 match vs,hl with
 | [y1,y2,y3],_=>
  obtain ⟨a1,a2,a3,rfl,p1,p2,p3⟩:=he.el 0 m.a y1 rfl rfl
  obtain ⟨b1,b2,b3,rfl,q1,q2,q3⟩:=he.el 1 m.b y2 rfl rfl
  obtain ⟨c1,c2,c3,rfl,r1,r2,r3⟩:=he.el 2 m.c y3 rfl rfl
  refine ⟨a1,a2,a3,b1,b2,b3,c1,c2,c3,?_,⟨p1,p2,p3,q1,q2,q3,r1,r2,r3⟩⟩
  obtain ⟨us,rfl,_,_⟩:=ho
  have e : us = (cm5 a1 a2 a3 b1 b2 b3 c1 c2 c3).cells.toList:=by rw [bj1,← hc]; simp [Value.cells]
  rw [e]
  simp [cm5,SV.den,Value.cells]
end
section
variable {S S' : Nat → Prop} {w w' : World} {v : Value} {m : M3}
end
namespace M3
def turned (m : M3) : M3:=⟨⟨m.a.x,m.b.x,m.c.x⟩,⟨m.a.y,m.b.y,m.c.y⟩,⟨m.a.z,m.b.z,m.c.z⟩⟩
def adj (m : M3) : M3:=m.cof.turned
def after (m n : M3) : M3:=turned ⟨m.apply n.turned.a,m.apply n.turned.b,m.apply n.turned.c⟩
theorem det_turned (m : M3) : m.turned.det = m.det:=by
 simp only [turned,det,T3.dot,T3.cross]
 grind
theorem det_adj (m : M3) : m.adj.det = m.det * m.det:=by
 rw [adj,det_turned,cn1]
end M3
abbrev fa9 (m : M3) (a1 a2 a3 b1 b2 b3 c1 c2 c3 : Value) : Gh:=⟨fun S w=>MapC S w m a1 a2 a3 b1 b2 b3 c1 c2 c3,fun h k=>h.keep k,fun h k=>h.mono k⟩
theorem bh6 {m : M3} {k : Nat} (hS : Up S w) (h : MapV S w v m) (hp : TripV S w vp p) (hk : ml m k) (hn : tl p n) (hkn : 3 * (k + n + 1) + 1 ≤ 3344) :
  Gives prog 68 [v,vp] w fun v' w'=>Ext w w' ∧ TripV S w' v' (m.apply p):=by
 obtain ⟨a1,a2,a3,b1,b2,b3,c1,c2,c3,rfl,hm⟩:=h.ex
 refine n4 (E:=env) (S0:=S) (G:=((j5 vp p).and (fa9 m a1 a2 a3 b1 b2 b3 c1 c2 c3))) (l:=[.agg [.ag 3 a1,.ag 3 a2,.ag 3 a3,.ag 3 b1,.ag 3 b2,.ag 3 b3,.ag 3 c1,.ag 3 c2,.ag 3 c3],.one (.ag 9 vp)]) func68 rfl rfl rfl ⟨hm.ok _,hp.ok,trivial⟩ rfl ⟨hp,hm⟩ ?_
 refine i1 ?_
 refine o6 3 n5 (m.a.dot p) (fun _ S w g _ _ d=>(kx (al5 g ⟨_,_,_,rfl,d.2.a1,d.2.a2,d.2.a3⟩ d.1 hk.1 hn hkn))) ?_
 intro x
 refine i1 ?_
 refine o6 3 n5 (m.b.dot p) (fun _ S w g _ _ d=>(kx (al5 g ⟨_,_,_,rfl,d.2.2.b1,d.2.2.b2,d.2.2.b3⟩ d.2.1 hk.2.1 hn hkn))) ?_
 intro y
 refine i1 ?_
 refine o6 3 n5 (m.c.dot p) (fun _ S w g _ _ d=>(kx (al5 g ⟨_,_,_,rfl,d.2.2.2.c1,d.2.2.2.c2,d.2.2.2.c3⟩ d.2.2.1 hk.2.2 hn hkn))) ?_
 intro z
 refine i1 ?_
 exact j9 (az7 x y z) rfl (fun S w g d s=>⟨d,_,_,_,rfl,s.2.2.1.mono fun k _ hk=>g k hk,s.2.1.mono fun k _ hk=>g k hk,s.1.mono fun k _ hk=>g k hk⟩)
theorem an6 {m : M3} {k : Nat} (h : ml m k) : ml m.turned k:=⟨⟨h.1.1,h.2.1.1,h.2.2.1⟩,⟨h.1.2.1,h.2.1.2.1,h.2.2.2.1⟩,⟨h.1.2.2,h.2.1.2.2,h.2.2.2.2⟩⟩
theorem Q7 {m : M3} {k : Nat} (h : ml m k) (hp : tl p n) : tl (m.apply p) (3 * (k + n) + 2):=⟨az9 h.1 hp,az9 h.2.1 hp,az9 h.2.2 hp⟩
theorem d80 {m : M3} {k : Nat} (h : ml m k) : ml m.adj (4 * k + 1):=an6 ⟨N3 (q7 h.2.1 h.2.2) (by omega),N3 (q7 h.2.2 h.1) (by omega),N3 (q7 h.1 h.2.1) (by omega)⟩
theorem b56 {m n : M3} {k l : Nat} (h : ml m k) (hn : ml n l) : ml (m.after n) (3 * (k + l) + 2):=an6 ⟨Q7 h (an6 hn).1,Q7 h (an6 hn).2.1,Q7 h (an6 hn).2.2⟩
namespace M3
def list (m : M3) : List Rat:=[m.a.x,m.a.y,m.a.z,m.b.x,m.b.y,m.b.z,m.c.x,m.c.y,m.c.z]
noncomputable def lead (m : M3) : Rat:=Y0 m.list
def over (m : M3) (k : Rat) : M3:=⟨m.a.over k,m.b.over k,m.c.over k⟩
noncomputable def normal (m : M3) : M3:=m.over m.lead
theorem normal_list (m : M3) : by1 m.list = m.normal.list:=rfl
theorem fpos_list {m : M3} (h : m.det ≠ 0) : 0 ≤ U4 ar5 m.list 0:=by
 refine an8.1 ?_
 by_cases h1 : m.a.x = 0
 ·by_cases h2 : m.a.y = 0
  ·by_cases h3 : m.a.z = 0
   ·exact absurd (b93 ⟨h1,h2,h3⟩) h
   exact ⟨m.a.z,by simp [list],h3⟩
  exact ⟨m.a.y,by simp [list],h2⟩
 exact ⟨m.a.x,by simp [list],h1⟩
end M3
open Classical in
noncomputable def bc6 (l : List Rat) : Int:=if ah4 l then 60 else if am8 l then 11 else 0
theorem cb3 {l : List Rat} (h : bc6 l = 0) : ¬ ah4 l ∧ ¬ am8 l:=by
 unfold bc6 at h
 split at h
 ·omega
 split at h
 ·omega
 exact ⟨‹_›,‹_›⟩
theorem b67 {l : List Rat} (ht : Tab w) (hS : Up S w) (h : SeqV true 3 ai6 S w v l) (hl : ∀ x ∈ l,rl x 1000000) (hb : bc6 l = 0) : Gives prog 117 [v] w fun v' w'=>v' = .tuple #[] ∧ Ext w w':=
 a10 ht hS h hl (cb3 hb).1 (cb3 hb).2
def M3.at (l : List M3) (i : Nat) : M3:=l.getD i ⟨⟨0,0,0⟩,⟨0,0,0⟩,⟨0,0,0⟩⟩
section
variable {S : Nat → Prop} {w : World} {m : M3} {a1 a2 a3 b1 b2 b3 c1 c2 c3 : Value}
end
structure C6 where
 a : Rat
 b : Rat
 c : Rat
 f : Rat
 g : Rat
 h : Rat
def C6.list (k : C6) : List Rat:=[k.a,k.b,k.c,k.f,k.g,k.h]
def cl (k : C6) (n : Nat) : Prop:=rl k.a n ∧ rl k.b n ∧ rl k.c n ∧ rl k.f n ∧ rl k.g n ∧ rl k.h n
noncomputable def dw6 (c1 c2 c3 c4 c5 c6 : Value) : Value:=(SV.agg [.ag 3 c1,.ag 3 c2,.ag 3 c3,.ag 3 c4,.ag 3 c5,.ag 3 c6]).den fun _=>0
structure ConC (S : Nat → Prop) (w : World) (k : C6) (c1 c2 c3 c4 c5 c6 : Value) : Prop where
 c1 : RatV S w c1 k.a
 c2 : RatV S w c2 k.b
 c3 : RatV S w c3 k.c
 c4 : RatV S w c4 k.f
 c5 : RatV S w c5 k.g
 c6 : RatV S w c6 k.h
def ConV (S : Nat → Prop) (w : World) (v : Value) (k : C6) : Prop:=∃ c1 c2 c3 c4 c5 c6,v = dw6 c1 c2 c3 c4 c5 c6 ∧ ConC S w k c1 c2 c3 c4 c5 c6
section
variable {S S' : Nat → Prop} {w w' : World} {v : Value} {k : C6} {c1 c2 c3 c4 c5 c6 : Value}
theorem ConC.keep (h : ConC S w k c1 c2 c3 c4 c5 c6) (g : Keeps S w w') : ConC S w' k c1 c2 c3 c4 c5 c6:=⟨h.c1.keep g,h.c2.keep g,h.c3.keep g,h.c4.keep g,h.c5.keep g,h.c6.keep g⟩
theorem ConC.mono (h : ConC S w k c1 c2 c3 c4 c5 c6) (hs : ∀ i,i < w.heap.size → S i → S' i) : ConC S' w k c1 c2 c3 c4 c5 c6:=⟨h.c1.mono hs,h.c2.mono hs,h.c3.mono hs,h.c4.mono hs,h.c5.mono hs,h.c6.mono hs⟩
theorem ConC.ok (n : Nat) (h : ConC S w k c1 c2 c3 c4 c5 c6) : (SV.agg [.ag 3 c1,.ag 3 c2,.ag 3 c3,.ag 3 c4,.ag 3 c5,.ag 3 c6]).Ok n:=I1 ⟨h.c1.okc,h.c2.okc,h.c3.okc,h.c4.okc,h.c5.okc,h.c6.okc,trivial⟩
theorem ConC.con (h : ConC S w k c1 c2 c3 c4 c5 c6) : ConV S w (dw6 c1 c2 c3 c4 c5 c6) k:=⟨_,_,_,_,_,_,rfl,h⟩
theorem ConV.keep (h : ConV S w v k) (g : Keeps S w w') : ConV S w' v k:=let ⟨c1,c2,c3,c4,c5,c6,e,h⟩:=h; ⟨c1,c2,c3,c4,c5,c6,e,h.keep g⟩
theorem ConV.mono (h : ConV S w v k) (hs : ∀ i,i < w.heap.size → S i → S' i) : ConV S' w v k:=let ⟨c1,c2,c3,c4,c5,c6,e,h⟩:=h; ⟨c1,c2,c3,c4,c5,c6,e,h.mono hs⟩
theorem ConV.ok (h : ConV S w v k) : (SV.one (.ag 18 v)).Ok 0:=by
 obtain ⟨c1,c2,c3,c4,c5,c6,rfl,h⟩:=h
 exact as8 (l:=[.ag 3 c1,.ag 3 c2,.ag 3 c3,.ag 3 c4,.ag 3 c5,.ag 3 c6]) (h.ok 0) rfl
theorem ConV.lies (h : ConV S w v k) : P6 true 18 v:=by
 obtain ⟨us,rfl,h2,_⟩:=h.ok
 have:=a56 us
 rwa [h2] at this
theorem ConC.els (h : ConC S w k c1 c2 c3 c4 c5 c6) : ElsV true 3 ai6 S w [c1,c2,c3,c4,c5,c6] k.list:=by
 refine ⟨rfl,fun x hx=>?_,fun i q x hq hx=>?_⟩
 ·simp only [List.mem_cons,List.not_mem_nil,or_false] at hx
  rcases hx with rfl | rfl | rfl | rfl | rfl | rfl
  ·exact h.c1.lies
  ·exact h.c2.lies
  ·exact h.c3.lies
  ·exact h.c4.lies
  ·exact h.c5.lies
  exact h.c6.lies
 match i with
 | 0=>simp [C6.list] at hq hx; subst hq hx; exact h.c1
 | 1=>simp [C6.list] at hq hx; subst hq hx; exact h.c2
 | 2=>simp [C6.list] at hq hx; subst hq hx; exact h.c3
 | 3=>simp [C6.list] at hq hx; subst hq hx; exact h.c4
 | 4=>simp [C6.list] at hq hx; subst hq hx; exact h.c5
 | 5=>simp [C6.list] at hq hx; subst hq hx; exact h.c6
 | i + 6=>simp [C6.list] at hq
end
abbrev al3 (v : Value) (k : C6) : Gh:=⟨fun S w=>ConV S w v k,fun h g=>h.keep g,fun h g=>h.mono g⟩
noncomputable def df3 (c1 c2 c3 c4 c5 c6 : Value) : Value:=(SV.agg [.ag 4 c1,.ag 4 c2,.ag 4 c3,.ag 4 c4,.ag 4 c5,.ag 4 c6]).den fun _=>0
structure QConC (S : Nat → Prop) (w : World) (k : C6) (c1 c2 c3 c4 c5 c6 : Value) : Prop where
 c1 : QV S w c1 k.a
 c2 : QV S w c2 k.b
 c3 : QV S w c3 k.c
 c4 : QV S w c4 k.f
 c5 : QV S w c5 k.g
 c6 : QV S w c6 k.h
def QConV (S : Nat → Prop) (w : World) (v : Value) (k : C6) : Prop:=∃ c1 c2 c3 c4 c5 c6,v = df3 c1 c2 c3 c4 c5 c6 ∧ QConC S w k c1 c2 c3 c4 c5 c6
section
variable {S S' : Nat → Prop} {w w' : World} {v : Value} {k : C6} {c1 c2 c3 c4 c5 c6 : Value}
theorem QConC.keep (h : QConC S w k c1 c2 c3 c4 c5 c6) (g : Keeps S w w') : QConC S w' k c1 c2 c3 c4 c5 c6:=⟨h.c1.keep g,h.c2.keep g,h.c3.keep g,h.c4.keep g,h.c5.keep g,h.c6.keep g⟩
theorem QConC.mono (h : QConC S w k c1 c2 c3 c4 c5 c6) (hs : ∀ i,i < w.heap.size → S i → S' i) : QConC S' w k c1 c2 c3 c4 c5 c6:=⟨h.c1.mono hs,h.c2.mono hs,h.c3.mono hs,h.c4.mono hs,h.c5.mono hs,h.c6.mono hs⟩
theorem QConC.ok (n : Nat) (h : QConC S w k c1 c2 c3 c4 c5 c6) : (SV.agg [.ag 4 c1,.ag 4 c2,.ag 4 c3,.ag 4 c4,.ag 4 c5,.ag 4 c6]).Ok n:=I1 ⟨h.c1.okc,h.c2.okc,h.c3.okc,h.c4.okc,h.c5.okc,h.c6.okc,trivial⟩
theorem QConV.keep (h : QConV S w v k) (g : Keeps S w w') : QConV S w' v k:=let ⟨c1,c2,c3,c4,c5,c6,e,h⟩:=h; ⟨c1,c2,c3,c4,c5,c6,e,h.keep g⟩
theorem QConV.mono (h : QConV S w v k) (hs : ∀ i,i < w.heap.size → S i → S' i) : QConV S' w v k:=let ⟨c1,c2,c3,c4,c5,c6,e,h⟩:=h; ⟨c1,c2,c3,c4,c5,c6,e,h.mono hs⟩
theorem QConV.ok (h : QConV S w v k) : (SV.one (.ag 24 v)).Ok 0:=by
 obtain ⟨c1,c2,c3,c4,c5,c6,rfl,h⟩:=h
 exact as8 (l:=[.ag 4 c1,.ag 4 c2,.ag 4 c3,.ag 4 c4,.ag 4 c5,.ag 4 c6]) (h.ok 0) rfl
theorem QConC.els (h : QConC S w k c1 c2 c3 c4 c5 c6) : ElsV true 4 qF S w [c1,c2,c3,c4,c5,c6] k.list:=by
 refine ⟨rfl,fun x hx=>?_,fun i q x hq hx=>?_⟩
 ·simp only [List.mem_cons,List.not_mem_nil,or_false] at hx
  rcases hx with rfl | rfl | rfl | rfl | rfl | rfl
  ·exact h.c1.lies
  ·exact h.c2.lies
  ·exact h.c3.lies
  ·exact h.c4.lies
  ·exact h.c5.lies
  exact h.c6.lies
 match i with
 | 0=>simp [C6.list] at hq hx; subst hq hx; exact h.c1
 | 1=>simp [C6.list] at hq hx; subst hq hx; exact h.c2
 | 2=>simp [C6.list] at hq hx; subst hq hx; exact h.c3
 | 3=>simp [C6.list] at hq hx; subst hq hx; exact h.c4
 | 4=>simp [C6.list] at hq hx; subst hq hx; exact h.c5
 | 5=>simp [C6.list] at hq hx; subst hq hx; exact h.c6
 | i + 6=>simp [C6.list] at hq
end
abbrev au1 (v : Value) (k : C6) : Gh:=⟨fun S w=>QConV S w v k,fun h g=>h.keep g,fun h g=>h.mono g⟩
abbrev cv8 (u : Value) (k : C6) : Gh:=atG true 18 (fun x=>al3 x k) u
theorem ff6 (F : FuncId) [ci : CallI prog F] (cap : List Value) {E : Int} (hS : Up S w) (h0 : E = 0 → cq7 S w fun S' w'=>Gives prog F cap w' fun v w''=>Ext w' w'' ∧ TripV S' w'' v t) (h1 : ¬ E = 0 → cq7 S w fun S' w'=>Pan prog F cap w' (R5 E)) :
  Gives prog 53 [.func (.func F) #[] cap.toArray] w fun v' w'=>Ext w w' ∧ (W6 v' (if E = 0 then t else ⟨0,0,0⟩) E).p S w':=by
 by_cases e : E = 0
 ·refine (ap6 (F:=F) (cap:=cap) (t:=t) (E:=0) (Y:=True) (Z:=False) hS fun S' w' hS' k' hs hs'=>Gives.toE ((h0 e S' w' hS' k' hs hs').mono fun v w'' h=>⟨h.1,h.2,trivial⟩)).mono ?_
  rintro v' w' ⟨k',⟨x,rfl,h,_⟩ | ⟨rfl,hf⟩⟩
  ·exact ⟨k',by rw [e]; rfl,by rw [if_pos e]; exact h⟩
  exact hf.elim
 refine (ap6 (F:=F) (cap:=cap) (t:=t) (E:=E) (Y:=False) (Z:=True) hS fun S' w' hS' k' hs hs'=>(h1 e S' w' hS' k' hs hs').mono (fun _ _ h=>h.elim) fun ch w'' h=>⟨h.1,h.2,trivial⟩).mono ?_
 rintro v' w' ⟨k',⟨x,rfl,h,hf⟩ | ⟨rfl,_⟩⟩
 ·exact hf.elim
 exact ⟨k',rfl,by rw [if_neg e]; exact bi2⟩
theorem bq9 (m n : M3) : (m.after n).det = m.det * n.det:=by
 simp only [M3.after,M3.turned,M3.apply,T3.dot,M3.det,T3.cross]
 grind
namespace C6
def mat (k : C6) : M3:=⟨⟨2 * k.a,k.h,k.g⟩,⟨k.h,2 * k.b,k.f⟩,⟨k.g,k.f,2 * k.c⟩⟩
def val (k : C6) (p : T3) : Rat:=(k.mat.apply p).dot p
end C6
abbrev dt8 (k : C6) (c1 c2 c3 c4 c5 c6 : Value) : Gh:=⟨fun S w=>ConC S w k c1 c2 c3 c4 c5 c6,fun h g=>h.keep g,fun h g=>h.mono g⟩
theorem bg0 {k : C6} (h : cl k n) : ∀ x ∈ k.list,rl x n:=by
 intro x hx
 simp only [C6.list,List.mem_cons,List.not_mem_nil,or_false] at hx
 rcases hx with rfl | rfl | rfl | rfl | rfl | rfl
 ·exact h.1
 ·exact h.2.1
 ·exact h.2.2.1
 ·exact h.2.2.2.1
 ·exact h.2.2.2.2.1
 exact h.2.2.2.2.2
noncomputable def as9 (k : C6) : Int:=bc6 k.list
theorem bq5 {k : C6} (ht : Tab w) (hS : Up S w) (h : ConV S w v k) (hl : cl k n) (hn : n ≤ 1000000) (e : as9 k = 0) : Gives prog 55 [v] w fun v' w'=>v' = .tuple #[] ∧ Ext w w':=by
 obtain ⟨c1,c2,c3,c4,c5,c6,rfl,hk⟩:=h
 refine n4 (E:=env) (S0:=S) (G:=(dt8 k c1 c2 c3 c4 c5 c6)) (l:=[.agg [.ag 3 c1,.ag 3 c2,.ag 3 c3,.ag 3 c4,.ag 3 c5,.ag 3 c6]]) func55 rfl rfl rfl ⟨hk.ok _,trivial⟩ rfl hk ?_
 refine ag7 (.und) rfl (fun _ S w g d _ s t=>(kx (b67 (ht.to s) (A4 g) (Q5 (F:=ai6) (l:=k.list) 0 60 [c1,c2,c3,c4,c5,c6] d (by kernel_rfl) t.els (show 6 ≤ maxLen by decide)) (fun x hx=>E7 (bg0 hl x hx) hn) e))) ?_
 exact j9 (.tuple #[]) rfl (fun S w _ g _=>⟨rfl,g⟩)
theorem az5 : rl (2 : Rat) 1:=I9 (by decide) (by decide)
theorem aa2 {k : C6} (h : cl k n) : ml k.mat (n + 1):=⟨⟨f5 (r5 az5 h.1),f5 h.2.2.2.2.2,f5 h.2.2.2.2.1⟩,⟨f5 h.2.2.2.2.2,f5 (r5 az5 h.2.1),f5 h.2.2.2.1⟩,⟨f5 h.2.2.2.2.1,f5 h.2.2.2.1,f5 (r5 az5 h.2.2.1)⟩⟩
theorem ci7 {k : C6} (hS : Up S w) (h : ConV S w v k) (hl : cl k n) (hn : n ≤ 3000) : Gives prog 66 [v] w fun v' w'=>Ext w w' ∧ MapV S w' v' k.mat:=by
 obtain ⟨c1,c2,c3,c4,c5,c6,rfl,hk⟩:=h
 refine n4 (E:=env) (S0:=S) (G:=(dt8 k c1 c2 c3 c4 c5 c6)) (l:=[.agg [.ag 3 c1,.ag 3 c2,.ag 3 c3,.ag 3 c4,.ag 3 c5,.ag 3 c6]]) func66 rfl rfl rfl ⟨hk.ok _,trivial⟩ rfl hk ?_
 refine o6 3 n5 (2 : Rat) (fun _ S w g _ _ _=>(kx (c97 (z:=2) g (by decide) (by decide)))) ?_
 intro two
 refine a8 28 ?_
 refine a6 3 ?_
 refine f4 3 n5 (2 * k.a) (fun _ _ S w g _ _ d _=>(kx (A9 g d.1 d.2.c1 az5 hl.1 (by omega)))) ?_
 refine a6 10 ?_
 refine f4 3 n5 (2 * k.b) (fun _ _ S w g _ _ d _=>(kx (A9 g d.1 d.2.c2 az5 hl.2.1 (by omega)))) ?_
 refine a6 10 ?_
 refine f4 3 n5 (2 * k.c) (fun _ _ S w g _ _ d _=>(kx (A9 g d.1 d.2.c3 az5 hl.2.2.1 (by omega)))) ?_
 refine a6 2 ?_
 refine b6 7 (fun g d=>(n5 (d 25) (2 * k.c)).and ((n5 (d 14) (2 * k.b)).and ((n5 (d 3) (2 * k.a)).and g))) (fun g _=>(by kernel_rfl)) ?_
 intro η_1
 exact j9 (cm5 (η_1 3) c6 c5 c6 (η_1 14) c4 c5 c4 (η_1 25)) rfl (fun S w g d s=>have hk:=s.2.2.2.2; ⟨d,(MapC.mono (m:=k.mat) ⟨s.2.2.1,hk.c6,hk.c5,hk.c6,s.2.1,hk.c4,hk.c5,hk.c4,s.1⟩ fun k _ hk=>g k hk).map⟩)
theorem dv1 {k : C6} (hS : Up S w) (h : ConV S w v k) (hp : TripV S w vp p) (hl : cl k n) (hm : tl p m) (hnm : 12 * (n + m) + 40 ≤ 3000) : Gives prog 59 [v,vp] w fun v' w'=>Ext w w' ∧ RatV S w' v' (k.val p):=by
 refine n4 (E:=env) (S0:=S) (G:=((al3 v k).and (j5 vp p))) (l:=[.one (.ag 18 v),.one (.ag 9 vp)]) func59 rfl rfl rfl ⟨h.ok,hp.ok,trivial⟩ rfl ⟨h,hp⟩ ?_
 refine a8 6 ?_
 refine a6 1 ?_
 refine f4 27 cu6 k.mat (fun _ _ S w g _ _ d _=>(kx (ci7 g d.1 hl (by omega)))) ?_
 refine a6 1 ?_
 refine f4 9 j5 (k.mat.apply p) (fun _ g S w d _ _ s t=>(kx (bh6 d (j8 t 1 : (cu6 (g 1) k.mat).p S w) s.2 (aa2 hl) hm (by omega)))) ?_
 refine a6 1 ?_
 refine f4 3 n5 (k.val p) (fun _ g S w d _ _ s t=>(kx (al5 d (j8 t 3 : (j5 (g 3) (k.mat.apply p)).p S w) s.2 (Q7 (aa2 hl) hm) hm (by omega)))) ?_
 refine b6 1 (fun g d=>(n5 (d 5) (k.val p)).and g) (fun g _=>(by kernel_rfl)) ?_
 intro η_1
 exact j9 (η_1 5) rfl (fun S w g d s=>⟨d,s.1.mono fun k _ hk=>g k hk⟩)
def si (p : T3) (B : Nat) : Prop:=∃ a b c : Int,p = ⟨(a : Rat),(b : Rat),(c : Rat)⟩ ∧ a.natAbs ≤ B ∧ b.natAbs ≤ B ∧ c.natAbs ≤ B
def sm (p : T3) (B : Nat) : Prop:=∃ (k : Rat) (a b c : Int),k ≠ 0 ∧ p = ⟨k * a,k * b,k * c⟩ ∧ a.natAbs ≤ B ∧ b.natAbs ≤ B ∧ c.natAbs ≤ B
theorem si.sm (h : si p B) : sm p B:=by
 obtain ⟨a,b,c,rfl,h1,h2,h3⟩:=h
 exact ⟨1,a,b,c,by decide,by ext <;> simp only <;> grind,h1,h2,h3⟩
theorem si.tl (h : si p B) (hB : B < 1000000000) : tl p 1:=by
 obtain ⟨a,b,c,rfl,h1,h2,h3⟩:=h
 exact ⟨a94 (by omega),a94 (by omega),a94 (by omega)⟩
theorem ag8 {a b : Int} (h : a.natAbs ≤ B) (k : b.natAbs ≤ C) : (a * b).natAbs ≤ B * C:=by rw [Int.natAbs_mul]; exact Nat.mul_le_mul h k
theorem bo4 (hp : si p B) (hq : si q C) : ∃ z : Int,p.dot q = (z : Rat) ∧ z.natAbs ≤ 3 * (B * C):=by
 obtain ⟨a,b,c,rfl,h3,h4,h5⟩:=hp
 obtain ⟨a',b',c',rfl,h3',h4',h5'⟩:=hq
 have q1:=ag8 h3 h3'
 have q2:=ag8 h4 h4'
 have q3:=ag8 h5 h5'
 exact ⟨a * a' + b * b' + c * c',by simp only [T3.dot,Rat.intCast_add,Rat.intCast_mul],by omega⟩
def mi (m : M3) (B : Nat) : Prop:=si m.a B ∧ si m.b B ∧ si m.c B
theorem aa0 {m : M3} (hm : mi m B) (hp : si p C) : si (m.apply p) (3 * (B * C)):=by
 obtain ⟨x,ex,hx⟩:=bo4 hm.1 hp
 obtain ⟨y,ey,hy⟩:=bo4 hm.2.1 hp
 obtain ⟨z,ez,hz⟩:=bo4 hm.2.2 hp
 exact ⟨x,y,z,by unfold M3.apply; rw [ex,ey,ez],hx,hy,hz⟩
theorem cq2 (a : Nat → Int) : mi (aq9 a) 3:=by
 have h : ∀ i,(r7 (a i)).natAbs ≤ 3:=fun i=>by have:=Y8 (a i); omega
 unfold aq9
 split
 ·exact ⟨⟨1,0,0,rfl,by decide,by decide,by decide⟩,⟨0,1,0,rfl,by decide,by decide,by decide⟩,⟨0,0,1,rfl,by decide,by decide,by decide⟩⟩
 exact ⟨⟨_,_,_,rfl,h 0,h 1,h 2⟩,⟨_,_,_,rfl,h 3,h 4,h 5⟩,⟨_,_,_,rfl,h 6,h 7,h 8⟩⟩
theorem ad9 (n : Int) : si (onT n) 25:=by
 have hb:=bi9 n
 have hq : (M7 n * M7 n).natAbs ≤ 25:=by
  rw [Int.natAbs_mul]
  exact Nat.mul_le_mul (show _ ≤ 5 by omega) (show _ ≤ 5 by omega)
 unfold onT
 split
 ·exact ⟨0,0,1,rfl,by decide,by decide,by decide⟩
 exact ⟨M7 n,1,M7 n * M7 n,rfl,by omega,by decide,hq⟩
theorem cg4 (h : si p B) (hB : B < 1000000000) (hn : ¬ p.None) : M9 p = 0:=av8 (h.tl hB) (by decide) hn
theorem fb3 : ElsV true 9 al6 S w [] []:=⟨rfl,fun x hx=>by simp at hx,fun i a x h=>by simp at h⟩
theorem bt4 {a : Value} {l : List T3} (h : TripV S w a p) (k : ElsV true 9 al6 S w vs l) : ElsV true 9 al6 S w (a :: vs) (p :: l):=by
 refine ⟨by simp [k.len],fun x hx=>?_,fun i t x h1 h2=>?_⟩
 ·rcases List.mem_cons.1 hx with rfl | hx
  ·exact h.lies
  exact k.lies x hx
 cases i with
 | zero=>simp at h1 h2; subst h1 h2; exact h
 | succ i=>exact k.el i t x (by simpa using h1) (by simpa using h2)
theorem dy7 {a0 a4 a5 : Value} (h0 : TripV S w a0 s.p0) (h1 : TripV S w a1 s.p1) (h2 : TripV S w a2 s.p2) (h3 : TripV S w a3 s.p3) (h4 : TripV S w a4 s.p4) (h5 : TripV S w a5 s.p5) :
  HexV S w ((SV.agg [.ag 9 a0,.ag 9 a1,.ag 9 a2,.ag 9 a3,.ag 9 a4,.ag 9 a5]).den fun _=>0) s:=by
 refine ⟨as8 (l:=[.ag 9 a0,.ag 9 a1,.ag 9 a2,.ag 9 a3,.ag 9 a4,.ag 9 a5]) (I1 (m:=0) ⟨h0.ok,h1.ok,h2.ok,h3.ok,h4.ok,h5.ok,trivial⟩) rfl,[a0,a1,a2,a3,a4,a5],?_,bt4 h0 (bt4 h1 (bt4 h2 (bt4 h3 (bt4 h4 (bt4 h5 fb3)))))⟩
 simp only [SV.den,Value.cells]
 exact ba2 (n:=9) (vs:=[a0,a1,a2,a3,a4,a5])
theorem dv4 (n : Int) : ¬ (onT n).None:=by
 unfold onT
 split
 ·rintro ⟨_,_,h⟩; exact absurd h (by decide)
 rintro ⟨_,h,_⟩; exact absurd h (show ¬ ((1 : Rat) = 0) by decide)
namespace T3
def lin (a : Rat) (p : T3) (b : Rat) (q : T3) : T3:=⟨a * p.x + b * q.x,a * p.y + b * q.y,a * p.z + b * q.z⟩
theorem au9 {u : T3} (hl : ¬ l.None) (h : u = l.smul a) : over1 l u = a:=by
 subst h
 unfold over1 smul
 split
 ·exact Rat.mul_div_cancel ‹_›
 split
 ·exact Rat.mul_div_cancel ‹_›
 rename_i h1 h2
 exact Rat.mul_div_cancel fun h3=>hl ⟨Classical.not_not.1 h1,Classical.not_not.1 h2,h3⟩
theorem ct9 {b : Rat} (h : ¬ Same p q) : mPart p q (lin a p b q) = a:=by
 refine au9 h ?_
 ext <;> simp only [cross,smul,lin] <;> grind
theorem cw3 {b : Rat} (h : ¬ Same p q) : nPart p q (lin a p b q) = b:=by
 refine au9 h ?_
 ext <;> simp only [cross,smul,lin] <;> grind
theorem lin_none {b : Rat} (h : ¬ Same p q) (hab : ¬ (a = 0 ∧ b = 0)) : ¬ (lin a p b q).None:=by
 rintro ⟨h1,h2,h3⟩
 refine hab ⟨?_,?_⟩
 ·rw [← ct9 (a:=a) (b:=b) h]
  have e : lin a p b q = ⟨0,0,0⟩:=by ext <;> assumption
  rw [e]
  exact au9 (a:=0) h (by ext <;> simp only [cross,smul] <;> grind)
 rw [← cw3 (a:=a) (b:=b) h]
 have e : lin a p b q = ⟨0,0,0⟩:=by ext <;> assumption
 rw [e]
 exact au9 (a:=0) h (by ext <;> simp only [cross,smul] <;> grind)
theorem normal_like (h : Like p q) : p.normal = q.normal:=by
 obtain ⟨k,hk,rfl⟩:=h
 exact ca5 hk
theorem Like.dot {p' : T3} (h : Like p p') (k : Like q q') : p.dot q = 0 ↔ p'.dot q' = 0:=by
 obtain ⟨a,ha,rfl⟩:=h
 obtain ⟨b,hb,rfl⟩:=k
 rw [b99]
 constructor
 ·intro h; exact (Rat.mul_eq_zero.1 h).resolve_left (fun e=>(Rat.mul_eq_zero.1 e).elim ha hb)
 intro h; rw [h,Rat.mul_zero]
end T3
namespace M3
def smul (k : Rat) (m : M3) : M3:=⟨m.a.smul k,m.b.smul k,m.c.smul k⟩
theorem lead_ne {m : M3} (h : m.det ≠ 0) : m.lead ≠ 0:=by
 obtain ⟨j,e1,e2,e3⟩:=a57 (fpos_list h)
 unfold lead Y0
 rw [e1]
 simpa using e3
end M3
theorem au0 (hp : si p B) (hq : si q C) : si (p.cross q) (2 * (B * C)):=by
 obtain ⟨a,b,c,rfl,h3,h4,h5⟩:=hp
 obtain ⟨a',b',c',rfl,h3',h4',h5'⟩:=hq
 have e : ∀ {x y z u : Int},x.natAbs ≤ B → y.natAbs ≤ C → z.natAbs ≤ B → u.natAbs ≤ C → (x * y - z * u).natAbs ≤ 2 * (B * C):=fun g1 g2 g3 g4=>by
  have q1:=ag8 g1 g2
  have q2:=ag8 g3 g4
  omega
 exact ⟨b * c' - c * b',c * a' - a * c',a * b' - b * a',by simp only [T3.cross,Rat.intCast_sub,Rat.intCast_mul],e h4 h5' h5 h4',e h5 h3' h3 h5',e h3 h4' h4 h3'⟩
theorem d71 {m : M3} (h : mi m B) : mi m.cof (2 * (B * B)):=⟨au0 h.2.1 h.2.2,au0 h.2.2 h.1,au0 h.1 h.2.1⟩
theorem ag1 {m : M3} (h : mi m B) : mi m.turned B:=by
 obtain ⟨⟨a,b,c,h1,h2,h3,h4⟩,⟨a',b',c',h1',h2',h3',h4'⟩,⟨a2,b2,c2,g1,g2,g3,g4⟩⟩:=h
 unfold M3.turned
 rw [h1,h1',g1]
 exact ⟨⟨a,a',a2,rfl,h2,h2',g2⟩,⟨b,b',b2,rfl,h3,h3',g3⟩,⟨c,c',c2,rfl,h4,h4',g4⟩⟩
theorem c81 {m : M3} (h : mi m B) : mi m.adj (2 * (B * B)):=ag1 (d71 h)
theorem b50 {m n : M3} (h : mi m B) (k : mi n C) : mi (m.after n) (3 * (B * C)):=ag1 ⟨aa0 h (ag1 k).1,aa0 h (ag1 k).2.1,aa0 h (ag1 k).2.2⟩
theorem d95 {m : M3} (h : mi m B) (hB : B < 1000000000) : ml m 1:=⟨h.1.tl hB,h.2.1.tl hB,h.2.2.tl hB⟩
theorem b27 (h : si p B) (k : B ≤ C) : si p C:=by
 obtain ⟨a,b,c,e,h1,h2,h3⟩:=h
 exact ⟨a,b,c,e,by omega,by omega,by omega⟩
abbrev bu6 (k : C6) (c1 c2 c3 c4 c5 c6 : Value) : Gh:=⟨fun S w=>QConC S w k c1 c2 c3 c4 c5 c6,fun h g=>h.keep g,fun h g=>h.mono g⟩
theorem bp0 {k : C6} (hS : Up S w) (h : QConV S w v k) (hl : cl k n) (hn : n ≤ 1000000) :
  Gives prog 83 [v] w fun v' w'=>v' = .int .i64 (as9 k) ∧ Ext w w':=by
 obtain ⟨c1,c2,c3,c4,c5,c6,rfl,hk⟩:=h
 refine n4 (E:=env) (S0:=S) (G:=(bu6 k c1 c2 c3 c4 c5 c6)) (l:=[.agg [.ag 4 c1,.ag 4 c2,.ag 4 c3,.ag 4 c4,.ag 4 c5,.ag 4 c6]]) func83 rfl rfl rfl ⟨hk.ok _,trivial⟩ rfl hk ?_
 by_cases hn1 : ah4 k.list
 ·refine ag7 (.tup [(true,[.bb false,.sl (.slice none 0 0) 0,.bb false,.sl (.slice none 0 0) 0]),(false,[.bb false])]) rfl (fun _ S w g d _ _ s=>(kx (c49 (A4 g) (Q5 (F:=qF) (l:=k.list) 0 36 [c1,c2,c3,c4,c5,c6] d (by kernel_rfl) s.els (show 6 ≤ maxLen by decide)) hn1))) ?_
  exact j9 (.int .i64 60) rfl (fun S w _ g _=>⟨by unfold as9 bc6; rw [if_pos hn1],g⟩)
 have hn2 : 0 ≤ U4 ar5 k.list 0:=an8.1 (Classical.not_not.1 hn1)
 obtain ⟨j,e1,e2,e3⟩:=a57 hn2
 rw [Nat.zero_add] at e1
 refine dv9 (fun x0=>pr (.ag 4 (O3 x0 0)) (.bb true)) (fun x0=>o8 ((pr (.ag 4 (O3 x0 0)) (.bb true)).Ok 0 ∧ (pr (.ag 4 (O3 x0 0)) (.bb true)).den (fun _=>0) = x0)) ⟨c8,hS,l8⟩ (by kernel_rfl) (by kernel_rfl) (fun _ _ _ h=>h) (fun _ S w g d _ _ s=>(kx ((df6 (A4 g) (Q5 (F:=qF) (l:=k.list) 0 36 [c1,c2,c3,c4,c5,c6] d (by kernel_rfl) s.els (show 6 ≤ maxLen by decide)) e1 e2 e3).mono fun v' w' h=>⟨h.1,cl8 h.2⟩))) ?_
 intro y
 refine ag7 (.one (.tp (am8 k.list))) rfl (fun _ S w g d _ _ s=>(kx (be7 (A4 g) (Q5 (F:=qF) (l:=k.list) 0 36 [c1,c2,c3,c4,c5,c6] d (by kernel_rfl) s.2.els (show 6 ≤ maxLen by decide)) (fun x hx=>E7 (bg0 hl x hx) hn)))) ?_
 refine z7 (p:=am8 k.list) (fun h1=>?_) (fun h1=>?_)
 ·exact j9 (.int .i64 11) rfl (fun S w _ g _=>⟨by unfold as9 bc6; rw [if_neg hn1,if_pos h1],g⟩)
 exact j9 (.int .i64 0) rfl (fun S w _ g _=>⟨by unfold as9 bc6; rw [if_neg hn1,if_neg h1],g⟩)
def ae8 (p : T3) : List Rat:=[p.x * p.x,p.y * p.y,p.z * p.z,p.y * p.z,p.z * p.x,p.x * p.y]
theorem fd8 {c4 c5 c6 : Value} {x1 x2 x3 x4 x5 x6 : Rat} (h1 : QV S w c1 x1) (h2 : QV S w c2 x2) (h3 : QV S w c3 x3) (h4 : QV S w c4 x4) (h5 : QV S w c5 x5) (h6 : QV S w c6 x6)
  (hrow : Row S 30 4 w v 6 (c1.cells.toList ++ (c2.cells.toList ++ (c3.cells.toList ++ (c4.cells.toList ++ (c5.cells.toList ++ (c6.cells.toList ++ []))))))) : SeqV true 4 qF S w v [x1,x2,x3,x4,x5,x6]:=
 (QConC.els (k:=⟨x1,x2,x3,x4,x5,x6⟩) ⟨h1,h2,h3,h4,h5,h6⟩).ofRow (T:=30) hrow rfl
theorem cb9 (hS : Up S w) (hp : QTripV S w vp p) (hl : tl p n) (hn : n ≤ 1000000) :
  Gives prog 77 [vp] w fun v' w'=>Ext w w' ∧ (qsG v' (ae8 p)).p S w':=by
 obtain ⟨a,b,c,rfl,ha,hb,hc⟩:=hp
 have lx:=E7 hl.1 (show n ≤ 400000000000 by omega)
 have ly:=E7 hl.2.1 (show n ≤ 400000000000 by omega)
 have lz:=E7 hl.2.2 (show n ≤ 400000000000 by omega)
 refine n4 (E:=env) (S0:=S) (G:=((qG a p.x).and ((qG b p.y).and (qG c p.z)))) (l:=[.agg [.ag 4 a,.ag 4 b,.ag 4 c]]) func77 rfl rfl rfl ⟨I1 ⟨ha.okc,hb.okc,hc.okc,trivial⟩,trivial⟩ rfl ⟨ha,hb,hc⟩ ?_
 refine a8 31 ?_
 refine a6 4 ?_
 refine f4 4 qG (p.x * p.x) (fun _ _ S w g _ _ d _=>(kx (s8 g d.1 d.1 lx lx))) ?_
 refine a6 4 ?_
 refine f4 4 qG (p.y * p.y) (fun _ _ S w g _ _ d _=>(kx (s8 g d.2.1 d.2.1 ly ly))) ?_
 refine a6 4 ?_
 refine f4 4 qG (p.z * p.z) (fun _ _ S w g _ _ d _=>(kx (s8 g d.2.2 d.2.2 lz lz))) ?_
 refine a6 4 ?_
 refine f4 4 qG (p.y * p.z) (fun _ _ S w g _ _ d _=>(kx (s8 g d.2.1 d.2.2 ly lz))) ?_
 refine a6 4 ?_
 refine f4 4 qG (p.z * p.x) (fun _ _ S w g _ _ d _=>(kx (s8 g d.2.2 d.1 lz lx))) ?_
 refine a6 4 ?_
 refine f4 4 qG (p.x * p.y) (fun _ _ S w g _ _ d _=>(kx (s8 g d.1 d.2.1 lx ly))) ?_
 refine ab7 30 4 6 (fun x0=>qsG x0 [p.x * p.x,p.y * p.y,p.z * p.z,p.y * p.z,p.z * p.x,p.x * p.y]) ⟨c8,hS,l8⟩ (fun _=>(by kernel_rfl)) (fun _ g S w x0 w' _ _ _ _ d s hrow=>fd8 ((j8 d 4 : (qG (g 4) (p.x * p.x)).p S w).to s) ((j8 d 9 : (qG (g 9) (p.y * p.y)).p S w).to s) ((j8 d 14 : (qG (g 14) (p.z * p.z)).p S w).to s) ((j8 d 19 : (qG (g 19) (p.y * p.z)).p S w).to s) ((j8 d 24 : (qG (g 24) (p.z * p.x)).p S w).to s) ((j8 d 29 : (qG (g 29) (p.x * p.y)).p S w).to s) (kc hrow (by kernel_rfl))) ?_
 refine b6 1 (fun g d=>(qsG (d 30) [p.x * p.x,p.y * p.y,p.z * p.z,p.y * p.z,p.z * p.x,p.x * p.y]).and g) (fun g _=>(by kernel_rfl)) ?_
 intro η_1
 exact j9 (η_1 30) rfl (fun S w g d s=>⟨d,SeqV.mono s.1 fun k _ hk=>g k hk⟩)
def C6.poly (k : C6) (p : T3) : Rat:=k.a * (p.x * p.x) + k.b * (p.y * p.y) + k.c * (p.z * p.z) + k.f * (p.y * p.z) + k.g * (p.z * p.x) + k.h * (p.x * p.y)
theorem c54 (k : C6) (p : T3) : k.val p = 2 * k.poly p:=by
 simp only [C6.val,C6.mat,C6.poly,M3.apply,T3.dot]
 grind
theorem an0 {k : C6} : k.val p = 0 ↔ k.poly p = 0:=by
 rw [c54]
 constructor
 ·intro h; exact (Rat.mul_eq_zero.1 h).resolve_left (by decide)
 intro h; rw [h,Rat.mul_zero]
theorem bt7 {l : List Rat} (h : SeqV true 4 qF S w v l) : ∃ S' T' cs,Row S' T' 4 w v l.length cs:=let ⟨T,vs,_,_,hr,_⟩:=h.row; ⟨S,T,_,hr⟩
theorem cy6 {l : List Rat} {x : Rat} (h : SeqV true 4 qF S w v l) (hi : l[i]? = some x) (hu : u = .pointer (some (adr v (i * 4)))) : ∃ S' y,P6 true 4 y ∧ At S' w u y.cells.toList ∧ (qG y x).p S w:=by
 subst hu
 obtain ⟨y,h1,h2,h3⟩:=h.at hi
 exact ⟨S,y,h1,h2,h3⟩
def C6.tm (k : C6) (p : T3) (i : Nat) : Rat:=k.list.getD i 0 * (ae8 p).getD i 0
def C6.ps (k : C6) (p : T3) : Nat → Rat
 | 0=>0
 | i + 1=>k.ps p i + k.tm p i
variable {k : C6}
theorem fd5 (k : C6) (p : T3) : k.ps p 6 = k.poly p:=by
 show 0 + k.a * (p.x * p.x) + k.b * (p.y * p.y) + k.c * (p.z * p.z) + k.f * (p.y * p.z) + k.g * (p.z * p.x) + k.h * (p.x * p.y) = _
 rw [Rat.zero_add]
 rfl
theorem du2 (h : cl k n) : ∀ i,i < 6 → rl (k.list.getD i 0) n:=fun i hi=>by
 rw [List.getD_eq_getElem?_getD,List.getElem?_eq_getElem (show i < k.list.length from hi)]
 exact bg0 h _ (List.getElem_mem _)
theorem du4 (h : tl p m) : ∀ i,i < 6 → rl ((ae8 p).getD i 0) (2 * m):=fun i hi=>by
 have e : ∀ {x y : Rat},rl x m → rl y m → rl (x * y) (2 * m):=fun a b=>f5 (r5 a b)
 match i,hi with
 | 0,_=>exact e h.1 h.1
 | 1,_=>exact e h.2.1 h.2.1
 | 2,_=>exact e h.2.2 h.2.2
 | 3,_=>exact e h.2.1 h.2.2
 | 4,_=>exact e h.2.2 h.1
 | 5,_=>exact e h.1 h.2.1
theorem dt9 (h : cl k n) (g : tl p m) (i : Nat) (hi : i < 6) : rl (k.tm p i) (n + 2 * m):=r5 (du2 h i hi) (du4 g i hi)
theorem d99 (h : cl k n) (g : tl p m) : ∀ i,i ≤ 6 → rl (k.ps p i) (i * (n + 2 * m + 1) + 1):=by
 intro i
 induction i with
 | zero=>intro _; exact f5 dn4
 | succ i ih=>intro hi; exact E7 (ae3 (ih (by omega)) (dt9 h g i (by omega))) (by rw [Nat.add_mul]; omega)
theorem ab2 (hS : Up S w) (h : QConV S w v k) (hp : QTripV S w vp p) (hl : cl k n) (hm : tl p m) (hn : n ≤ 1000) (hmm : m ≤ 1000) :
  Gives prog 20 [v,vp] w fun v' w'=>v' = .bool (tst (k.poly p = 0)) ∧ Ext w w':=by
 have R:=fun i hi=>E7 (d99 hl hm i hi) (show i * (n + 2 * m + 1) + 1 ≤ 400000000000 from Nat.le_trans (Nat.add_le_add_right (Nat.mul_le_mul hi (Nat.le_refl _)) 1) (by omega))
 have A:=fun i hi=>E7 (du2 hl i hi) (show n ≤ 400000000000 by omega)
 have B:=fun i hi=>E7 (du4 hm i hi) (show 2 * m ≤ 400000000000 by omega)
 have D:=fun i hi=>E7 (dt9 hl hm i hi) (show n + 2 * m ≤ 400000000000 by omega)
 obtain ⟨c1,c2,c3,c4,c5,c6,rfl,hk⟩:=h
 refine n4 (E:=env) (S0:=S) (G:=((l7 vp p).and (bu6 k c1 c2 c3 c4 c5 c6))) (l:=[.agg [.ag 4 c1,.ag 4 c2,.ag 4 c3,.ag 4 c4,.ag 4 c5,.ag 4 c6],.one (.ag 12 vp)]) func20 rfl rfl rfl ⟨hk.ok _,hp.ok,trivial⟩ rfl ⟨hp,hk⟩ ?_
 refine ah1 (fun x0=>.one (.sl x0 6)) (fun x0=>qsG x0 (ae8 p)) (fun _ _ _ h=>⟨h.sl,rfl⟩) (fun _ S w g _ _ d=>(kx (cb9 g d.1 hm (by omega)))) ?_
 intro v
 refine o6 4 qG (k.ps p 0) (fun _ S w g _ _ _=>(kx (Z5 g))) ?_
 intro z
 refine i1 ?_
 refine a8 10 ?_
 refine a6 6 ?_
 refine Q3 (fun _=>v) 6 0 30 4 (fun u0=>o8 (u0 = .pointer (some (adr v (Int.toNat 0 * 4))))) (fun _ _ S w _ _ g _=>⟨by decide,by decide,bt7 g.2.1,rfl⟩) ?_
 refine p7 6 30 4 qG ((ae8 p).getD 0 0) (fun _ g S w _ _ d s=>cy6 d.2.1 (i:=0) rfl (j8 s 6 : (o8 ((g 6) = .pointer (some (adr v (Int.toNat 0 * 4))))).p S w)) ?_
 refine f4 4 qG (k.tm p 0) (fun _ g S w d _ _ s t=>(kx (s8 d s.2.2.2.c1 (j8 t 7 : (qG (g 7) ((ae8 p).getD 0 0)).p S w) (A 0 (by decide)) (B 0 (by decide))))) ?_
 refine f4 4 qG (k.ps p 1) (fun _ g S w d _ _ s t=>(kx (af7 d s.1 (j8 t 8 : (qG (g 8) (k.tm p 0)).p S w) (R 0 (by decide)) (D 0 (by decide))))) ?_
 refine H5 1 (gd (gk (gd g0))) (fun g d=>(qG (d 9) (k.ps p 1)).and g) (by kernel_rfl) (fun g _=>(by kernel_rfl)) ?_
 intro η_1
 refine i1 ?_
 refine a8 10 ?_
 refine a6 6 ?_
 refine Q3 (fun _=>v) 6 1 30 4 (fun u0=>o8 (u0 = .pointer (some (adr v (Int.toNat 1 * 4))))) (fun _ _ S w _ _ g _=>⟨by decide,by decide,bt7 g.2.1,rfl⟩) ?_
 refine p7 6 30 4 qG ((ae8 p).getD 1 0) (fun _ g S w _ _ d s=>cy6 d.2.1 (i:=1) rfl (j8 s 6 : (o8 ((g 6) = .pointer (some (adr v (Int.toNat 1 * 4))))).p S w)) ?_
 refine f4 4 qG (k.tm p 1) (fun _ g S w d _ _ s t=>(kx (s8 d s.2.2.c2 (j8 t 7 : (qG (g 7) ((ae8 p).getD 1 0)).p S w) (A 1 (by decide)) (B 1 (by decide))))) ?_
 refine f4 4 qG (k.ps p 2) (fun _ g S w d _ _ s t=>(kx (af7 d s.1 (j8 t 8 : (qG (g 8) (k.tm p 1)).p S w) (R 1 (by decide)) (D 1 (by decide))))) ?_
 refine H5 1 (gd g0) (fun g d=>(qG (d 9) (k.ps p 2)).and g) (by kernel_rfl) (fun g _=>(by kernel_rfl)) ?_
 intro η_2
 refine i1 ?_
 refine a8 10 ?_
 refine a6 6 ?_
 refine Q3 (fun _=>v) 6 2 30 4 (fun u0=>o8 (u0 = .pointer (some (adr v (Int.toNat 2 * 4))))) (fun _ _ S w _ _ g _=>⟨by decide,by decide,bt7 g.2.1,rfl⟩) ?_
 refine p7 6 30 4 qG ((ae8 p).getD 2 0) (fun _ g S w _ _ d s=>cy6 d.2.1 (i:=2) rfl (j8 s 6 : (o8 ((g 6) = .pointer (some (adr v (Int.toNat 2 * 4))))).p S w)) ?_
 refine f4 4 qG (k.tm p 2) (fun _ g S w d _ _ s t=>(kx (s8 d s.2.2.c3 (j8 t 7 : (qG (g 7) ((ae8 p).getD 2 0)).p S w) (A 2 (by decide)) (B 2 (by decide))))) ?_
 refine f4 4 qG (k.ps p 3) (fun _ g S w d _ _ s t=>(kx (af7 d s.1 (j8 t 8 : (qG (g 8) (k.tm p 2)).p S w) (R 2 (by decide)) (D 2 (by decide))))) ?_
 refine b6 1 (fun g d=>(qG (d 9) (k.ps p 3)).and g) (fun g _=>(by kernel_rfl)) ?_
 intro η_3
 refine i1 ?_
 refine a8 10 ?_
 refine a6 6 ?_
 refine Q3 (fun _=>v) 6 3 30 4 (fun u0=>o8 (u0 = .pointer (some (adr v (Int.toNat 3 * 4))))) (fun _ _ S w _ _ g _=>⟨by decide,by decide,bt7 g.2.2.1,rfl⟩) ?_
 refine p7 6 30 4 qG ((ae8 p).getD 3 0) (fun _ g S w _ _ d s=>cy6 d.2.2.1 (i:=3) rfl (j8 s 6 : (o8 ((g 6) = .pointer (some (adr v (Int.toNat 3 * 4))))).p S w)) ?_
 refine f4 4 qG (k.tm p 3) (fun _ g S w d _ _ s t=>(kx (s8 d s.2.2.2.c4 (j8 t 7 : (qG (g 7) ((ae8 p).getD 3 0)).p S w) (A 3 (by decide)) (B 3 (by decide))))) ?_
 refine f4 4 qG (k.ps p 4) (fun _ g S w d _ _ s t=>(kx (af7 d s.1 (j8 t 8 : (qG (g 8) (k.tm p 3)).p S w) (R 3 (by decide)) (D 3 (by decide))))) ?_
 refine b6 1 (fun g d=>(qG (d 9) (k.ps p 4)).and g) (fun g _=>(by kernel_rfl)) ?_
 intro η_4
 refine i1 ?_
 refine a8 10 ?_
 refine a6 6 ?_
 refine Q3 (fun _=>v) 6 4 30 4 (fun u0=>o8 (u0 = .pointer (some (adr v (Int.toNat 4 * 4))))) (fun _ _ S w _ _ g _=>⟨by decide,by decide,bt7 g.2.2.2.1,rfl⟩) ?_
 refine p7 6 30 4 qG ((ae8 p).getD 4 0) (fun _ g S w _ _ d s=>cy6 d.2.2.2.1 (i:=4) rfl (j8 s 6 : (o8 ((g 6) = .pointer (some (adr v (Int.toNat 4 * 4))))).p S w)) ?_
 refine f4 4 qG (k.tm p 4) (fun _ g S w d _ _ s t=>(kx (s8 d s.2.2.2.2.c5 (j8 t 7 : (qG (g 7) ((ae8 p).getD 4 0)).p S w) (A 4 (by decide)) (B 4 (by decide))))) ?_
 refine f4 4 qG (k.ps p 5) (fun _ g S w d _ _ s t=>(kx (af7 d s.1 (j8 t 8 : (qG (g 8) (k.tm p 4)).p S w) (R 4 (by decide)) (D 4 (by decide))))) ?_
 refine b6 1 (fun g d=>(qG (d 9) (k.ps p 5)).and g) (fun g _=>(by kernel_rfl)) ?_
 intro η_5
 refine i1 ?_
 refine a8 10 ?_
 refine a6 6 ?_
 refine Q3 (fun _=>v) 6 5 30 4 (fun u0=>o8 (u0 = .pointer (some (adr v (Int.toNat 5 * 4))))) (fun _ _ S w _ _ g _=>⟨by decide,by decide,bt7 g.2.2.2.2.1,rfl⟩) ?_
 refine p7 6 30 4 qG ((ae8 p).getD 5 0) (fun _ g S w _ _ d s=>cy6 d.2.2.2.2.1 (i:=5) rfl (j8 s 6 : (o8 ((g 6) = .pointer (some (adr v (Int.toNat 5 * 4))))).p S w)) ?_
 refine f4 4 qG (k.tm p 5) (fun _ g S w d _ _ s t=>(kx (s8 d s.2.2.2.2.2.c6 (j8 t 7 : (qG (g 7) ((ae8 p).getD 5 0)).p S w) (A 5 (by decide)) (B 5 (by decide))))) ?_
 refine f4 4 qG (k.ps p 6) (fun _ g S w d _ _ s t=>(kx (af7 d s.1 (j8 t 8 : (qG (g 8) (k.tm p 5)).p S w) (R 5 (by decide)) (D 5 (by decide))))) ?_
 refine b6 1 (fun g d=>(qG (d 9) (k.ps p 6)).and g) (fun g _=>(by kernel_rfl)) ?_
 intro η_6
 refine i1 ?_
 refine n9 (.one (.int .i64 (k.ps p 6).num.sign)) rfl (fun _ S w _ _ _ g=>(kx (ap0 g.1))) ?_
 exact j9 (.bool (tst ((k.ps p 6).num.sign = 0))) rfl (fun S w _ g _=>⟨by rw [fd5,show ((k.poly p).num.sign = 0) = (k.poly p = 0) from propext ap5],g⟩)
namespace C6
def bl (k : C6) (p q : T3) : Rat:=(k.mat.apply p).dot q
theorem bl_comm (k : C6) (p q : T3) : k.bl p q = k.bl q p:=by
 simp only [bl,mat,M3.apply,T3.dot]
 grind
theorem bw8 (k : C6) (p u v : T3) (a b : Rat) : k.bl p (T3.lin a u b v) = a * k.bl p u + b * k.bl p v:=by
 simp only [bl,mat,M3.apply,T3.dot,T3.lin]
 grind
def sec (k : C6) (p q : T3) : T3:=T3.lin (k.bl q q) p (-(2 * k.bl p q)) q
theorem sec_like {b : Rat} (hp : k.bl p p = 0) (hb : b ≠ 0) : T3.Like (k.sec p (T3.lin a p b q)) (k.sec p q):=by
 refine ⟨b * b,a79 hb hb,?_⟩
 have e1 : k.bl p (T3.lin a p b q) = b * k.bl p q:=by rw [bw8,hp]; grind
 have e2 : k.bl (T3.lin a p b q) (T3.lin a p b q) = 2 * a * b * k.bl p q + b * b * k.bl q q:=by
  rw [bw8,bl_comm k _ p,bl_comm k _ q,bw8,bw8,hp,bl_comm k q p]
  grind
 unfold sec
 rw [e1,e2]
 ext <;> simp only [T3.lin,T3.smul] <;> grind
end C6
namespace T3
theorem same_both {u v : T3} (hl : ¬ l.None) (h1 : Same u l) (h2 : Same v l) : Same u v:=by
 obtain ⟨a1,a2,a3⟩:=h1
 obtain ⟨b1,b2,b3⟩:=h2
 simp only [cross] at a1 a2 a3 b1 b2 b3
 by_cases hx : l.x = 0
 ·by_cases hy : l.y = 0
  ·have hz : l.z ≠ 0:=fun hz=>hl ⟨hx,hy,hz⟩
   refine ⟨?_,?_,?_⟩ <;> simp only [cross] <;> grind
  refine ⟨?_,?_,?_⟩ <;> simp only [cross] <;> grind
 refine ⟨?_,?_,?_⟩ <;> simp only [cross] <;> grind
theorem cross_cross {u : T3} (h1 : u.dot p = 0) (h2 : u.dot q = 0) : Same u (p.cross q):=by
 simp only [dot] at h1 h2
 refine ⟨?_,?_,?_⟩ <;> simp only [cross] <;> grind
end T3
theorem bd5 (hd : k.mat.det ≠ 0) (hs : ¬ T3.Same p q) : ¬ (k.bl p p = 0 ∧ k.bl p q = 0 ∧ k.bl q q = 0):=by
 rintro ⟨h1,h2,h3⟩
 have a : T3.Same (k.mat.apply p) (p.cross q):=T3.cross_cross h1 h2
 have b : T3.Same (k.mat.apply q) (p.cross q):=T3.cross_cross (by rw [C6.bl_comm] at h2; exact h2) h3
 exact hs ((M3.same_apply hd).1 (T3.same_both hs a b))
theorem dd2 (hd : k.mat.det ≠ 0) (hs : ¬ T3.Same p q) (hp : k.bl p p = 0) : ¬ (k.sec p q).None:=by
 refine T3.lin_none hs ?_
 rintro ⟨h1,h2⟩
 refine bd5 hd hs ⟨hp,?_,h1⟩
 grind
noncomputable def am3 (k : C6) (p q : T3) : T3:=if k.bl p q = 0 then p.normal else (T3.lin (-(k.bl q q / (2 * k.bl p q))) p 1 q).normal
theorem dr7 (hd : k.mat.det ≠ 0) (hs : ¬ T3.Same p q) (hp : k.bl p p = 0) : am3 k p q = (k.sec p q).normal:=by
 unfold am3
 by_cases hb : k.bl p q = 0
 ·rw [if_pos hb]
  have hq : k.bl q q ≠ 0:=fun h=>bd5 hd hs ⟨hp,hb,h⟩
  refine (T3.normal_like ⟨k.bl q q,hq,?_⟩).symm
  unfold C6.sec
  rw [hb]
  ext <;> simp only [T3.lin,T3.smul] <;> grind
 rw [if_neg hb]
 refine (T3.normal_like ⟨-(2 * k.bl p q),by grind,?_⟩).symm
 unfold C6.sec
 ext <;> simp only [T3.lin,T3.smul] <;> grind
theorem cn4 {l : T3} (hp : k.bl p p = 0) (hs : ¬ T3.Same p q) (h1 : q' = q.smul (-1)) : T3.Like (k.sec p q') (k.sec p q):=by
 have e : q' = T3.lin 0 p (-1) q:=by rw [h1]; ext <;> simp only [T3.lin,T3.smul] <;> grind
 rw [e]
 exact C6.sec_like hp (by decide)
def F8 (i : Nat) : T3:=match i with | 0=>⟨1,0,0⟩ | 1=>⟨0,1,0⟩ | _=>⟨0,0,1⟩
theorem cv0 (hl : ¬ l.None) (hp : ¬ p.None) : ∃ i,i < 3 ∧ ¬ ((F8 i).cross l).None ∧ ¬ T3.Same ((F8 i).cross l) p:=by
 refine Classical.byContradiction fun h=>?_
 have key : ∀ i,i < 3 → T3.Same ((F8 i).cross l) p:=fun i hi=>by
  refine Classical.byContradiction fun g=>h ⟨i,hi,?_,g⟩
  rintro ⟨a,b,c⟩
  exact g (by refine ⟨?_,?_,?_⟩ <;> simp only [T3.cross] at a b c ⊢ <;> grind)
 have k0:=key 0 (by decide)
 have k1:=key 1 (by decide)
 have k2:=key 2 (by decide)
 obtain ⟨a1,a2,a3⟩:=k0
 obtain ⟨b1,b2,b3⟩:=k1
 obtain ⟨c1,c2,c3⟩:=k2
 simp only [F8,T3.cross] at a1 a2 a3 b1 b2 b3 c1 c2 c3
 refine hl ?_
 by_cases hx : p.x = 0
 ·by_cases hy : p.y = 0
  ·have hz : p.z ≠ 0:=fun hz=>hp ⟨hx,hy,hz⟩
   refine ⟨?_,?_,?_⟩ <;> grind
  refine ⟨?_,?_,?_⟩ <;> grind
 refine ⟨?_,?_,?_⟩ <;> grind
theorem a88 (hS : Up S w) (h : ConV S w v k) (hl : cl k n) (hn : 40 * n + 80 ≤ 3000) :
  Gives prog 57 [v] w fun v' w'=>v' = .bool (tst (¬ k.mat.det = 0)) ∧ Ext w w':=by
 refine n4 (E:=env) (S0:=S) (G:=(al3 v k)) (l:=[.one (.ag 18 v)]) func57 rfl rfl rfl ⟨h.ok,trivial⟩ rfl h ?_
 refine o6 27 cu6 k.mat (fun _ S w g _ _ d=>(kx (ci7 g d hl (by omega)))) ?_
 intro a
 refine o6 3 n5 k.mat.det (fun _ S w g _ _ d=>(kx (d86 g d.1 (aa2 hl) (by omega)))) ?_
 intro d
 refine n9 (.one (.tp (k.mat.det = 0))) rfl (fun _ S w g _ _ d=>(kx (D9 g d.1))) ?_
 exact j9 (.bool (tst (¬ k.mat.det = 0))) rfl (fun S w _ g _=>⟨rfl,g⟩)
namespace T3
theorem same_like {u v : T3} (h : Same u v) (hu : ¬ u.None) (hv : ¬ v.None) : Like u v:=by
 obtain ⟨h1,h2,h3⟩:=h
 simp only [cross] at h1 h2 h3
 have key : ∀ a b : Rat,b ≠ 0 → a ≠ 0 → u.x * b = v.x * a → u.y * b = v.y * a → u.z * b = v.z * a → Like u v:=fun a b hb ha e1 e2 e3=>by
  have hc : b * b⁻¹ = 1:=Rat.mul_inv_cancel b hb
  have ha' : a * a⁻¹ = 1:=Rat.mul_inv_cancel a ha
  refine ⟨a * b⁻¹,fun e=>?_,?_⟩
  ·have : a * (b⁻¹ * b) * a⁻¹ = 0:=by grind
   grind
  ext <;> simp only [smul] <;> grind
 have hz : ∀ a b : Rat,b ≠ 0 → u.x * b = v.x * a → u.y * b = v.y * a → u.z * b = v.z * a → a ≠ 0:=fun a b hb e1 e2 e3 ha=>hu ⟨by subst ha; exact (Rat.mul_eq_zero.1 (by rw [e1,Rat.mul_zero])).resolve_right hb,by subst ha; exact (Rat.mul_eq_zero.1 (by rw [e2,Rat.mul_zero])).resolve_right hb,by subst ha; exact (Rat.mul_eq_zero.1 (by rw [e3,Rat.mul_zero])).resolve_right hb⟩
 have go : ∀ a b : Rat,b ≠ 0 → u.x * b = v.x * a → u.y * b = v.y * a → u.z * b = v.z * a → Like u v:=fun a b hb e1 e2 e3=>key a b hb (hz a b hb e1 e2 e3) e1 e2 e3
 by_cases hx : v.x = 0
 ·by_cases hy : v.y = 0
  ·have hz : v.z ≠ 0:=fun hz=>hv ⟨hx,hy,hz⟩
   exact go u.z v.z hz (by grind) (by grind) (by grind)
  exact go u.y v.y hy (by grind) (by grind) (by grind)
 exact go u.x v.x hx (by grind) (by grind) (by grind)
end T3
namespace Six6
structure Dist (s : Six6) : Prop where
 d01 : ¬ T3.Same s.p1 s.p0
 d02 : ¬ T3.Same s.p2 s.p0
 d03 : ¬ T3.Same s.p3 s.p0
 d04 : ¬ T3.Same s.p4 s.p0
 d05 : ¬ T3.Same s.p5 s.p0
 d12 : ¬ T3.Same s.p2 s.p1
 d13 : ¬ T3.Same s.p3 s.p1
 d14 : ¬ T3.Same s.p4 s.p1
 d15 : ¬ T3.Same s.p5 s.p1
 d23 : ¬ T3.Same s.p3 s.p2
 d24 : ¬ T3.Same s.p4 s.p2
 d25 : ¬ T3.Same s.p5 s.p2
 d34 : ¬ T3.Same s.p4 s.p3
 d35 : ¬ T3.Same s.p5 s.p3
 d45 : ¬ T3.Same s.p5 s.p4
theorem ok_iff : s.Ok ↔ s.Dist ∧ ¬ T3.Same s.l0 s.l3 ∧ ¬ T3.Same s.l1 s.l4 ∧ ¬ T3.Same s.l2 s.l5 ∧ T3.Flat s.m0 s.m1 s.m2 ∧ ¬ (T3.Same s.m0 s.m1 ∧ T3.Same s.m0 s.m2):=
 ⟨fun ⟨a,b,c,d,e,f,g,h,i,j,k,l,m,n,o,p,q,r,t,u⟩=>⟨⟨a,b,c,d,e,f,g,h,i,j,k,l,m,n,o⟩,p,q,r,t,u⟩,fun ⟨⟨a,b,c,d,e,f,g,h,i,j,k,l,m,n,o⟩,p,q,r,t,u⟩=>⟨a,b,c,d,e,f,g,h,i,j,k,l,m,n,o,p,q,r,t,u⟩⟩
theorem ns_iff (o0 : ¬ T3.Same s.l0 s.l3) : (T3.Same s.m0 s.m1 ∧ T3.Same s.m0 s.m2) ↔ (T3.Same s.m0 s.m1 ∧ T3.Same s.m1 s.m2 ∧ T3.Same s.m2 s.m0):=
 ⟨fun ⟨h1,h2⟩=>⟨h1,T3.same_both (l:=s.m0) o0 (T3.same_symm h1) (T3.same_symm h2),T3.same_symm h2⟩,fun ⟨h1,_,h3⟩=>⟨h1,T3.same_symm h3⟩⟩
open Classical in
noncomputable def rline (s : Six6) : T3:=if T3.Same s.m0 s.m1 then (if T3.Same s.m1 s.m2 then (s.m2.cross s.m0).normal else (s.m1.cross s.m2).normal) else (s.m0.cross s.m1).normal
open Classical in
theorem rline_eq {n0 n1 n2 : T3} (h0 : T3.Like n0 s.m0) (h1 : T3.Like n1 s.m1) (h2 : T3.Like n2 s.m2) (o0 : ¬ T3.Same s.l0 s.l3) (o1 : ¬ T3.Same s.l1 s.l4) (ns : ¬ (T3.Same s.m0 s.m1 ∧ T3.Same s.m0 s.m2)) :
  (if T3.Same n0 n1 then (n0.cross n2).normal else (n0.cross n1).normal) = s.rline:=by
 unfold rline
 by_cases g : T3.Same s.m0 s.m1
 ·have g2 : ¬ T3.Same s.m0 s.m2:=fun e=>ns ⟨g,e⟩
  have k : T3.Like s.m0 s.m1:=T3.same_like g o0 o1
  have g3 : ¬ T3.Same s.m1 s.m2:=fun e=>g2 ((k.same T3.Like.rfl).2 e)
  rw [if_pos ((h0.same h1).2 g),if_pos g,if_neg g3]
  exact T3.normal_like ((h0.trans k).cross h2)
 rw [if_neg (fun e=>g ((h0.same h1).1 e)),if_neg g]
 exact T3.normal_like (h0.cross h1)
end Six6
def ak0 (l p : T3) (i : Nat) : Prop:=¬ ((F8 i).cross l).None ∧ ¬ T3.Same ((F8 i).cross l) p
open Classical in
noncomputable def pick (l p : T3) : Nat:=if ak0 l p 0 then 0 else if ak0 l p 1 then 1 else 2
theorem bb7 (hl : ¬ l.None) (hp : ¬ p.None) : ak0 l p (pick l p):=by
 unfold pick
 split
 ·assumption
 split
 ·assumption
 rename_i h0 h1
 obtain ⟨i,hi,a,b⟩:=cv0 hl hp
 match i,hi,a,b with
 | 0,_,a,b=>exact absurd ⟨a,b⟩ h0
 | 1,_,a,b=>exact absurd ⟨a,b⟩ h1
 | 2,_,a,b=>exact ⟨a,b⟩
noncomputable def m6 (l p : T3) : T3:=(F8 (pick l p)).cross l
theorem bh9 (hl : ¬ l.None) (hp : ¬ p.None) : ¬ (m6 l p).None ∧ ¬ T3.Same (m6 l p) p:=bb7 hl hp
theorem a84 (u v : T3) : u.cross v = (v.cross u).smul (-1):=by
 ext <;> simp only [T3.cross,T3.smul] <;> grind
theorem bk9 : ak0 l p i ↔ (¬ (l.cross (F8 i)).None ∧ ¬ T3.Same (l.cross (F8 i)) p):=by
 have k : T3.Like (l.cross (F8 i)) ((F8 i).cross l):=⟨-1,by decide,a84 _ _⟩
 unfold ak0
 rw [k.none,k.same T3.Like.rfl]
theorem cx0 (hd : k.mat.det ≠ 0) (hl : ¬ l.None) (hp : ¬ p.None) (h0 : k.bl p p = 0) : am3 k p (m6 l p) = (k.sec p (l.cross (F8 (pick l p)))).normal:=by
 have hs : ¬ T3.Same p (m6 l p):=fun e=>(bh9 hl hp).2 (T3.same_symm e)
 rw [dr7 hd hs h0]
 exact (T3.normal_like (cn4 (l:=l) h0 hs (a84 _ _))).symm
theorem cd1 (hd : k.mat.det ≠ 0) (hl : ¬ l.None) (hp : ¬ p.None) (h0 : k.bl p p = 0) : ¬ (k.sec p (l.cross (F8 (pick l p)))).None:=by
 have hs : ¬ T3.Same p (m6 l p):=fun e=>(bh9 hl hp).2 (T3.same_symm e)
 exact fun e=>dd2 hd hs h0 ((cn4 (l:=l) h0 hs (a84 _ _)).none.1 e)
namespace C6
def prod (l m : T3) : C6:=⟨l.x * m.x,l.y * m.y,l.z * m.z,l.y * m.z + l.z * m.y,l.z * m.x + l.x * m.z,l.x * m.y + l.y * m.x⟩
def comb (y : Rat) (a : C6) (x : Rat) (b : C6) : C6:=⟨y * a.a + -(x * b.a),y * a.b + -(x * b.b),y * a.c + -(x * b.c),y * a.f + -(x * b.f),y * a.g + -(x * b.g),y * a.h + -(x * b.h)⟩
end C6
structure P5 where
 p0 : T3
 p1 : T3
 p2 : T3
 p3 : T3
 p4 : T3
namespace P5
def ca (s : P5) : C6:=C6.prod (s.p0.cross s.p1) (s.p2.cross s.p3)
def cb (s : P5) : C6:=C6.prod (s.p0.cross s.p2) (s.p1.cross s.p3)
def con (s : P5) : C6:=C6.comb (s.cb.val s.p4) s.ca (s.ca.val s.p4) s.cb
end P5
namespace P5
def list (s : P5) : List T3:=[s.p0,s.p1,s.p2,s.p3,s.p4]
def at' (s : P5) (i : Nat) : T3:=s.list.getD i ⟨0,0,0⟩
open Classical in
noncomputable def cnt (u v : T3) (l : List T3) : Nat:=l.countP fun p=>decide (T3.Flat u v p)
noncomputable def on (s : P5) (u v : T3) : Nat:=cnt u v s.list
end P5
namespace C6
noncomputable def lead (k : C6) : Rat:=Y0 k.list
def over (k : C6) (x : Rat) : C6:=⟨k.a / x,k.b / x,k.c / x,k.f / x,k.g / x,k.h / x⟩
noncomputable def normal (k : C6) : C6:=k.over k.lead
theorem dy8 (h : ¬ ah4 k.list) : 0 ≤ U4 ar5 k.list 0:=an8.1 (Classical.not_not.1 h)
theorem lead_ne (h : ¬ ah4 k.list) : k.lead ≠ 0:=by
 obtain ⟨j,e1,e2,e3⟩:=a57 (dy8 h)
 unfold lead Y0
 rw [e1]
 simpa using e3
def ci (k : C6) (B : Nat) : Prop:=∃ a b c f g h : Int,k = ⟨(a : Rat),(b : Rat),(c : Rat),(f : Rat),(g : Rat),(h : Rat)⟩ ∧ a.natAbs ≤ B ∧ b.natAbs ≤ B ∧ c.natAbs ≤ B ∧ f.natAbs ≤ B ∧ g.natAbs ≤ B ∧ h.natAbs ≤ B
theorem ci_list (h : ci k B) : ∀ x ∈ k.list,∃ z : Int,x = (z : Rat) ∧ z.natAbs ≤ B:=by
 obtain ⟨a,b,c,f,g,h,rfl,h1,h2,h3,h4,h5,h6⟩:=h
 intro x hx
 simp only [list,List.mem_cons,List.not_mem_nil,or_false] at hx
 rcases hx with rfl | rfl | rfl | rfl | rfl | rfl
 ·exact ⟨_,rfl,h1⟩
 ·exact ⟨_,rfl,h2⟩
 ·exact ⟨_,rfl,h3⟩
 ·exact ⟨_,rfl,h4⟩
 ·exact ⟨_,rfl,h5⟩
 exact ⟨_,rfl,h6⟩
theorem cl_of (h : ∀ x ∈ k.list,rl x n) : cl k n:=⟨h _ (by simp [list]),h _ (by simp [list]),h _ (by simp [list]),h _ (by simp [list]),h _ (by simp [list]),h _ (by simp [list])⟩
theorem mi_mat (h : ci k B) : mi k.mat (2 * B):=by
 obtain ⟨a,b,c,f,g,h,rfl,h1,h2,h3,h4,h5,h6⟩:=h
 exact ⟨⟨2 * a,h,g,by simp only [mat,Rat.intCast_mul]; rfl,by omega,by omega,by omega⟩,⟨h,2 * b,f,by simp only [mat,Rat.intCast_mul]; rfl,by omega,by omega,by omega⟩,⟨g,f,2 * c,by simp only [mat,Rat.intCast_mul]; rfl,by omega,by omega,by omega⟩⟩
end C6
theorem b18 (h : cl k n) (hn : n ≤ 4) (hs : ¬ ah4 k.list) : as9 k = 0:=by
 have hL : ¬ am8 k.list:=by
  rintro ⟨x,hx,hl⟩
  exact bi0 (bg0 h x hx) hn hl
 unfold as9 bc6
 rw [if_neg hs,if_neg hL]
theorem cj0 (hd : k.mat.det ≠ 0) (hp : ¬ p.None) : ¬ (k.mat.apply p).None:=fun h=>hp ((M3.apply_none hd).1 h)
abbrev ch6 (m : M3) (a1 a2 a3 b1 b2 b3 c1 c2 c3 : Value) : Gh:=⟨fun S w=>QMapC S w m a1 a2 a3 b1 b2 b3 c1 c2 c3,fun h k=>⟨h.a1.keep k,h.a2.keep k,h.a3.keep k,h.b1.keep k,h.b2.keep k,h.b3.keep k,h.c1.keep k,h.c2.keep k,h.c3.keep k⟩,fun h k=>⟨h.a1.mono k,h.a2.mono k,h.a3.mono k,h.b1.mono k,h.b2.mono k,h.b3.mono k,h.c1.mono k,h.c2.mono k,h.c3.mono k⟩⟩
theorem a60 (hS : Up S w) (h : QConV S w v k) (hl : cl k n) (hn : n ≤ 700) :
  Gives prog 17 [v] w fun v' w'=>Ext w w' ∧ ConV S w' v' k:=by
 obtain ⟨c1,c2,c3,c4,c5,c6,rfl,hk⟩:=h
 refine n4 (E:=env) (S0:=S) (G:=(bu6 k c1 c2 c3 c4 c5 c6)) (l:=[.agg [.ag 4 c1,.ag 4 c2,.ag 4 c3,.ag 4 c4,.ag 4 c5,.ag 4 c6]]) func17 rfl rfl rfl ⟨hk.ok _,trivial⟩ rfl hk ?_
 refine i1 ?_
 refine o6 3 n5 k.a (fun _ S w g _ _ d=>(kx (ap8 g d.c1 hl.1 hn))) ?_
 intro x0
 refine i1 ?_
 refine o6 3 n5 k.b (fun _ S w g _ _ d=>(kx (ap8 g d.2.c2 hl.2.1 hn))) ?_
 intro x1
 refine i1 ?_
 refine o6 3 n5 k.c (fun _ S w g _ _ d=>(kx (ap8 g d.2.2.c3 hl.2.2.1 hn))) ?_
 intro x2
 refine i1 ?_
 refine o6 3 n5 k.f (fun _ S w g _ _ d=>(kx (ap8 g d.2.2.2.c4 hl.2.2.2.1 hn))) ?_
 intro x3
 refine i1 ?_
 refine o6 3 n5 k.g (fun _ S w g _ _ d=>(kx (ap8 g d.2.2.2.2.c5 hl.2.2.2.2.1 hn))) ?_
 intro x4
 refine i1 ?_
 refine o6 3 n5 k.h (fun _ S w g _ _ d=>(kx (ap8 g d.2.2.2.2.2.c6 hl.2.2.2.2.2 hn))) ?_
 intro x5
 refine i1 ?_
 exact j9 (dw6 x0 x1 x2 x3 x4 x5) rfl (fun S w g d s=>have hk:=s.2.2.2.2.2.2; ⟨d,(ConC.mono (k:=k) ⟨s.2.2.2.2.2.1,s.2.2.2.2.1,s.2.2.2.1,s.2.2.1,s.2.1,s.1⟩ fun k _ hk=>g k hk).con⟩)
theorem cb8 (h : M9 p = 0) : ¬ p.None:=fun g=>(bz7 h).1 (bs8.2 g)
theorem bn4 {p : Value} {x : Rat} (h : (C0 u t).p S w) (hx : t.list[i]? = some x) (hp : p = n7 u (i * 3)) : ∃ S' y,P6 true 3 y ∧ At S' w p y.cells.toList ∧ (n5 y x).p S w:=by
 subst hp
 obtain ⟨v,h1,h2,h3⟩:=h
 obtain ⟨vs,e1,e2⟩:=TripV.els h3
 have hl : i < vs.length:=by rw [e2.len]; exact (List.getElem?_eq_some_iff.1 hx).1
 have hy : vs[i]? = some vs[i]:=List.getElem?_eq_getElem hl
 rw [e1] at h2
 exact ⟨S,vs[i],e2.lies _ (List.getElem_mem _),h2.part e2.lies hy,e2.el i x _ hx hy⟩
theorem bk6 (h : (C0 u t).p S w) : ∃ b k,u = .pointer (some ⟨b,k,none⟩):=by
 obtain ⟨v,_,⟨b,o,_,_,_,h1,_⟩,_⟩:=h
 exact ⟨b,o,h1⟩
theorem b30 (h : ¬ ak0 l p i) : T3.Same ((F8 i).cross l) p:=by
 refine Classical.byContradiction fun e=>h ⟨fun g=>e ?_,e⟩
 obtain ⟨a,b,c⟩:=g
 simp only [T3.Same,T3.None,T3.cross] at a b c ⊢
 refine ⟨?_,?_,?_⟩ <;> grind
theorem cd8 {u0 u1 u2 : Value} (ht : Tab w) (hS : Up S w) (o0 : u0.oneCell' = true) (o1 : u1.oneCell' = true) (o2 : u2.oneCell' = true) (h0 : (cv8 u0 k).p S w) (h1 : (C0 u1 p).p S w) (h2 : (C0 u2 l).p S w) (hl : cl k n) (hm : tl p m) (hm2 : tl l m) (hn : n ≤ 20) (hmm : m ≤ 20) (hR : tl (am3 k p (m6 l p)) r) (hr2 : r ≤ 3344)
  (e1 : as9 k = 0) (e2 : M9 p = 0) (e3 : M9 l = 0) (e4 : ¬ k.mat.det = 0) (e5 : k.val p = 0) (e6 : p.dot l = 0) :
  Gives prog 54 [u0,u1,u2] w fun v' w'=>Ext w w' ∧ TripV S w' v' (am3 k p (m6 l p)):=by
 have P0:=cb8 e2
 have L0:=cb8 e3
 have AX : ∀ i,tl (F8 i) 1:=fun i=>by unfold F8; split <;> exact ⟨I9 (by decide) (by decide),I9 (by decide) (by decide),I9 (by decide) (by decide)⟩
 have QX : ∀ i,tl ((F8 i).cross l) (2 * (1 + m) + 1):=fun i=>q7 (AX i) hm2
 have Q0 : tl (m6 l p) (2 * (1 + m) + 1):=QX _
 have PG:=bb7 L0 P0
 have B1 : rl (k.bl p (m6 l p)) (3 * ((3 * ((n + 1) + m) + 2) + (2 * (1 + m) + 1)) + 2):=az9 (Q7 (aa2 hl) hm) Q0
 have B2 : rl (2 * k.bl p (m6 l p)) (1 + (3 * ((3 * ((n + 1) + m) + 2) + (2 * (1 + m) + 1)) + 2)):=r5 az5 B1
 have B3 : rl (k.bl (m6 l p) (m6 l p)) (3 * ((3 * ((n + 1) + (2 * (1 + m) + 1)) + 2) + (2 * (1 + m) + 1)) + 2):=az9 (Q7 (aa2 hl) Q0) Q0
 refine n4 (E:=env) (S0:=S) (G:=((cv8 u0 k).and ((C0 u1 p).and (C0 u2 l)))) (l:=[.one (.val u0),.one (.val u1),.one (.val u2)]) func54 rfl rfl rfl ⟨o0,o1,o2,trivial⟩ rfl ⟨h0,h1,h2⟩ ?_
 refine o7 (r8 u0 60 18 true (fun x0=>.one (.ag 18 x0)) (fun x0=>al3 x0 k) (fun _ S w _ _ g=>let ⟨y,e1,e2,e3⟩:=g.1; ⟨S,y,e1,e2,e3⟩) ?_)
 intro x0
 refine n9 (.und) rfl (fun _ S w g _ d s=>(kx (bq5 (ht.to d) g s.1 hl (by omega) e1))) ?_
 refine o7 (r8 u1 55 9 true (fun x0=>.one (.ag 9 x0)) (fun x0=>j5 x0 p) (fun _ S w _ _ g=>let ⟨y,e1,e2,e3⟩:=g.2.2.1; ⟨S,y,e1,e2,e3⟩) ?_)
 intro x1
 refine o7 (r8 u2 55 9 true (fun x0=>.one (.ag 9 x0)) (fun x0=>j5 x0 l) (fun _ S w _ _ g=>let ⟨y,e1,e2,e3⟩:=g.2.2.2.2; ⟨S,y,e1,e2,e3⟩) ?_)
 intro x2
 refine ag7 (.und) rfl (fun _ S w g d _ s t=>(kx (ab8 (ht.to s) (A4 g) (Q5 1 55 [x1,x2] d (by kernel_rfl) (ce3 t.2.1 t.1) (show 2 ≤ maxLen by decide)) (be1 (N3 hm (by omega)) (N3 hm2 (by omega))) (be1 e2 e3)))) ?_
 refine o7 (r8 u0 60 18 true (fun x0=>.one (.ag 18 x0)) (fun x0=>al3 x0 k) (fun _ S w _ _ g=>let ⟨y,e1,e2,e3⟩:=g.2.2.2.1; ⟨S,y,e1,e2,e3⟩) ?_)
 intro y0
 refine n9 (.one (.bb true)) rfl (fun _ S w g _ _ d=>(kx (gK (a88 g d.1 hl (by omega)) (by rw [j6 e4]; rfl)))) ?_
 refine o7 (r8 u0 60 18 true (fun x0=>.one (.ag 18 x0)) (fun x0=>al3 x0 k) (fun _ S w _ _ g=>let ⟨y,e1,e2,e3⟩:=g.2.2.2.2.1; ⟨S,y,e1,e2,e3⟩) ?_)
 intro z0
 refine o7 (r8 u1 55 9 true (fun x0=>.one (.ag 9 x0)) (fun x0=>j5 x0 p) (fun _ S w _ _ g=>let ⟨y,e1,e2,e3⟩:=g.2.2.2.2.2.2.1; ⟨S,y,e1,e2,e3⟩) ?_)
 intro z1
 refine o6 3 n5 (k.val p) (fun _ S w g _ _ d=>(kx (dv1 g d.2.1 d.1 hl hm (by omega)))) ?_
 intro z2
 refine n9 (.one (.bb true)) rfl (fun _ S w g _ _ d=>(kx (gK (D9 g d.1) (by rw [j6 e5]; rfl)))) ?_
 refine o7 (r8 u1 55 9 true (fun x0=>.one (.ag 9 x0)) (fun x0=>j5 x0 p) (fun _ S w _ _ g=>let ⟨y,e1,e2,e3⟩:=g.2.2.2.2.2.2.2.2.1; ⟨S,y,e1,e2,e3⟩) ?_)
 intro t1
 refine o7 (r8 u2 55 9 true (fun x0=>.one (.ag 9 x0)) (fun x0=>j5 x0 l) (fun _ S w _ _ g=>let ⟨y,e1,e2,e3⟩:=g.2.2.2.2.2.2.2.2.2.2; ⟨S,y,e1,e2,e3⟩) ?_)
 intro t2
 refine o6 3 n5 (p.dot l) (fun _ S w g _ _ d=>(kx (al5 g d.2.1 d.1 hm hm2 (by omega)))) ?_
 intro t3
 refine n9 (.one (.bb true)) rfl (fun _ S w g _ _ d=>(kx (gK (D9 g d.1) (by rw [j6 e6]; rfl)))) ?_
 refine ac3 (ι:=Value) 0 1 [(5,6),(36,54)] (fun X=>[]) (fun X=>[(2,.blk 55 [.ag 3 (cel X 0 3),.ag 3 (cel X 3 3),.ag 3 (cel X 6 3)])]) (fun X g=>(ae9 X (m6 l p)).and g) (fun X=>True) ⟨c8,hS,l8⟩ (by kernel_rfl) (by kernel_rfl) (fun hso0=>?_) (fun X hX=>?_)
 ·refine i1 ?_
  refine o6 3 n5 (1 : Rat) (fun _ S w g _ _ _=>(kx (c97 (z:=1) g (by decide) (by decide)))) ?_
  intro w0
  refine o7 (r8 u2 55 9 true (fun x0=>.one (.ag 9 x0)) (fun x0=>j5 x0 l) (fun _ S w _ _ g=>let ⟨y,e1,e2,e3⟩:=g.2.2.2.2.2.2.2.2.2.2.2.2.2; ⟨S,y,e1,e2,e3⟩) ?_)
  intro l0
  refine ah1 (fun x0=>.agg [.ag 3 (cel x0 0 3),.ag 3 (cel x0 3 3),.ag 3 (cel x0 6 3)]) (fun x0=>ae9 x0 ((F8 0).cross l)) (fun _ _ _ h=>ad5 h) (fun _ S w g _ _ d=>(kx ((S6 (p:=F8 0) g ⟨w0,.agg #[.bool false,.slice none 0 0,.slice none 0 0],.agg #[.bool false,.slice none 0 0,.slice none 0 0],rfl,d.2.1,F2,F2⟩ d.1 (AX _) hm2 (by omega)).mono fun v' w' h=>⟨h.1,b37 h.2⟩))) ?_
  intro X0
  by_cases G0 : ak0 l p 0
  ·have E0 : (F8 0).cross l = m6 l p:=by unfold m6 pick; rw [if_pos G0]
   refine n9 (.one (.bb false)) rfl (fun _ S w g _ _ d=>(kx (gK (Y4 g ⟨_,_,_,rfl,d.1.2.1,d.1.2.2.1,d.1.2.2.2⟩) (by rw [j2 G0.1]; rfl)))) ?_
   refine o7 (r8 u1 55 9 true (fun x0=>.one (.ag 9 x0)) (fun x0=>j5 x0 p) (fun _ S w _ _ g=>let ⟨y,e1,e2,e3⟩:=g.2.2.2.2.2.2.2.2.2.2.2.2.2.2.1; ⟨S,y,e1,e2,e3⟩) ?_)
   intro s0
   refine n9 (.one (.bb false)) rfl (fun _ S w g _ _ d=>(kx (gK (G6 g ⟨_,_,_,rfl,d.2.1.2.1,d.2.1.2.2.1,d.2.1.2.2.2⟩ d.1 (QX _) hm (by omega)) (by rw [j2 G0.2]; rfl)))) ?_
   exact x7 X0 hso0 trivial (fun S w _ g=>⟨I4 trivial,E6 ⟨I2 ⟨g.2.1.2.1.okc,g.2.1.2.2.1.okc,g.2.1.2.2.2.okc,trivial⟩,trivial⟩⟩) (fun S w _ g=>⟨(E0 ▸ g.2.1),g.2.2.2.2⟩)
  refine n9 (.one (.tp ((F8 0).cross l).None)) rfl (fun _ S w g _ _ d=>(kx (Y4 g ⟨_,_,_,rfl,d.1.2.1,d.1.2.2.1,d.1.2.2.2⟩))) ?_
  refine b13 (ι:=Unit) [(45,53)] (fun x=>[(53,.one (.bb false))]) (fun _=>[]) (fun _ g=>g) (fun x=>True) ⟨c8,hS,l8⟩ (by kernel_rfl) (fun hso=>?_) (fun x hx=>?_)
  ·refine O8 (p:=¬ ((F8 0).cross l).None) 48 (fun n0=>?_) (fun n0=>?_)
   ·refine o7 (r8 u1 55 9 true (fun x0=>.one (.ag 9 x0)) (fun x0=>j5 x0 p) (fun _ S w _ _ g=>let ⟨y,e1,e2,e3⟩:=g.2.2.2.2.2.2.2.2.2.2.2.2.2.2.1; ⟨S,y,e1,e2,e3⟩) ?_)
    intro s0
    refine n9 (.one (.bb true)) rfl (fun _ S w g _ _ d=>(kx (gK (G6 g ⟨_,_,_,rfl,d.2.1.2.1,d.2.1.2.2.1,d.2.1.2.2.2⟩ d.1 (QX _) hm (by omega)) (by rw [j6 (b30 G0)]; rfl)))) ?_
    exact x7 () hso trivial (fun S w _ _=>⟨z8 rfl,fun p hp=>by cases hp⟩) (fun S w _ g=>g.2)
   exact x7 () hso trivial (fun S w _ _=>⟨z8 rfl,fun p hp=>by cases hp⟩) (fun S w _ g=>g)
  refine i1 ?_
  refine o6 3 n5 (1 : Rat) (fun _ S w g _ _ _=>(kx (c97 (z:=1) g (by decide) (by decide)))) ?_
  intro w1
  refine o7 (r8 u2 55 9 true (fun x0=>.one (.ag 9 x0)) (fun x0=>j5 x0 l) (fun _ S w _ _ g=>let ⟨y,e1,e2,e3⟩:=g.2.2.2.2.2.2.2.2.2.2.2.2.2.2.2.2; ⟨S,y,e1,e2,e3⟩) ?_)
  intro l1
  refine ah1 (fun x0=>.agg [.ag 3 (cel x0 0 3),.ag 3 (cel x0 3 3),.ag 3 (cel x0 6 3)]) (fun x0=>ae9 x0 ((F8 1).cross l)) (fun _ _ _ h=>ad5 h) (fun _ S w g _ _ d=>(kx ((S6 (p:=F8 1) g ⟨.agg #[.bool false,.slice none 0 0,.slice none 0 0],w1,.agg #[.bool false,.slice none 0 0,.slice none 0 0],rfl,F2,d.2.1,F2⟩ d.1 (AX _) hm2 (by omega)).mono fun v' w' h=>⟨h.1,b37 h.2⟩))) ?_
  intro X1
  by_cases G1 : ak0 l p 1
  ·have E1 : (F8 1).cross l = m6 l p:=by unfold m6 pick; rw [if_neg G0,if_pos G1]
   refine n9 (.one (.bb false)) rfl (fun _ S w g _ _ d=>(kx (gK (Y4 g ⟨_,_,_,rfl,d.1.2.1,d.1.2.2.1,d.1.2.2.2⟩) (by rw [j2 G1.1]; rfl)))) ?_
   refine o7 (r8 u1 55 9 true (fun x0=>.one (.ag 9 x0)) (fun x0=>j5 x0 p) (fun _ S w _ _ g=>let ⟨y,e1,e2,e3⟩:=g.2.2.2.2.2.2.2.2.2.2.2.2.2.2.2.2.2.1; ⟨S,y,e1,e2,e3⟩) ?_)
   intro s1
   refine n9 (.one (.bb false)) rfl (fun _ S w g _ _ d=>(kx (gK (G6 g ⟨_,_,_,rfl,d.2.1.2.1,d.2.1.2.2.1,d.2.1.2.2.2⟩ d.1 (QX _) hm (by omega)) (by rw [j2 G1.2]; rfl)))) ?_
   exact x7 X1 hso0 trivial (fun S w _ g=>⟨I4 trivial,E6 ⟨I2 ⟨g.2.1.2.1.okc,g.2.1.2.2.1.okc,g.2.1.2.2.2.okc,trivial⟩,trivial⟩⟩) (fun S w _ g=>⟨(E1 ▸ g.2.1),g.2.2.2.2.2.2.2⟩)
  refine n9 (.one (.tp ((F8 1).cross l).None)) rfl (fun _ S w g _ _ d=>(kx (Y4 g ⟨_,_,_,rfl,d.1.2.1,d.1.2.2.1,d.1.2.2.2⟩))) ?_
  refine b13 (ι:=Unit) [(45,53)] (fun x=>[(53,.one (.bb false))]) (fun _=>[]) (fun _ g=>g) (fun x=>True) ⟨c8,hS,l8⟩ (by kernel_rfl) (fun hso=>?_) (fun x hx=>?_)
  ·refine O8 (p:=¬ ((F8 1).cross l).None) 48 (fun n1=>?_) (fun n1=>?_)
   ·refine o7 (r8 u1 55 9 true (fun x0=>.one (.ag 9 x0)) (fun x0=>j5 x0 p) (fun _ S w _ _ g=>let ⟨y,e1,e2,e3⟩:=g.2.2.2.2.2.2.2.2.2.2.2.2.2.2.2.2.2.1; ⟨S,y,e1,e2,e3⟩) ?_)
    intro s1
    refine n9 (.one (.bb true)) rfl (fun _ S w g _ _ d=>(kx (gK (G6 g ⟨_,_,_,rfl,d.2.1.2.1,d.2.1.2.2.1,d.2.1.2.2.2⟩ d.1 (QX _) hm (by omega)) (by rw [j6 (b30 G1)]; rfl)))) ?_
    exact x7 () hso trivial (fun S w _ _=>⟨z8 rfl,fun p hp=>by cases hp⟩) (fun S w _ g=>g.2)
   exact x7 () hso trivial (fun S w _ _=>⟨z8 rfl,fun p hp=>by cases hp⟩) (fun S w _ g=>g)
  refine i1 ?_
  refine o6 3 n5 (1 : Rat) (fun _ S w g _ _ _=>(kx (c97 (z:=1) g (by decide) (by decide)))) ?_
  intro w2
  refine o7 (r8 u2 55 9 true (fun x0=>.one (.ag 9 x0)) (fun x0=>j5 x0 l) (fun _ S w _ _ g=>let ⟨y,e1,e2,e3⟩:=g.2.2.2.2.2.2.2.2.2.2.2.2.2.2.2.2.2.2.2; ⟨S,y,e1,e2,e3⟩) ?_)
  intro l2
  refine ah1 (fun x0=>.agg [.ag 3 (cel x0 0 3),.ag 3 (cel x0 3 3),.ag 3 (cel x0 6 3)]) (fun x0=>ae9 x0 ((F8 2).cross l)) (fun _ _ _ h=>ad5 h) (fun _ S w g _ _ d=>(kx ((S6 (p:=F8 2) g ⟨.agg #[.bool false,.slice none 0 0,.slice none 0 0],.agg #[.bool false,.slice none 0 0,.slice none 0 0],w2,rfl,F2,F2,d.2.1⟩ d.1 (AX _) hm2 (by omega)).mono fun v' w' h=>⟨h.1,b37 h.2⟩))) ?_
  intro X2
  have E2 : (F8 2).cross l = m6 l p:=by unfold m6 pick; rw [if_neg G0,if_neg G1]
  have G2 : ak0 l p 2:=by have g:=PG; unfold pick at g; rw [if_neg G0,if_neg G1] at g; exact g
  refine n9 (.one (.bb false)) rfl (fun _ S w g _ _ d=>(kx (gK (Y4 g ⟨_,_,_,rfl,d.1.2.1,d.1.2.2.1,d.1.2.2.2⟩) (by rw [j2 G2.1]; rfl)))) ?_
  refine o7 (r8 u1 55 9 true (fun x0=>.one (.ag 9 x0)) (fun x0=>j5 x0 p) (fun _ S w _ _ g=>let ⟨y,e1,e2,e3⟩:=g.2.2.2.2.2.2.2.2.2.2.2.2.2.2.2.2.2.2.2.2.1; ⟨S,y,e1,e2,e3⟩) ?_)
  intro s2
  refine n9 (.one (.bb false)) rfl (fun _ S w g _ _ d=>(kx (gK (G6 g ⟨_,_,_,rfl,d.2.1.2.1,d.2.1.2.2.1,d.2.1.2.2.2⟩ d.1 (QX _) hm (by omega)) (by rw [j2 G2.2]; rfl)))) ?_
  exact x7 X2 hso0 trivial (fun S w _ g=>⟨I4 trivial,E6 ⟨I2 ⟨g.2.1.2.1.okc,g.2.1.2.2.1.okc,g.2.1.2.2.2.okc,trivial⟩,trivial⟩⟩) (fun S w _ g=>⟨(E2 ▸ g.2.1),g.2.2.2.2.2.2.2.2.2.2⟩)
 refine o7 (r8 u0 60 18 true (fun x0=>.one (.ag 18 x0)) (fun x0=>al3 x0 k) (fun _ S w _ _ g=>let ⟨y,e1,e2,e3⟩:=g.2.2.2.2.2.2.2.2.2.2.2.1; ⟨S,y,e1,e2,e3⟩) ?_)
 intro f1
 refine o6 27 cu6 k.mat (fun _ S w g _ _ d=>(kx (ci7 g d.1 hl (by omega)))) ?_
 intro M
 refine a8 14 ?_
 refine f4 3 n5 (2 : Rat) (fun _ _ S w g _ _ _ _=>(kx (c97 (z:=2) g (by decide) (by decide)))) ?_
 refine a6 1 ?_
 refine dh0 (fun _=>u1) 55 9 true (fun x0=>.one (.ag 9 x0)) (fun x0=>j5 x0 p) (fun _=>(by kernel_rfl)) (fun _=>(by kernel_rfl)) ⟨c8,hS,l8⟩ (fun _ _ _ h=>⟨h.ok,rfl⟩) (fun _ _ S w _ _ g _=>let ⟨y,e1,e2,e3⟩:=g.2.2.2.2.2.2.2.2.2.2.2.2.2.2.1; ⟨S,y,e1,e2,e3⟩) ?_
 refine f4 9 j5 (k.mat.apply p) (fun _ g S w d _ _ s t=>(kx (bh6 d s.1 (j8 t 2 : (j5 (g 2) p).p S w) (aa2 hl) hm (by omega)))) ?_
 refine a6 1 ?_
 refine f4 3 n5 (k.bl p (m6 l p)) (fun _ g S w d _ _ s t=>(kx (al5 d (j8 t 3 : (j5 (g 3) (k.mat.apply p)).p S w) ⟨_,_,_,rfl,s.2.2.1.2.1,s.2.2.1.2.2.1,s.2.2.1.2.2.2⟩ (Q7 (aa2 hl) hm) Q0 (by omega)))) ?_
 refine f4 3 n5 (2 * k.bl p (m6 l p)) (fun _ g S w d _ _ _ s=>(kx (A9 d (j8 s 0 : (n5 (g 0) (2 : Rat)).p S w) (j8 s 5 : (n5 (g 5) (k.bl p (m6 l p))).p S w) az5 B1 (by omega)))) ?_
 refine a6 2 ?_
 refine f4 9 j5 (k.mat.apply (m6 l p)) (fun _ _ S w g _ _ d _=>(kx (bh6 g d.1 ⟨_,_,_,rfl,d.2.2.1.2.1,d.2.2.1.2.2.1,d.2.2.1.2.2.2⟩ (aa2 hl) Q0 (by omega)))) ?_
 refine a6 1 ?_
 refine f4 3 n5 (k.bl (m6 l p) (m6 l p)) (fun _ g S w d _ _ s t=>(kx (al5 d (j8 t 9 : (j5 (g 9) (k.mat.apply (m6 l p))).p S w) ⟨_,_,_,rfl,s.2.2.1.2.1,s.2.2.1.2.2.1,s.2.2.1.2.2.2⟩ (Q7 (aa2 hl) Q0) Q0 (by omega)))) ?_
 refine a6 2 ?_
 refine H5 5 (gd (gd (gk (gd (gd (gd (gd (gd (gd (gd (gd (gd (gd (gd g0)))))))))))))) (fun g d=>(n5 (d 11) (k.bl (m6 l p) (m6 l p))).and ((n5 (d 6) (2 * k.bl p (m6 l p))).and g)) (by kernel_rfl) (fun g _=>(by kernel_rfl)) ?_
 intro η_1
 by_cases b : k.bl p (m6 l p) = 0
 ·have b2 : 2 * k.bl p (m6 l p) = 0:=by rw [b,Rat.mul_zero]
  have S1 : am3 k p (m6 l p) = p.normal:=by unfold am3; rw [if_pos b]
  refine n9 (.one (.bb true)) rfl (fun _ S w g _ _ d=>(kx (gK (D9 g d.2.1) (by rw [j6 b2]; rfl)))) ?_
  refine o7 (r8 u1 55 9 true (fun x0=>.one (.ag 9 x0)) (fun x0=>j5 x0 p) (fun _ S w _ _ g=>let ⟨y,e1,e2,e3⟩:=g.2.2.2.1; ⟨S,y,e1,e2,e3⟩) ?_)
  intro v1
  refine o6 9 j5 p.normal (fun _ S w g _ _ d=>(kx (ba3 g d.1 P0 (N3 hm (by omega)) (b01 (S1 ▸ hR) hr2)))) ?_
  intro v2
  exact j9 v2 rfl (fun S w g d s=>⟨d,by rw [S1]; exact s.1.mono fun k _ hk=>g k hk⟩)
 have b2 : ¬ 2 * k.bl p (m6 l p) = 0:=fun g=>b ((Rat.mul_eq_zero.1 g).resolve_left (by decide))
 have X1:=al8 B3 B2 (X5 b2)
 have S1 : am3 k p (m6 l p) = (T3.lin (-(k.bl (m6 l p) (m6 l p) / (2 * k.bl p (m6 l p)))) p 1 (m6 l p)).normal:=by unfold am3; rw [if_neg b]
 have LE : ∀ {a x y : Rat},ax2 [a * x,y] = a * x + 1 * y:=fun {a x y}=>by rw [ct3]; grind
 have TL : tl (T3.lin (-(k.bl (m6 l p) (m6 l p) / (2 * k.bl p (m6 l p)))) p 1 (m6 l p)) 400000000000:=by
  have g : ∀ {x y : Rat},rl x m → rl y (2 * (1 + m) + 1) → rl (-(k.bl (m6 l p) (m6 l p) / (2 * k.bl p (m6 l p))) * x + 1 * y) 400000000000:=fun a c=>f5 (ae3 (r5 (ab5 X1) a) (r5 dx3 c))
  exact ⟨g hm.1 Q0.1,g hm.2.1 Q0.2.1,g hm.2.2 Q0.2.2⟩
 have LN : ¬ (T3.lin (-(k.bl (m6 l p) (m6 l p) / (2 * k.bl p (m6 l p)))) p 1 (m6 l p)).None:=T3.lin_none (fun e=>PG.2 (T3.same_symm e)) (fun g=>absurd g.2 (by decide))
 refine n9 (.one (.bb false)) rfl (fun _ S w g _ _ d=>(kx (gK (D9 g d.2.1) (by rw [j2 b2]; rfl)))) ?_
 refine ah1 (fun x0=>pr (.ag 3 (N6 x0)) (.lit .i64 0)) (fun x0=>ax3 x0 (k.bl (m6 l p) (m6 l p) / (2 * k.bl p (m6 l p))) 0) (fun _ _ _ h=>aj7 h) (fun _ S w g _ _ d=>(kx (bj3 (af1 X1 (by omega)) (bk0 g d.1 d.2.1 (f5 B3) (f5 B2) (X5 b2))))) ?_
 intro v1
 refine o6 3 n5 (k.bl (m6 l p) (m6 l p) / (2 * k.bl p (m6 l p))) (fun _ S w g _ _ d=>(kx (aq1 g d.1.2))) ?_
 intro v2
 refine o6 3 n5 (-(k.bl (m6 l p) (m6 l p) / (2 * k.bl p (m6 l p)))) (fun _ S w _ _ _ g=>(kx (ba5 g.1))) ?_
 intro v3
 refine i1 ?_
 refine a8 11 ?_
 refine a6 3 ?_
 refine s3 u1 3 0 3 (by decide) (by decide) (fun _ _ S w _ _ g _=>bk6 g.2.2.2.2.2.2.1) ?_
 refine p7 3 53 3 n5 p.x (fun _ g S w _ _ d s=>bn4 d.2.2.2.2.2.2.1 (i:=0) rfl (j8 s 3 : (o8 ((g 3) = n7 u1 (Int.toNat 0 * 3))).p S w)) ?_
 refine f4 3 n5 (-(k.bl (m6 l p) (m6 l p) / (2 * k.bl p (m6 l p))) * p.x) (fun _ g S w d _ _ s t=>(kx (A9 d s.1 (j8 t 4 : (n5 (g 4) p.x).p S w) (ab5 X1) hm.1 (by omega)))) ?_
 refine a6 3 ?_
 refine ab7 53 3 2 (fun x0=>N5 x0 [-(k.bl (m6 l p) (m6 l p) / (2 * k.bl p (m6 l p))) * p.x,(m6 l p).x]) ⟨c8,hS,l8⟩ (fun _=>(by kernel_rfl)) (fun _ g S w x0 w' _ _ _ d s t hrow=>bn7 ((j8 s 5 : (n5 (g 5) (-(k.bl (m6 l p) (m6 l p) / (2 * k.bl p (m6 l p))) * p.x)).p S w).to t) (d.2.2.2.2.2.1.2.1.to t) (kc hrow (by kernel_rfl))) ?_
 refine f4 3 n5 (-(k.bl (m6 l p) (m6 l p) / (2 * k.bl p (m6 l p))) * p.x + 1 * (m6 l p).x) (fun _ g S w d _ _ _ s=>(kx (ae2 (m:=20 + (3 * ((3 * ((n + 1) + (2 * (1 + m) + 1)) + 2) + (2 * (1 + m) + 1)) + 2) + (1 + (3 * ((3 * ((n + 1) + m) + 2) + (2 * (1 + m) + 1)) + 2))) LE d (j8 s 9 : (N5 (g 9) [-(k.bl (m6 l p) (m6 l p) / (2 * k.bl p (m6 l p))) * p.x,(m6 l p).x]).p S w) (be6 (f5 (r5 (ab5 X1) hm.1)) (f5 Q0.1)) (by simp only [List.length]; omega)))) ?_
 refine H5 1 (gk (gd (gd (gd (gd g0))))) (fun g d=>(n5 (d 10) (-(k.bl (m6 l p) (m6 l p) / (2 * k.bl p (m6 l p))) * p.x + 1 * (m6 l p).x)).and g) (by kernel_rfl) (fun g _=>(by kernel_rfl)) ?_
 intro η_2
 refine i1 ?_
 refine a8 11 ?_
 refine a6 3 ?_
 refine s3 u1 3 1 3 (by decide) (by decide) (fun _ _ S w _ _ g _=>bk6 g.2.2.2.1) ?_
 refine p7 3 53 3 n5 p.y (fun _ g S w _ _ d s=>bn4 d.2.2.2.1 (i:=1) rfl (j8 s 3 : (o8 ((g 3) = n7 u1 (Int.toNat 1 * 3))).p S w)) ?_
 refine f4 3 n5 (-(k.bl (m6 l p) (m6 l p) / (2 * k.bl p (m6 l p))) * p.y) (fun _ g S w d _ _ s t=>(kx (A9 d s.2.1 (j8 t 4 : (n5 (g 4) p.y).p S w) (ab5 X1) hm.2.1 (by omega)))) ?_
 refine a6 3 ?_
 refine ab7 53 3 2 (fun x0=>N5 x0 [-(k.bl (m6 l p) (m6 l p) / (2 * k.bl p (m6 l p))) * p.y,(m6 l p).y]) ⟨c8,hS,l8⟩ (fun _=>(by kernel_rfl)) (fun _ g S w x0 w' _ _ _ d s t hrow=>bn7 ((j8 s 5 : (n5 (g 5) (-(k.bl (m6 l p) (m6 l p) / (2 * k.bl p (m6 l p))) * p.y)).p S w).to t) (d.2.2.1.2.2.1.to t) (kc hrow (by kernel_rfl))) ?_
 refine f4 3 n5 (-(k.bl (m6 l p) (m6 l p) / (2 * k.bl p (m6 l p))) * p.y + 1 * (m6 l p).y) (fun _ g S w d _ _ _ s=>(kx (ae2 (m:=20 + (3 * ((3 * ((n + 1) + (2 * (1 + m) + 1)) + 2) + (2 * (1 + m) + 1)) + 2) + (1 + (3 * ((3 * ((n + 1) + m) + 2) + (2 * (1 + m) + 1)) + 2))) LE d (j8 s 9 : (N5 (g 9) [-(k.bl (m6 l p) (m6 l p) / (2 * k.bl p (m6 l p))) * p.y,(m6 l p).y]).p S w) (be6 (f5 (r5 (ab5 X1) hm.2.1)) (f5 Q0.2.1)) (by simp only [List.length]; omega)))) ?_
 refine b6 1 (fun g d=>(n5 (d 10) (-(k.bl (m6 l p) (m6 l p) / (2 * k.bl p (m6 l p))) * p.y + 1 * (m6 l p).y)).and g) (fun g _=>(by kernel_rfl)) ?_
 intro η_3
 refine i1 ?_
 refine a8 11 ?_
 refine a6 3 ?_
 refine s3 u1 3 2 3 (by decide) (by decide) (fun _ _ S w _ _ g _=>bk6 g.2.2.2.2.1) ?_
 refine p7 3 53 3 n5 p.z (fun _ g S w _ _ d s=>bn4 d.2.2.2.2.1 (i:=2) rfl (j8 s 3 : (o8 ((g 3) = n7 u1 (Int.toNat 2 * 3))).p S w)) ?_
 refine f4 3 n5 (-(k.bl (m6 l p) (m6 l p) / (2 * k.bl p (m6 l p))) * p.z) (fun _ g S w d _ _ s t=>(kx (A9 d s.2.2.1 (j8 t 4 : (n5 (g 4) p.z).p S w) (ab5 X1) hm.2.2 (by omega)))) ?_
 refine a6 3 ?_
 refine ab7 53 3 2 (fun x0=>N5 x0 [-(k.bl (m6 l p) (m6 l p) / (2 * k.bl p (m6 l p))) * p.z,(m6 l p).z]) ⟨c8,hS,l8⟩ (fun _=>(by kernel_rfl)) (fun _ g S w x0 w' _ _ _ d s t hrow=>bn7 ((j8 s 5 : (n5 (g 5) (-(k.bl (m6 l p) (m6 l p) / (2 * k.bl p (m6 l p))) * p.z)).p S w).to t) (d.2.2.2.1.2.2.2.to t) (kc hrow (by kernel_rfl))) ?_
 refine f4 3 n5 (-(k.bl (m6 l p) (m6 l p) / (2 * k.bl p (m6 l p))) * p.z + 1 * (m6 l p).z) (fun _ g S w d _ _ _ s=>(kx (ae2 (m:=20 + (3 * ((3 * ((n + 1) + (2 * (1 + m) + 1)) + 2) + (2 * (1 + m) + 1)) + 2) + (1 + (3 * ((3 * ((n + 1) + m) + 2) + (2 * (1 + m) + 1)) + 2))) LE d (j8 s 9 : (N5 (g 9) [-(k.bl (m6 l p) (m6 l p) / (2 * k.bl p (m6 l p))) * p.z,(m6 l p).z]).p S w) (be6 (f5 (r5 (ab5 X1) hm.2.2)) (f5 Q0.2.2)) (by simp only [List.length]; omega)))) ?_
 refine b6 1 (fun g d=>(n5 (d 10) (-(k.bl (m6 l p) (m6 l p) / (2 * k.bl p (m6 l p))) * p.z + 1 * (m6 l p).z)).and g) (fun g _=>(by kernel_rfl)) ?_
 intro η_4
 refine i1 ?_
 refine o6 9 j5 ((T3.lin (-(k.bl (m6 l p) (m6 l p) / (2 * k.bl p (m6 l p)))) p 1 (m6 l p)).normal) (fun _ S w g _ _ d=>(kx (ba3 g ⟨_,_,_,rfl,d.2.2.1,d.2.1,d.1⟩ LN TL (b01 (S1 ▸ hR) hr2)))) ?_
 intro v4
 exact j9 v4 rfl (fun S w g d s=>⟨d,by rw [S1]; exact s.1.mono fun k _ hk=>g k hk⟩)
end Go.Proofs.YtmkhgjccoolfjaaGreatDoor
end

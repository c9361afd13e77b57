/- Part 6. -/
import Derived.Test.YtmkhgjccoolfjaaGreatDoorPoles3
import Derived.Test.YtmkhgjccoolfjaaGreatDoorPoles5
set_option linter.unusedSectionVars false
set_option linter.unusedSimpArgs false
set_option linter.unusedVariables false
set_option maxRecDepth 100000
set_option maxHeartbeats 8000000
section
namespace Go.Proofs.YtmkhgjccoolfjaaGreatDoor
open Go Tryz
structure M3 where
 a : T3
 b : T3
 c : T3
namespace T3
def smul (k : Rat) (p : T3) : T3:=⟨k * p.x,k * p.y,k * p.z⟩
theorem bi1 (k l : Rat) (p q : T3) : (p.smul k).cross (q.smul l) = (p.cross q).smul (k * l):=by
 ext <;> simp only [smul,cross] <;> grind
theorem by3 (k l : Rat) (p q : T3) : (p.smul k).dot (q.smul l) = k * l * p.dot q:=by
 simp only [smul,dot]; grind
theorem smul_none {k : Rat} (hk : k ≠ 0) {p : T3} : (p.smul k).None ↔ p.None:=by
 unfold None smul
 simp only [Rat.mul_eq_zero,hk,false_or]
theorem cu2 {k l m : Rat} (hk : k ≠ 0) (hl : l ≠ 0) (hm : m ≠ 0) {p q r : T3} : Flat (p.smul k) (q.smul l) (r.smul m) ↔ Flat p q r:=by
 unfold Flat
 rw [bi1,by3]
 constructor
 ·intro h
  rcases Rat.mul_eq_zero.1 h with h | h
  ·rcases Rat.mul_eq_zero.1 h with h | h
   ·rcases Rat.mul_eq_zero.1 h with h | h
    ·exact absurd h hk
    exact absurd h hl
   exact absurd h hm
  exact h
 intro h; rw [h,Rat.mul_zero]
def Like (p q : T3) : Prop:=∃ k,k ≠ 0 ∧ p = q.smul k
theorem cv6 (k l : Rat) (p : T3) : (p.smul k).smul l = p.smul (l * k):=by
 ext <;> simp only [smul] <;> grind
theorem c21 (p : T3) : p.smul 1 = p:=by
 ext <;> simp only [smul] <;> grind
theorem Like.rfl {p : T3} : Like p p:=⟨1,by decide,(c21 p).symm⟩
theorem Like.trans {p q r : T3} (h : Like p q) (k : Like q r) : Like p r:=by
 obtain ⟨a,ha,rfl⟩:=h
 obtain ⟨b,hb,rfl⟩:=k
 refine ⟨a * b,?_,cv6 _ _ _⟩
 intro h
 rcases Rat.mul_eq_zero.1 h with h | h
 ·exact ha h
 exact hb h
theorem Like.cross {p q p' q' : T3} (h : Like p p') (k : Like q q') : Like (p.cross q) (p'.cross q'):=by
 obtain ⟨a,ha,rfl⟩:=h
 obtain ⟨b,hb,rfl⟩:=k
 refine ⟨a * b,?_,bi1 _ _ _ _⟩
 intro h
 rcases Rat.mul_eq_zero.1 h with h | h
 ·exact ha h
 exact hb h
theorem Like.none {p p' : T3} (h : Like p p') : p.None ↔ p'.None:=by
 obtain ⟨a,ha,rfl⟩:=h
 exact smul_none ha
theorem Like.same {p q p' q' : T3} (h : Like p p') (k : Like q q') : Same p q ↔ Same p' q':=(h.cross k).none
theorem Like.flat {p q r p' q' r' : T3} (h : Like p p') (k : Like q q') (l : Like r r') : Flat p q r ↔ Flat p' q' r':=by
 obtain ⟨a,ha,rfl⟩:=h
 obtain ⟨b,hb,rfl⟩:=k
 obtain ⟨c,hc,rfl⟩:=l
 exact cu2 ha hb hc
theorem like_normal {p : T3} (h : ¬ p.None) : Like p.normal p:=by
 have hl:=lead_ne h
 refine ⟨1 / p.lead,by grind,?_⟩
 ext <;> simp only [smul,normal,over] <;> grind
end T3
namespace M3
def det (m : M3) : Rat:=m.a.dot (m.b.cross m.c)
def apply (m : M3) (p : T3) : T3:=⟨m.a.dot p,m.b.dot p,m.c.dot p⟩
def cof (m : M3) : M3:=⟨m.b.cross m.c,m.c.cross m.a,m.a.cross m.b⟩
theorem cross_apply (m : M3) (p q : T3) : (m.apply p).cross (m.apply q) = m.cof.apply (p.cross q):=by
 ext <;> simp only [apply,cof,T3.cross,T3.dot] <;> grind
theorem cq2 (m : M3) (p : T3) : m.cof.cof.apply p = (m.apply p).smul m.det:=by
 ext <;> simp only [apply,cof,det,T3.cross,T3.dot,T3.smul] <;> grind
theorem fd6 (m : M3) (v : T3) : m.det * v.x = m.a.x * (m.cof.apply v).x + m.b.x * (m.cof.apply v).y + m.c.x * (m.cof.apply v).z ∧
  m.det * v.y = m.a.y * (m.cof.apply v).x + m.b.y * (m.cof.apply v).y + m.c.y * (m.cof.apply v).z ∧ m.det * v.z = m.a.z * (m.cof.apply v).x + m.b.z * (m.cof.apply v).y + m.c.z * (m.cof.apply v).z:=by
 refine ⟨?_,?_,?_⟩ <;> simp only [apply,cof,det,T3.cross,T3.dot] <;> grind
theorem b70 {m : M3} (h : m.det ≠ 0) {v : T3} : (m.cof.apply v).None ↔ v.None:=by
 obtain ⟨h1,h2,h3⟩:=fd6 m v
 constructor
 ·rintro ⟨e1,e2,e3⟩
  rw [e1,e2,e3] at h1 h2 h3
  have z : ∀ x : Rat,m.det * x = 0 → x = 0:=fun x hx=>(Rat.mul_eq_zero.1 hx).resolve_left h
  exact ⟨z _ (by rw [h1]; grind),z _ (by rw [h2]; grind),z _ (by rw [h3]; grind)⟩
 rintro ⟨e1,e2,e3⟩
 unfold T3.None apply T3.dot
 simp only [e1,e2,e3]
 refine ⟨?_,?_,?_⟩ <;> grind
theorem cm9 (m : M3) : m.cof.det = m.det * m.det:=by
 simp only [det,cof,T3.cross,T3.dot]; grind
theorem da3 {m : M3} (h : m.det ≠ 0) : m.cof.det ≠ 0:=by
 rw [cm9]
 intro e
 rcases Rat.mul_eq_zero.1 e with e | e <;> exact h e
theorem cofcof_like {m : M3} (h : m.det ≠ 0) (v : T3) : T3.Like (m.cof.cof.apply v) (m.apply v):=by
 rw [cq2]
 exact ⟨m.det,h,rfl⟩
theorem same_apply {m : M3} (h : m.det ≠ 0) {p q : T3} : T3.Same (m.apply p) (m.apply q) ↔ T3.Same p q:=by
 unfold T3.Same
 rw [cross_apply]
 exact b70 h
theorem same_cof {m : M3} (h : m.det ≠ 0) {p q : T3} : T3.Same (m.cof.apply p) (m.cof.apply q) ↔ T3.Same p q:=same_apply (da3 h)
theorem apply_none {m : M3} (h : m.det ≠ 0) {v : T3} : (m.apply v).None ↔ v.None:=by
 have h1:=b70 (da3 h) (v:=v)
 rw [cq2,T3.smul_none h] at h1
 exact h1
theorem flat_apply {m : M3} (h : m.det ≠ 0) {p q r : T3} : T3.Flat (m.apply p) (m.apply q) (m.apply r) ↔ T3.Flat p q r:=by
 unfold T3.Flat
 have e : ((m.apply p).cross (m.apply q)).dot (m.apply r) = m.det * (p.cross q).dot r:=by
  simp only [apply,det,T3.cross,T3.dot]; grind
 rw [e]
 constructor
 ·intro h1; exact (Rat.mul_eq_zero.1 h1).resolve_left h
 intro h1; rw [h1,Rat.mul_zero]
end M3
structure Six6 where
 p0 : T3
 p1 : T3
 p2 : T3
 p3 : T3
 p4 : T3
 p5 : T3
namespace Six6
def l0 (s : Six6) : T3:=s.p0.cross s.p1
def l1 (s : Six6) : T3:=s.p1.cross s.p2
def l2 (s : Six6) : T3:=s.p2.cross s.p3
def l3 (s : Six6) : T3:=s.p3.cross s.p4
def l4 (s : Six6) : T3:=s.p4.cross s.p5
def l5 (s : Six6) : T3:=s.p5.cross s.p0
def m0 (s : Six6) : T3:=s.l0.cross s.l3
def m1 (s : Six6) : T3:=s.l1.cross s.l4
def m2 (s : Six6) : T3:=s.l2.cross s.l5
structure Ok (s : Six6) : Prop where
 d01 : ¬ T3.Same s.p1 s.p0
 d02 : ¬ T3.Same s.p2 s.p0
 d03 : ¬ T3.Same s.p3 s.p0
 d04 : ¬ T3.Same s.p4 s.p0
 d05 : ¬ T3.Same s.p5 s.p0
 d12 : ¬ T3.Same s.p2 s.p1
 d13 : ¬ T3.Same s.p3 s.p1
 d14 : ¬ T3.Same s.p4 s.p1
 d15 : ¬ T3.Same s.p5 s.p1
 d23 : ¬ T3.Same s.p3 s.p2
 d24 : ¬ T3.Same s.p4 s.p2
 d25 : ¬ T3.Same s.p5 s.p2
 d34 : ¬ T3.Same s.p4 s.p3
 d35 : ¬ T3.Same s.p5 s.p3
 d45 : ¬ T3.Same s.p5 s.p4
 o0 : ¬ T3.Same s.l0 s.l3
 o1 : ¬ T3.Same s.l1 s.l4
 o2 : ¬ T3.Same s.l2 s.l5
 fl : T3.Flat s.m0 s.m1 s.m2
 ns : ¬ (T3.Same s.m0 s.m1 ∧ T3.Same s.m0 s.m2)
def map (m : M3) (s : Six6) : Six6:=⟨m.apply s.p0,m.apply s.p1,m.apply s.p2,m.apply s.p3,m.apply s.p4,m.apply s.p5⟩
theorem Ok.map {m : M3} (h : m.det ≠ 0) {s : Six6} (k : s.Ok) : (s.map m).Ok:=by
 have e0 : T3.Like (s.map m).m0 (m.apply s.m0):=by unfold m0 l0 l3 Six6.map; simp only [M3.cross_apply]; exact M3.cofcof_like h _
 have e1 : T3.Like (s.map m).m1 (m.apply s.m1):=by unfold m1 l1 l4 Six6.map; simp only [M3.cross_apply]; exact M3.cofcof_like h _
 have e2 : T3.Like (s.map m).m2 (m.apply s.m2):=by unfold m2 l2 l5 Six6.map; simp only [M3.cross_apply]; exact M3.cofcof_like h _
 refine ⟨?_,?_,?_,?_,?_,?_,?_,?_,?_,?_,?_,?_,?_,?_,?_,?_,?_,?_,?_,?_⟩
 ·exact fun e=>k.d01 ((M3.same_apply h).1 e)
 ·exact fun e=>k.d02 ((M3.same_apply h).1 e)
 ·exact fun e=>k.d03 ((M3.same_apply h).1 e)
 ·exact fun e=>k.d04 ((M3.same_apply h).1 e)
 ·exact fun e=>k.d05 ((M3.same_apply h).1 e)
 ·exact fun e=>k.d12 ((M3.same_apply h).1 e)
 ·exact fun e=>k.d13 ((M3.same_apply h).1 e)
 ·exact fun e=>k.d14 ((M3.same_apply h).1 e)
 ·exact fun e=>k.d15 ((M3.same_apply h).1 e)
 ·exact fun e=>k.d23 ((M3.same_apply h).1 e)
 ·exact fun e=>k.d24 ((M3.same_apply h).1 e)
 ·exact fun e=>k.d25 ((M3.same_apply h).1 e)
 ·exact fun e=>k.d34 ((M3.same_apply h).1 e)
 ·exact fun e=>k.d35 ((M3.same_apply h).1 e)
 ·exact fun e=>k.d45 ((M3.same_apply h).1 e)
 ·exact fun e=>k.o0 ((M3.same_cof h).1 (by unfold l0 l3 Six6.map at e; simp only [M3.cross_apply] at e; exact e))
 ·exact fun e=>k.o1 ((M3.same_cof h).1 (by unfold l1 l4 Six6.map at e; simp only [M3.cross_apply] at e; exact e))
 ·exact fun e=>k.o2 ((M3.same_cof h).1 (by unfold l2 l5 Six6.map at e; simp only [M3.cross_apply] at e; exact e))
 ·exact (e0.flat e1 e2).2 ((M3.flat_apply h).2 k.fl)
 exact fun e=>k.ns ⟨(M3.same_apply h).1 ((e0.same e1).1 e.1),(M3.same_apply h).1 ((e0.same e2).1 e.2)⟩
end Six6
namespace T3
theorem same_symm {u v : T3} (h : Same u v) : Same v u:=by
 obtain ⟨h1,h2,h3⟩:=h
 simp only [cross] at h1 h2 h3
 refine ⟨?_,?_,?_⟩ <;> simp only [cross] <;> grind
theorem cross_dot1 (u v : T3) : u.dot (u.cross v) = 0:=by simp only [dot,cross]; grind
theorem cross_dot2 (u v : T3) : v.dot (u.cross v) = 0:=by simp only [dot,cross]; grind
theorem dot_comm (u v : T3) : u.dot v = v.dot u:=by simp only [dot]; grind
end T3
end Go.Proofs.YtmkhgjccoolfjaaGreatDoor
end
section
namespace Go.Proofs.YtmkhgjccoolfjaaGreatDoor
open Go Go.RowKit Tryz
section
variable {c : Cx} {st : St} {G : Gh} {all : List Oper} {K : List HRec → Prop} {acc : List HRec} {ops : List Oper}
def dg1 (c : Cx) (st : St) (acc : List HRec) (ops : List Oper) (η : Nat → Value) : Option (Value × Nat × Int × Nat):=match (opH ops).op with
 | .indexAddr T x ix=>match opd (frH st acc η) x,opd (frH st acc η) ix,F3 c.E T with
  | some (.one (.val v)),some (.one (.lit _ z)),.array n e=>(c.E.get e).map fun te=>(v,n,z,te.size)
  | _,_,_=>none
 | _=>none
theorem d29 (u : Value) (n : Nat) (i : Int) (sz : Nat) (hc : c.Ok) (hok : ∀ η,ap1 all st acc ops η = true) (hq : ∀ η,dg1 c st acc ops η = some (u,n,i,sz)) (h0 : 0 ≤ i) (h1 : i < n)
  (h : ∀ β η S w,Mem c.bs st.hp β w → Keeps c.K c.w0 w → G.p S w → depsH acc (opH ops).after.toList η S w → ∃ b k,u = .pointer (some ⟨b,k,none⟩))
  (k : Hd c st G all K (.spec ((opH ops).dst.getD 0) (fun x=>.one (.val x)) (fun x=>A7 (x = o8 u (i.toNat * sz))) :: acc) (ops.drop 1)) : Hd c st G all K acc ops:=by
 refine a69 (fun x=>.one (.val x)) (fun x=>A7 (x = o8 u (i.toNat * sz))) hok (fun β η S w F m ty hkn hup hM hS hw hG hd=>?_) k
 have hq:=hq η
 unfold dg1 at hq
 split at hq <;> first | (cases hq; done) | skip
 rename_i T x ix hop
 split at hq <;> first | (cases hq; done) | skip
 rename_i v kd z n' e hx hix hk
 cases hte : c.E.get e with
 | none=>rw [hte] at hq; cases hq
 | some te=>
  rw [hte] at hq
  simp only [Option.map_some,Option.some.injEq,Prod.mk.injEq] at hq
  obtain ⟨rfl,rfl,rfl,rfl⟩:=hq
  have hkd:=E8 (t:=T) hc.env
  rw [hk] at hkd
  have hkd' : c.P.underlying T = some (.array n' e):=hkd
  obtain ⟨zz,hty,_⟩:=(hc.env.get hte).ty
  obtain ⟨b,k',hu⟩:=h β η S w hM hw hG hd
  rw [hop] at hkn ⊢
  have g1 : ev F x = .pointer (some ⟨b,k',none⟩):=by rw [(hkn x (by simp [Op.operands]) _ hx).1]; exact hu
  have g2:=(hkn ix (by simp [Op.operands]) _ hix).1
  refine ⟨o8 v (z.toNat * te.size),?_,rfl,an4 _ _,rfl⟩
  rw [hu]
  intro d pos aft g
  simp [execOp,g1,g2,SV.den,Ch.den,Instr.indexAt,asIntOf,run_underlying hkd',Instr.sureAddr,h0,h1,hty.runSize w,Z8,o8]
theorem I5 (u : Value) (n : Nat) (i : Int) (sz : Nat) (hc : c.Ok) (h0 : 0 ≤ i) (h1 : i < n) (h : ∀ β η S w,Mem c.bs st.hp β w → Keeps c.K c.w0 w → G.p S w → depsH acc (opH ops).after.toList η S w → ∃ b k,u = .pointer (some ⟨b,k,none⟩)) (k : Hd c st G all K (.spec ((opH ops).dst.getD 0) (fun x=>.one (.val x)) (fun x=>A7 (x = o8 u (i.toNat * sz))) :: acc) (ops.drop 1)) (hok : ∀ η,ap1 all st acc ops η = true:=by intros; kernel_rfl) (hq : ∀ η,dg1 c st acc ops η = some (u,n,i,sz):=by intros; kernel_rfl) : Hd c st G all K acc ops:=
 d29 u n i sz hc hok hq h0 h1 h k
end
theorem At.part {g : Bool} {s : Nat} {S : Nat → Prop} {w : World} {u : Value} {vs : List Value} (h : At S w u (H7 vs)) (hl : ∀ x ∈ vs,U2 g s x) {i : Nat} {x : Value} (hx : vs[i]? = some x) : At S w (o8 u (i * s)) x.cells.toList:=by
 obtain ⟨b,o,arr,T,fr,h1,h2,h3,h4,h5⟩:=h
 have hi:=(List.getElem?_eq_some_iff.1 hx).1
 have hx1:=(hl x (List.mem_of_getElem? hx)).1
 have hc:=ac1 hl
 have h6:=an6 hl hx
 have hle : (i + 1) * s ≤ vs.length * s:=Nat.mul_le_mul_right _ hi
 rw [Nat.add_mul,Nat.one_mul] at hle
 refine ⟨b,o + i * s,arr,T,fr,by rw [h1]; rfl,h2,h3,by rw [hx1]; omega,?_⟩
 rw [hx1,← h6]
 show ((arr.toList.drop (o + i * s)).take s) = ((H7 vs).drop (i * s)).take s
 rw [← h5,hc,List.drop_take,List.drop_drop,List.take_take]
 congr 1
 omega
section
variable {S : Nat → Prop} {w : World} {u : Value} {s : Six6}
end
namespace Six6
end Six6
def ag6 (l : Nat) : Value:=.func (.yield l) #[] #[]
structure SeqA (P : Program) (l : Nat) (X : Nat → List Value → Gh) (n : Nat) (B : Nat → Prop) (W : World) (T0 : Nat → Prop) (J : (Nat → Prop) → (Nat → Prop) → Nat → Bool → World → Prop) : Prop where
 stab : ∀ T V k f W1 W2,J T V k f W1 → W1.heap.size ≤ W2.heap.size → (∀ b,T b ∨ V b → W2.heap[b]? = W1.heap[b]?) → Keeps (fun b=>¬ T0 b) W W2 → J T V k f W2
 fits : ∀ T V k f W1,J T V k f W1 → ∀ b,T b → b < W1.heap.size
 t0 : ∀ T V k f W1,J T V k f W1 → ∀ b,T0 b → T b
 yld : ∀ T V V' k x W1,k < n → J T V k true W1 → Keeps (fun b=>¬ T0 b) W W1 → (∀ b,V b → V' b) → (∀ b,V' b → ¬ T b ∧ b < W1.heap.size ∧ B b) → (X k x).p V' W1 → YieldAt Fence.wide 0 P l x.toArray W1 fun e W'=>
  ∃ f T',e = .returned (.bool f) ∧ J T' V' (k + 1) f W' ∧ Keeps (fun b=>¬ T b) W1 W' ∧ ∀ b,T' b → T b ∨ W1.heap.size ≤ b
def d11 (P : Program) (gf : FuncId) (lb : List Value) (X : Nat → List Value → Gh) (n n0 : Nat) (S : Nat → Prop) (w : World) : Prop:=
 ∀ l W T0 J,Keeps S w W → (∀ b,b < w.heap.size → S b → ¬ T0 b) → SeqA P l X n (fun b=>(S b ∧ b < n0) ∨ n0 ≤ b) W T0 J → J T0 (fun _=>False) 0 true W →
  Gives P gf (ag6 l :: lb) W fun _ W'=>Keeps (fun b=>¬ T0 b) W W' ∧ ∃ T' V' k,(k = n ∧ J T' V' k true W') ∨ J T' V' k false W'
theorem SeqA.bound {P : Program} {l n : Nat} {X : Nat → List Value → Gh} {B B' : Nat → Prop} {W : World} {T0 : Nat → Prop} {J : (Nat → Prop) → (Nat → Prop) → Nat → Bool → World → Prop} (q : SeqA P l X n B W T0 J) (h : ∀ b,B' b → B b) : SeqA P l X n B' W T0 J:=
 ⟨q.stab,q.fits,q.t0,fun T V V' k x W1 hk hJ hkp h1 h2 h3=>q.yld T V V' k x W1 hk hJ hkp h1 (fun b hb=>⟨(h2 b hb).1,(h2 b hb).2.1,h b (h2 b hb).2.2⟩) h3⟩
abbrev ds4 (P : Program) (gf : FuncId) (lb : List Value) (X : Nat → List Value → Gh) (n n0 : Nat) : Gh:=⟨fun S w=>n0 ≤ w.heap.size ∧ d11 P gf lb X n n0 S w,
 fun h k=>⟨Nat.le_trans h.1 k.size,fun l W T0 J h1 h2 h3 h4=>h.2 l W T0 J (k.trans h1) (fun b hb hs=>h2 b (Nat.lt_of_lt_of_le hb k.size) hs) h3 h4⟩,
 fun h hs=>⟨h.1,fun l W T0 J h1 h2 h3 h4=>h.2 l W T0 J ⟨h1.os,h1.tape,h1.output,h1.size,fun k hk hk2=>h1.block k hk (hs k hk hk2)⟩ (fun b hb hb2=>h2 b hb (hs b hb hb2)) (h3.bound fun b hb=>hb.imp (fun hb=>⟨hs b (Nat.lt_of_lt_of_le hb.2 h.1) hb.1,hb.2⟩) id) h4⟩⟩
theorem ck0 {w w' : World} {b : Nat} (h : b < w.heap.size) (e : w'.heap[b]? = w.heap[b]?) : b < w'.heap.size:=by
 rw [Array.getElem?_eq_getElem h] at e
 exact (Array.getElem?_eq_some_iff.1 e).1
def aq4 (W : World) (T0 : Nat → Prop) (J : (Nat → Prop) → (Nat → Prop) → Nat → Bool → World → Prop) (T V : Nat → Prop) (C : Nat → Option Obj) (k : Nat) (f : Bool) : AbsE where
 Q:=T
 R:=fun w=>(∀ b,T b → b < w.heap.size) ∧ (∀ b,T0 b → T b) ∧ ∀ w2,w.heap.size ≤ w2.heap.size → (∀ b,T b → w2.heap[b]? = w.heap[b]?) → (∀ b,V b → w2.heap[b]? = C b) → Keeps (fun b=>¬ T0 b) W w2 → J T V k f w2
 frame:=fun w w' ⟨h1,h0,h2⟩ hz hs=>⟨fun b hb=>ck0 (h1 b hb) (hs b hb),h0,fun w2 h0 h3 h4=>h2 w2 (Nat.le_trans hz h0) (fun b hb=>(h3 b hb).trans (hs b hb)) h4⟩
theorem SeqA.entry {P : Program} {l n : Nat} {X : Nat → List Value → Gh} {B : Nat → Prop} {W : World} {T0 : Nat → Prop} {J : (Nat → Prop) → (Nat → Prop) → Nat → Bool → World → Prop} (q : SeqA P l X n B W T0 J) {T V : Nat → Prop} {C : Nat → Option Obj} {k : Nat} {f : Bool} {w : World} (h : J T V k f w) (hC : ∀ b,V b → w.heap[b]? = C b) : (aq4 W T0 J T V C k f).R w:=
 ⟨q.fits T V k f w h,q.t0 T V k f w h,fun w2 h0 h1 h2 h3=>q.stab T V k f w w2 h h0 (fun b hb=>hb.elim (h1 b) fun hv=>(h2 b hv).trans (hC b hv).symm) h3⟩
abbrev cf7 (V : Nat → Prop) (C : Nat → Option Obj) : Gh:=⟨fun S w=>∀ b,V b → S b ∧ b < w.heap.size ∧ w.heap[b]? = C b,
 fun h k b hb=>⟨(h b hb).1,Nat.lt_of_lt_of_le (h b hb).2.1 k.size,(k.block b (h b hb).2.1 (h b hb).1).trans (h b hb).2.2⟩,fun h hs b hb=>⟨hs b (h b hb).2.1 (h b hb).1,(h b hb).2⟩⟩
def be5 (st : St) : Cur → Option (Value × List SV × Nat)
 | .ops _ (o1 :: _)=>match o1.guard,o1.dst,o1.op with
  | none,some d,.call cl=>match cl.callee with
   | .value x=>match opd st.fr x with
    | some (.one (.val v))=>match a41 (cl.args.toList.map (opd st.fr)) with
     | some l=>some (v,l,d)
     | none=>none
    | _=>none
   | _=>none
  | _,_,_=>none
 | _=>none
def dw6 (o : Out) : Option Value:=(be5 o.st o.cur).map (·.1)
def cp0 (o : Out) : List SV:=match be5 o.st o.cur with | some (_,l,_)=>l | none=>[]
def bf3 (o : Out) (f : Bool) (b : Nat) (A : AbsE) : Out:=match I1 o (.one (.bb f)) with | ⟨cur,k,⟨fr,hp⟩,_⟩=>⟨cur,k,⟨fr,ae1 hp b (.abs A)⟩,[]⟩
section
variable {c : Cx} {o : Out} {G : Gh}
theorem cz5 [Rd] {l : Nat} {β : Nat → Nat} {ρ : Fr} {w : World} (hf : dw6 o = some (ag6 l)) (hS : Sat c.bs o.st β ρ w) :
  ∃ all o1 r d,o.cur = .ops all (o1 :: r) ∧ o1.guard = none ∧ o1.dst = some d ∧ (∀ s,I1 o s = ⟨.ops all r,o.k,⟨(d,s) :: o.st.fr,o.st.hp⟩,[]⟩) ∧
   (execOp (ev ρ) o1).run c.P w = (Instr.yield l ((cp0 o).map (SV.den β)).toArray).run c.P w:=by
 unfold dw6 at hf
 cases hco : be5 o.st o.cur with
 | none=>rw [hco] at hf; cases hf
 | some x=>
  obtain ⟨g,l',d⟩:=x
  rw [hco] at hf
  simp only [Option.map_some,Option.some.injEq] at hf
  subst hf
  have hargs : cp0 o = l':=by unfold cp0; rw [hco]
  unfold be5 at hco
  split at hco <;> first | (cases hco; done) | skip
  rename_i all o1 r hcur
  split at hco <;> first | (cases hco; done) | skip
  rename_i d' cl hg hd hop
  split at hco <;> first | (cases hco; done) | skip
  rename_i x hcl
  split at hco <;> first | (cases hco; done) | skip
  rename_i v hx
  split at hco <;> first | (cases hco; done) | skip
  rename_i l2 hl
  simp only [Option.some.injEq,Prod.mk.injEq] at hco
  obtain ⟨rfl,rfl,rfl⟩:=hco
  refine ⟨all,o1,r,d',hcur,hg,hd,fun s=>by unfold I1; rw [hcur]; simp only [hd,Option.getD_some],?_⟩
  have h1:=(ah0 (ρ:=ρ) (fun t _=>hS.fr t) _ hx).1
  have h2:=b76 hS.fr hl
  rw [hargs,← h2]
  obtain ⟨dst,op,ty,pos,aft,g⟩:=o1
  simp only at hop hg hd
  subst hop
  obtain ⟨callee,args,ts⟩:=cl
  simp only at hcl
  subst hcl
  have e : (List.map (ev ρ) args.toList).toArray = Array.map (ev ρ) args:=by rw [← Array.toList_map,Array.toArray_toList]
  show _ = (Instr.yield l (List.map (ev ρ) args.toList).toArray).run c.P w
  rw [e]
  simp [execOp,resolve,Deferred.ofValue,h1,SV.den,Ch.den,ag6,invoke]
theorem ae8 [Rd] {l n : Nat} {X : Nat → List Value → Gh} {B : Nat → Prop} {W : World} {T0 : Nat → Prop} {J : (Nat → Prop) → (Nat → Prop) → Nat → Bool → World → Prop} (q : SeqA c.P l X n B W T0 J) (b : Nat) (T V : Nat → Prop) (C : Nat → Option Obj) (k : Nat) (x : List Value) (hc : c.Ok) (hw0 : c.w0 = W) (hK : c.K = fun b=>¬ T0 b) (hB : ∀ b,c.S0 b → T0 b ∨ B b)
  (hx : k < n) (hb : nth o.st.hp b = some (.abs (aq4 W T0 J T V C k true))) (hf : dw6 o = some (ag6 l)) (ha : ∀ β S w,Keeps c.K c.w0 w → G.p S w → (cp0 o).map (SV.den β) = x ∧ (X k x).p S w ∧ (cf7 V C).p S w)
  (h1 : ∀ T' V' C',Run c (bf3 o true b (aq4 W T0 J T' V' C' (k + 1) true)) ((cf7 V' C').and G)) (h2 : ∀ T' V' C',Run c (bf3 o false b (aq4 W T0 J T' V' C' (k + 1) false)) ((cf7 V' C').and G)) : Run c o G:=by
 refine ⟨fun β ρ w hS hw hG=>?_⟩
 rw [X9] at hb
 obtain ⟨all,o1,r,d,hcur,hg,hd,hnx,hr⟩:=cz5 hf hS
 have hbl:=(List.getElem?_eq_some_iff.1 hb).1
 have hmb : ∀ g,m7 β o.st.hp b g ↔ T g:=fun g=>S4 hb
 have hkw : Keeps (fun b=>¬ T0 b) W w:=by have:=hw; rw [hK,hw0] at this; exact this
 obtain ⟨f1,f0,f2⟩:=hS.mem.abs b _ hb
 obtain ⟨a1,a2,a3⟩:=ha β _ w hw hG
 have hJ : J T V k true w:=f2 w (Nat.le_refl _) (fun _ _=>rfl) (fun b hb=>(a3 b hb).2.2) hkw
 let V' : Nat → Prop:=fun g=>Sof c.S0 β o.st.hp g ∧ g < w.heap.size
 have hVT : ∀ g,V' g → ¬ T g:=fun g hg ht=>hg.1.2 b ((hmb g).2 ht)
 obtain ⟨fn,tmps,assign,body,hy,hR⟩:=q.yld T V V' k x w hx hJ hkw (fun g hg=>⟨(a3 g hg).1,(a3 g hg).2.1⟩) (fun g hg=>⟨hVT g hg,hg.2,(hB g hg.1.1).resolve_left fun h0=>hVT g hg (f0 g h0)⟩) ((X k x).mono a2 fun g hg hs=>⟨hs,hg⟩)
 rw [a1] at hr
 rw [hcur]
 show WqR c.P c.n all (kQ c.P c.n c.Q o.k) (o1 :: r) ρ w
 refine c00 hg hd (hr.trans hy) hR fun e w' he=>?_
 obtain ⟨f,T',rfl,hJ',hkp,hT⟩:=he
 refine ⟨_,rfl,?_⟩
 let C' : Nat → Option Obj:=fun g=>w.heap[g]?
 have hC' : ∀ g,V' g → w'.heap[g]? = C' g:=fun g hg=>hkp.block g hg.2 (hVT g hg)
 have hlen : (o.st.hp.set b (.abs (aq4 W T0 J T' V' C' (k + 1) f))).length = o.st.hp.length:=by simp
 have hget : ∀ i y,(o.st.hp.set b (.abs (aq4 W T0 J T' V' C' (k + 1) f)))[i]? = some y → (i = b ∧ y = .abs (aq4 W T0 J T' V' C' (k + 1) f)) ∨ (b ≠ i ∧ o.st.hp[i]? = some y):=by
  intro i y hy
  by_cases e : b = i
  ·subst e
   rw [List.getElem?_set_self hbl] at hy
   exact .inl ⟨rfl,(Option.some.inj hy).symm⟩
  rw [List.getElem?_set_ne e] at hy
  exact .inr ⟨e,hy⟩
 have hother : ∀ i g,b ≠ i → m7 β o.st.hp i g → ¬ T g:=fun i g hne hm ht=>hne (hS.mem.apart b i g ((hmb g).2 ht) hm)
 have hmine : ∀ i g,m7 β (o.st.hp.set b (.abs (aq4 W T0 J T' V' C' (k + 1) f))) i g → (i = b ∧ T' g) ∨ (b ≠ i ∧ m7 β o.st.hp i g):=by
  rintro i g ⟨y,hy,hm⟩
  rcases hget i y hy with ⟨rfl,rfl⟩ | ⟨h3,h4⟩
  ·exact .inl ⟨rfl,hm⟩
  exact .inr ⟨h3,y,h4,hm⟩
 have hlow : ∀ i g,m7 β o.st.hp i g → g < w.heap.size:=fun i g hm=>(hS.mem.low i g hm).2
 have hSat : ∀ s : SV,s.Ok o.st.hp.length → Sat c.bs ⟨(d,s) :: o.st.fr,o.st.hp.set b (.abs (aq4 W T0 J T' V' C' (k + 1) f))⟩ β (upd ρ d (s.den β)) w':=by
  intro s hs
  refine ⟨fun i s' hs'=>?_,⟨fun i T2 l2 hi=>?_,fun i T2 s2 v n cs hi=>?_,fun i A hi=>?_,fun i g hi=>?_,fun i j g hi hj=>?_⟩,by rw [hlen]; exact hS.agr.1,hS.agr.2⟩
  ·show _ ∧ s'.Ok (o.st.hp.set b (.abs (aq4 W T0 J T' V' C' (k + 1) f))).length
   rw [hlen]
   exact ((hS.put (d:=d) (s:=s) (v:=s.den β) rfl hs).fr i) s' hs'
  ·rcases hget i _ hi with ⟨_,e⟩ | ⟨hne,e⟩
   ·cases e
   show _ ∧ ∀ c ∈ l2,c.Ok (o.st.hp.set b (.abs (aq4 W T0 J T' V' C' (k + 1) f))).length
   rw [hlen]
   exact ⟨(hS.mem.blk i T2 l2 e).1.keep hkp (hother i _ hne ⟨_,e,rfl⟩),(hS.mem.blk i T2 l2 e).2⟩
  ·rcases hget i _ hi with ⟨_,e⟩ | ⟨hne,e⟩
   ·cases e
   exact ac7 (hS.mem.row i T2 s2 v n cs e) hkp fun g hg=>hother i g hne ⟨_,e,hg⟩
  ·rcases hget i _ hi with ⟨_,e⟩ | ⟨hne,e⟩
   ·cases e
    exact q.entry hJ' hC'
   exact A.keep (hS.mem.abs i A e) (fun k' hk=>hlow i k' ⟨_,e,hk⟩) hkp fun g hg=>hother i g hne ⟨_,e,hg⟩
  ·rcases hmine i g hi with ⟨rfl,ht⟩ | ⟨hne,hm⟩
   ·refine ⟨?_,q.fits _ _ _ _ _ hJ' g ht⟩
    rcases hT g ht with h3 | h3
    ·exact (hS.mem.low i g ((hmb g).2 h3)).1
    have:=hw.size
    exact .inl (Nat.le_trans this h3)
   exact ⟨(hS.mem.low i g hm).1,Nat.lt_of_lt_of_le (hlow i g hm) hkp.size⟩
  rcases hmine i g hi with ⟨rfl,ht⟩ | ⟨hne,hm⟩ <;> rcases hmine j g hj with ⟨e2,ht2⟩ | ⟨hne2,hm2⟩
  ·exact e2.symm
  ·rcases hT g ht with h3 | h3
   ·exact hS.mem.apart i j g ((hmb g).2 h3) hm2
   ·have:=hlow j g hm2
    omega
  ·subst e2
   rcases hT g ht2 with h3 | h3
   ·exact hS.mem.apart i j g hm ((hmb g).2 h3)
   ·have:=hlow i g hm
    omega
  exact hS.mem.apart i j g hm hm2
 have hw' : Keeps c.K c.w0 w':=Mem.grow hS.mem hw hkp b fun i hi=>(hmb i).2 (Classical.not_not.1 hi)
 have hsof : ∀ g,V' g → Sof c.S0 β (o.st.hp.set b (.abs (aq4 W T0 J T' V' C' (k + 1) f))) g:=fun g hs=>⟨hs.1.1,fun i hi=>by
  rcases hmine i g hi with ⟨rfl,ht⟩ | ⟨_,hm⟩
  ·rcases hT g ht with h3 | h3
   ·exact hs.1.2 i ((hmb g).2 h3)
   ·have:=hs.2
    omega
  exact hs.1.2 i hm⟩
 have hG' : ((cf7 V' C').and G).p (Sof c.S0 β (o.st.hp.set b (.abs (aq4 W T0 J T' V' C' (k + 1) f)))) w':=by
  have g1 : G.p V' w:=G.mono hG fun g hg hs=>⟨hs,hg⟩
  have g2:=G.keep g1 (hkp.mono fun g hg=>hVT g hg)
  exact ⟨fun g hg=>⟨hsof g hg,Nat.lt_of_lt_of_le hg.2 hkp.size,hC' g hg⟩,G.mono g2 fun g _ hs=>hsof g hs⟩
 cases f with
 | true=>
  have h3:=(h1 T' V' C').run
  unfold bf3 at h3
  rw [hnx] at h3
  simp only [S5] at h3
  exact h3 β _ w' (hSat (.one (.bb true)) trivial) hw' hG'
 | false=>
  have h3:=(h2 T' V' C').run
  unfold bf3 at h3
  rw [hnx] at h3
  simp only [S5] at h3
  exact h3 β _ w' (hSat (.one (.bb false)) trivial) hw' hG'
end
theorem d33 {P : Program} {E : Env} {S : Nat → Prop} {f : FuncId} {fn : Func} {code : Code} {ls : List SV} {lb : List Value} {X : Nat → List Value → Gh} {n n0 : Nat} {w : World} {G : Gh} (hn0 : n0 ≤ w.heap.size) (hf : P.funcs[f]? = some fn) (hb : fn.body = some code) (hok : bd5 fn code = true)
  (hn : Nat.ble (lb.length + 1) fn.ntmps = true) (hl : SVsOk ls) (ha : ls.map (SV.den fun _=>0) = lb) (hG : G.p S w)
  (h : ∀ l W T0 J (S0 : Nat → Prop),Up S0 W → (∀ k,¬ ¬ T0 k → S0 k) → SeqA P l X n (fun b=>(S b ∧ b < n0) ∨ n0 ≤ b) W T0 J → (∀ b,S0 b → T0 b ∨ ((S b ∧ b < n0) ∨ n0 ≤ b)) →
   Run (Cx.fnK P fn E W S0 (fun b=>¬ T0 b) fun _ W'=>Keeps (fun b=>¬ T0 b) W W' ∧ ∃ T' V' k,(k = n ∧ J T' V' k true W') ∨ J T' V' k false W') ⟨.code code,[],⟨bj9 0 (.one (.val (ag6 l)) :: ls),[.abs (aq4 W T0 J T0 (fun _=>False) (fun _=>none) 0 true)]⟩,[]⟩ G) : d11 P f lb X n n0 S w:=by
 intro l W T0 J hW hT0 q hJ
 have hmine : ∀ i g,m7 (fun _=>0) [HE.abs (aq4 W T0 J T0 (fun _=>False) (fun _=>none) 0 true)] i g → i = 0 ∧ T0 g:=by
  rintro i g ⟨y,hy,hm⟩
  cases i with
  | zero=>
   simp only [List.getElem?_cons_zero,Option.some.injEq] at hy
   subst hy
   exact ⟨rfl,hm⟩
  | succ i=>simp at hy
 refine b51 (S0:=fun k=>(S k ∧ k < w.heap.size) ∨ w.heap.size ≤ k ∨ T0 k) (K:=fun b=>¬ T0 b) (hp:=[.abs (aq4 W T0 J T0 (fun _=>False) (fun _=>none) 0 true)]) (β:=fun _=>0) (l:=.one (.val (ag6 l)) :: ls) hf hb hok (by simpa using hn) ⟨rfl,?_⟩ (by rw [List.map_cons,ha]; rfl) ?_ ?_
  (h l W T0 J _ (fun k hk=>.inr (.inl (Nat.le_trans hW.size hk))) (fun k hk=>.inr (.inr (Classical.not_not.1 hk))) q (fun b hb=>?_))
 ·have aux : ∀ {r : List SV},SVsOk r → SVsOkM 1 r:=by
   intro r
   induction r with
   | nil=>intro _; trivial
   | cons s r ih=>intro h; exact ⟨h.1.le (Nat.zero_le _),ih h.2⟩
  exact aux hl
 ·refine ⟨fun i T l hi=>?_,fun i T s v n cs hi=>?_,fun i A hi=>?_,fun i g hi=>?_,fun i j g hi hj=>?_⟩
  ·cases i <;> simp at hi
  ·cases i <;> simp at hi
  ·cases i with
   | zero=>
    simp only [List.getElem?_cons_zero,Option.some.injEq,HE.abs.injEq] at hi
    subst hi
    exact q.entry hJ fun _ hb=>hb.elim
   | succ i=>simp at hi
  ·obtain ⟨rfl,h1⟩:=hmine i g hi
   exact ⟨.inr fun h2=>h2 h1,q.fits _ _ _ _ _ hJ g h1⟩
  rw [(hmine i g hi).1,(hmine j g hj).1]
 ·have g1 : G.p (fun k=>S k ∧ k < w.heap.size) w:=G.mono hG fun k hk hs=>⟨hs,hk⟩
  have g2:=G.keep g1 (hW.mono fun k hk=>hk.1)
  exact G.mono g2 fun k _ hk=>⟨.inl hk,fun i hi=>hT0 k hk.2 hk.1 (hmine i k hi).2⟩
 rcases hb with ⟨h1,h2⟩ | h1 | h1
 ·rcases Nat.lt_or_ge b n0 with h3 | h3
  ·exact .inr (.inl ⟨h1,h3⟩)
  exact .inr (.inr h3)
 ·exact .inr (.inr (Nat.le_trans hn0 h1))
 exact .inl h1
theorem ab6 {W w : World} {T0 T V : Nat → Prop} {C : Nat → Option Obj} {J : (Nat → Prop) → (Nat → Prop) → Nat → Bool → World → Prop} {k b : Nat} {f : Bool} {base : Bs} {hp : List HE} {β : Nat → Nat} {n : Nat} {S : Nat → Prop} (hM : Mem base hp β w) (hb : nth hp b = some (.abs (aq4 W T0 J T V C k f))) (hz : (cf7 V C).p S w) (hw : Keeps (fun b=>¬ T0 b) W w) (hk : f = true → k = n) :
  Keeps (fun b=>¬ T0 b) W w ∧ ∃ T' V' k,(k = n ∧ J T' V' k true w) ∨ J T' V' k false w:=by
 rw [X9] at hb
 have h:=(hM.abs b _ hb).2.2 w (Nat.le_refl _) (fun _ _=>rfl) (fun b hb=>(hz b hb).2.2) hw
 refine ⟨hw,T,V,k,?_⟩
 cases f with
 | true=>exact .inl ⟨hk rfl,h⟩
 | false=>exact .inr h
theorem db3 [Rd] {P : Program} {n : Nat} {x : Code} {Q : G3} {ρ : Fr} {w : World} (h : H1 n x = true → ∀ D a,MtI n D a ρ → x.wpIn RF 0 P (aw6 n D Q) a w) : WqC P n x Q ρ w:=by unfold WqC; exact h
theorem cn9 [Rd] {P : Program} {n : Nat} {x : Code} {Q : G3} {ρ : Fr} {w : World} (h : WqC P n x Q ρ w) : H1 n x = true → ∀ D a,MtI n D a ρ → x.wpIn RF 0 P (aw6 n D Q) a w:=by unfold WqC at h; exact h
theorem Mem.keepS {base : Bs} {hp : List HE} {β : Nat → Nat} {w w' : World} {S : Nat → Prop} (h : Mem base hp β w) (k : Keeps S w w') (hs : ∀ i b,m7 β hp i b → S b) : Mem base hp β w':=
 ⟨fun i T l hi=>⟨(h.blk i T l hi).1.keep k (hs i _ ⟨_,hi,rfl⟩),(h.blk i T l hi).2⟩,fun i T s v n cs hi=>ac7 (h.row i T s v n cs hi) k fun g hg=>hs i g ⟨_,hi,hg⟩,
  fun i A hi=>A.keep (h.abs i A hi) (fun k' hk=>(h.low i k' ⟨_,hi,hk⟩).2) k fun g hg=>hs i g ⟨_,hi,hg⟩,
  fun i k' hk=>⟨(h.low i k' hk).1,Nat.lt_of_lt_of_le (h.low i k' hk).2 k.size⟩,h.apart⟩
theorem Mem.rebase {base base' : Bs} {hp : List HE} {β : Nat → Nat} {w : World} (h : Mem base hp β w) (hl : ∀ i k,m7 β hp i k → base'.n ≤ k ∨ ¬ base'.K k) : Mem base' hp β w:=
 ⟨h.blk,h.row,h.abs,fun i k hk=>⟨hl i k hk,(h.low i k hk).2⟩,h.apart⟩
theorem au8 {β : Nat → Nat} {hp : List HE} {e : HE} {i k : Nat} (h : m7 β (hp ++ [e]) i k) : m7 β hp i k ∨ (i = hp.length ∧ e.mine (β i) k):=by
 obtain ⟨y,hy,hm⟩:=h
 rcases Nat.lt_or_ge i hp.length with hi | hi
 ·rw [List.getElem?_append_left hi] at hy
  exact .inl ⟨y,hy,hm⟩
 rw [List.getElem?_append_right hi] at hy
 have : i - hp.length = 0:=by
  cases h0 : i - hp.length with
  | zero=>rfl
  | succ n=>rw [h0] at hy; simp at hy
 rw [this] at hy
 simp only [List.getElem?_cons_zero,Option.some.injEq] at hy
 subst hy
 exact .inr ⟨by omega,hm⟩
theorem Mem.snoc {base : Bs} {hp : List HE} {β : Nat → Nat} {w : World} {A : AbsE} (h : Mem base hp β w) (hA : A.R w) (hl : ∀ k,A.Q k → (base.n ≤ k ∨ ¬ base.K k) ∧ k < w.heap.size) (ho : ∀ i k,m7 β hp i k → ¬ A.Q k) : Mem base (hp ++ [.abs A]) β w:=by
 have get : ∀ {i : Nat} {e : HE},(hp ++ [.abs A])[i]? = some e → hp[i]? = some e ∨ (i = hp.length ∧ e = .abs A):=by
  intro i e hi
  rcases Nat.lt_or_ge i hp.length with h1 | h1
  ·rw [List.getElem?_append_left h1] at hi
   exact .inl hi
  rw [List.getElem?_append_right h1] at hi
  have : i - hp.length = 0:=by
   cases h0 : i - hp.length with
   | zero=>rfl
   | succ n=>rw [h0] at hi; simp at hi
  rw [this] at hi
  simp only [List.getElem?_cons_zero,Option.some.injEq] at hi
  exact .inr ⟨by omega,hi.symm⟩
 refine ⟨fun i T l hi=>?_,fun i T s v n cs hi=>?_,fun i B hi=>?_,fun i k hk=>?_,fun i j k hi hj=>?_⟩
 ·rcases get hi with h1 | ⟨_,h1⟩
  ·exact ⟨(h.blk i T l h1).1,fun c hc=>((h.blk i T l h1).2 c hc).le (by simp)⟩
  cases h1
 ·rcases get hi with h1 | ⟨_,h1⟩
  ·exact h.row i T s v n cs h1
  cases h1
 ·rcases get hi with h1 | ⟨_,h1⟩
  ·exact h.abs i B h1
  cases h1; exact hA
 ·rcases au8 hk with h1 | ⟨_,h1⟩
  ·exact h.low i k h1
  exact hl k h1
 rcases au8 hi with h1 | ⟨h0,h1⟩ <;> rcases au8 hj with h2 | ⟨h3,h2⟩
 ·exact h.apart i j k h1 h2
 ·exact absurd h2 (ho i k h1)
 ·exact absurd h1 (ho j k h2)
 rw [h0,h3]
def dfE (D : Nat) : AbsE where
 Q:=fun k=>k = D
 R:=fun w=>w.heap[D]? = some (.deferred (some []))
 frame:=fun w w' h _ hs=>(hs D rfl).trans h
def dg0 (D : Nat) : Value:=.pointer (some ⟨D,0,none⟩)
def mkS : List Nat → SV
 | []=>.und
 | D :: ms=>.tup ((D :: ms).map fun D=>(false,[.val (dg0 D)]))
def mkD (D : Nat) : Deferred:={ target:=.collected D,args:=#[] }
theorem dv7 {m : Nat} (ms : List Nat) : (mkS ms).Ok m:=by
 cases ms with
 | nil=>trivial
 | cons D ms=>
  intro p hp
  obtain ⟨D',_,rfl⟩:=List.mem_map.1 hp
  intro c hc
  simp only [List.mem_singleton] at hc
  subst hc
  rfl
theorem a81 (β : Nat → Nat) (ms : List Nat) : bk0 ((mkS ms).den β) = ms.map mkD:=by
 have key : ∀ l : List Nat,(l.map dg0).flatMap c34 = l.map mkD:=by
  intro l
  induction l with
  | nil=>rfl
  | cons D l ih=>rw [List.map_cons,List.flatMap_cons,ih]; rfl
 cases ms with
 | nil=>rfl
 | cons D ms=>
  have e : (mkS (D :: ms)).den β = .tuple ((D :: ms).map dg0).toArray:=by
   show Value.tuple (((D :: ms).map fun D=>(false,[Ch.val (dg0 D)])).map (au1 β)).toArray = _
   rw [List.map_map]
   rfl
  rw [e]
  show (((D :: ms).map dg0).toArray.toList).flatMap c34 = _
  rw [List.toList_toArray]
  exact key _
def ap2 (ps : List Nat) (ls : List SV) (fr : List (Nat × SV)) : List (Nat × SV):=(ps.zip ls).foldl (fun fr p=>p :: fr) fr
def b58 (ps : List Nat) (vs : List Value) (ρ : Fr) : Fr:=(ps.zip vs).foldl (fun ρ p=>upd ρ p.1 p.2) ρ
theorem c67 {β : Nat → Nat} {m : Nat} : ∀ {ps : List Nat} {ls : List SV} {fr : List (Nat × SV)} {ρ : Fr},(∀ d,Kn β m (L7 fr d) (ρ d)) → (∀ s ∈ ls,s.Ok m) → ∀ d,Kn β m (L7 (ap2 ps ls fr) d) (b58 ps (ls.map (SV.den β)) ρ d):=by
 intro ps
 induction ps with
 | nil=>intro ls fr ρ h _; simpa [ap2,b58] using h
 | cons p ps ih=>
  intro ls fr ρ h hl
  cases ls with
  | nil=>simpa [ap2,b58] using h
  | cons s ls=>
   have h2:=ih (ls:=ls) (fr:=(p,s) :: fr) (ρ:=upd ρ p (s.den β)) (fun d s' hs=>?_) (fun s' hs=>hl s' (List.mem_cons_of_mem _ hs))
   ·simpa [ap2,b58] using h2
   rw [I2] at hs
   rw [af6]
   split at hs
   ·rename_i e
    simp only [Option.some.injEq] at hs
    subst hs
    rw [if_pos e]
    exact ⟨rfl,hl s (List.mem_cons_self ..)⟩
   rename_i e
   rw [if_neg e]
   exact h d s' hs
theorem do4 [Rd] {n : Nat} {D : List Deferred} : ∀ {ps : List Nat} {vs : List Value} {a : Act} {ρ : Fr},MtI n D a ρ → ps.all (fun d=>Nat.blt d n) = true → MtI n D { tmps:=(ps.zip vs).foldl (fun t p=>t.setIfInBounds p.1 p.2) a.tmps,defers:=a.defers } (b58 ps vs ρ):=by
 intro ps
 induction ps with
 | nil=>intro vs a ρ h _; simpa [b58] using h
 | cons p ps ih=>
  intro vs a ρ h hp
  simp only [List.all_cons,Bool.and_eq_true] at hp
  cases vs with
  | nil=>simpa [b58] using h
  | cons v vs=>exact ih (vs:=vs) (a:=a.put (some p) v) (ρ:=upd ρ p v) (h.put hp.1 v) hp.2
section
variable {ι : Type}
def fa4 (c : Cx) (hpI : ι → List HE) (GI : ι → Gh) (pN : ι → Prop) (pX : Exit → ι → Prop) : G3:=fun e ρ w=>match e with
 | .normal=>∃ j,pN j ∧ RelI c (fun j=>⟨[],hpI j⟩) GI j ρ w
 | .exit id=>∃ j,pX (.exit id) j ∧ RelI c (fun j=>⟨[],hpI j⟩) GI j ρ w
 | .ret=>∃ j,pX .ret j ∧ RelI c (fun j=>⟨[],hpI j⟩) GI j ρ w
 | _=>False
abbrev Cx.rnd (c : Cx) (hpI : ι → List HE) (GI : ι → Gh) (pN : ι → Prop) (pX : Exit → ι → Prop) : Cx:=⟨c.P,c.n,c.E,c.w0,c.S0,c.K,fa4 c hpI GI pN pX,c.m,c.b⟩
def d75 (o : Out) : Exit:=match o.cur with | .ex e=>e | _=>.normal
def c35 (o : Out) : Bool:=match o.cur,o.k with | .ex (.exit _),[]=>true | .ex .ret,[]=>true | _,_=>false
theorem ae2 [Rd] {c : Cx} {o : Out} {G : Gh} {hpI : ι → List HE} {GI : ι → Gh} {pN : ι → Prop} {pX : Exit → ι → Prop} (j : ι) (he : ar7 o = true) (hp : pN j) (hsub : bn2 o.st ⟨[],hpI j⟩) (hok : ∀ S w,Keeps c.K c.w0 w → G.p S w → ap8 ⟨[],hpI j⟩) (hg : ∀ S w,Keeps c.K c.w0 w → G.p S w → (GI j).p S w) :
  Run (c.rnd hpI GI pN pX) o G:=by
 refine ⟨fun β ρ w hS hw hG=>?_⟩
 obtain ⟨h1,h2⟩:=ba5 he
 rw [h1,h2]
 exact ⟨j,hp,bk8 (c:=c) (st':=fun j=>⟨[],hpI j⟩) j hS hw hG hsub hok hg⟩
theorem dz0 [Rd] {c : Cx} {o : Out} {G : Gh} {hpI : ι → List HE} {GI : ι → Gh} {pN : ι → Prop} {pX : Exit → ι → Prop} (j : ι) (he : c35 o = true) (hp : pX (d75 o) j) (hsub : bn2 o.st ⟨[],hpI j⟩) (hok : ∀ S w,Keeps c.K c.w0 w → G.p S w → ap8 ⟨[],hpI j⟩) (hg : ∀ S w,Keeps c.K c.w0 w → G.p S w → (GI j).p S w) :
  Run (c.rnd hpI GI pN pX) o G:=by
 refine ⟨fun β ρ w hS hw hG=>?_⟩
 have hr:=bk8 (c:=c) (st':=fun j=>⟨[],hpI j⟩) j hS hw hG hsub hok hg
 unfold d75 at hp
 unfold c35 at he
 split at he <;> first | (cases he; done) | skip
 ·rename_i id e1 e2
  rw [e1] at hp ⊢
  rw [e2]
  exact ⟨j,hp,hr⟩
 rename_i e1 e2
 rw [e1] at hp ⊢
 rw [e2]
 exact ⟨j,hp,hr⟩
structure RngJ (c : Cx) (N0 : Nat) (β0 : Nat → Nat) (W : World) (l D : Nat) (T0 : Nat → Prop) (hpI : ι → List HE) (GI : ι → Gh) (j : ι) (β : Nat → Nat) (T V : Nat → Prop) (W1 : World) : Prop where
 mem : Mem c.bs (hpI j) β W1
 agr : ∀ i,i < N0 → β i = β0 i
 k0 : Keeps (fun b=>¬ T0 b) W W1
 own : ∀ i b,m7 β (hpI j) i b → T b ∧ b ≠ l ∧ b ≠ D
 facts : (GI j).p (fun b=>Sof c.S0 β (hpI j) b ∧ ((b < W.heap.size ∧ ¬ T0 b) ∨ (T b ∧ b ≠ l ∧ b ≠ D) ∨ V b)) W1
 dfr : W1.heap[D]? = some (.deferred (some []))
 tl : T l
 td : T D
 t0 : ∀ b,T0 b → T b
 vt : ∀ b,V b → ¬ T b
 lo : ∀ b,T b → b < W1.heap.size
 nw : ∀ b,T b → T0 b ∨ W.heap.size ≤ b
theorem RngJ.stab {c : Cx} {N0 : Nat} {β0 : Nat → Nat} {W : World} {l D : Nat} {T0 : Nat → Prop} {hpI : ι → List HE} {GI : ι → Gh} {j : ι} {β : Nat → Nat} {T V : Nat → Prop} {W1 W2 : World} (h : RngJ c N0 β0 W l D T0 hpI GI j β T V W1)
  (hz : W1.heap.size ≤ W2.heap.size) (hT : ∀ b,T b ∨ V b → W2.heap[b]? = W1.heap[b]?) (hk : Keeps (fun b=>¬ T0 b) W W2) : RngJ c N0 β0 W l D T0 hpI GI j β T V W2:=by
 have k : Keeps (fun b=>(b < W.heap.size ∧ ¬ T0 b) ∨ T b ∨ V b) W1 W2:=by
  refine ⟨hk.os.trans h.k0.os.symm,hk.tape.trans h.k0.tape.symm,hk.output.trans h.k0.output.symm,hz,fun b _ hb=>?_⟩
  rcases hb with ⟨h1,h2⟩ | h1
  ·exact (hk.block b h1 h2).trans (h.k0.block b h1 h2).symm
  exact hT b h1
 refine ⟨h.mem.keepS k fun i b hb=>.inr (.inl (h.own i b hb).1),h.agr,hk,h.own,?_,(hT D (.inl h.td)).trans h.dfr,h.tl,h.td,h.t0,h.vt,fun b hb=>Nat.lt_of_lt_of_le (h.lo b hb) hz,h.nw⟩
 refine (GI j).keep h.facts (k.mono fun b hb=>?_)
 rcases hb.2 with h1 | h1 | h1
 ·exact .inl h1
 ·exact .inr (.inl h1.1)
 exact .inr (.inr h1)
def rfQ (o : Out) : Option (Operand × List Nat × Code × Code):=match o.cur with | .code (.rangeFunc g ps a b)=>some (g,ps.toList,a,b) | _=>none
def dm3 (o : Out) : List Nat:=match rfQ o with | some (_,ps,_,_)=>ps | none=>[]
def rfA (o : Out) : Code:=match rfQ o with | some (_,_,a,_)=>a | none=>.skip
def rfB (o : Out) : Code:=match rfQ o with | some (_,_,_,b)=>b | none=>.skip
def rfF (o : Out) : Option Value:=match rfQ o with | some (g,_,_,_)=>(match opd o.st.fr g with | some (.one (.val v))=>some v | _=>none) | none=>none
noncomputable def rfO (E : Env) (N : Nat) (o : Out) (ls : List SV) (hp : List HE) : Out:=exec E false N ⟨.code (rfA o),[],⟨ap2 (dm3 o) ls o.st.fr,hp⟩,[]⟩
def bf2 (o : Out) : Bool:=match o.cur,o.k,o.vc with | .ex .normal,[],[]=>true | _,_,_=>false
end
abbrev Q7 (fn : FuncId) (tmps : Array Value) (ps : Array Tmp) (A B : Code) (D : Nat) (st : LoopState) (pe : Option Code) : Loop:={ state:=st,pending:=pe,fn:=fn,tmps:=tmps,params:=ps,assign:=A,body:=B,defers:=D }
theorem J3 {w : World} {l : Nat} {x : Obj} : Keeps (fun b=>b ≠ l) w (w.putObj l x):=
 ⟨rfl,rfl,rfl,by rw [World.putObj_size]; exact Nat.le_refl _,fun k _ hk=>World.putObj_heap_other hk⟩
section
variable {ι : Type} {c : Cx} {hpI : ι → List HE} {GI : ι → Gh} {pN : ι → Prop} {pX : Exit → ι → Prop} {W W1 : World} {l D N0 : Nat} {T0 T V : Nat → Prop} {β β0 : Nat → Nat} {j : ι}
def d76 (c : Cx) (N0 : Nat) (β0 : Nat → Nat) (W : World) (l D : Nat) (T0 : Nat → Prop) (hpI : ι → List HE) (GI : ι → Gh) (pN : ι → Prop) (pX : Exit → ι → Prop) (R : LoopState → Option Code → Loop) (f : Bool) (T V : Nat → Prop) (W1 : World) : Prop:=
 ∃ j β,RngJ c N0 β0 W l D T0 hpI GI j β T V W1 ∧ match f with
  | true=>pN j ∧ W1.heap[l]? = some (.loop (R .ready none))
  | false=>(pX .ret j ∧ W1.heap[l]? = some (.loop (R .done (some .ret)))) ∨ ∃ id,pX (.exit id) j ∧ W1.heap[l]? = some (.loop (R .done (some (.exit id))))
theorem cf1 {o : Out} (h : bf2 o = true) : o.cur = .ex .normal ∧ o.k = [] ∧ o.vc = []:=by
 unfold bf2 at h
 split at h
 ·rename_i h1 h2 h3; exact ⟨h1,h2,h3⟩
 cases h
theorem bw7 {oA : St} {V' : Nat → Prop} {β2 : Nat → Nat} {w1 w3 : World} {j' : ι} {ρ3 : Fr} (hc : c.Ok) (h : RngJ c N0 β0 W l D T0 hpI GI j β T V W1) (hlD : l ≠ D) (hT0l : T0 l) (hW : c.w0.heap.size ≤ W1.heap.size) (hN0 : N0 ≤ (hpI j).length) (hV' : ∀ b,V' b → ¬ T b ∧ b < W1.heap.size)
  (R : LoopState → Option Code → Loop) (hS2 : (hpI j).length ≤ oA.hp.length ∧ ∀ i,i < (hpI j).length → β2 i = β i) (hlow2 : ∀ i k,m7 β2 oA.hp i k → W1.heap.size ≤ k ∨ ∃ i',m7 β (hpI j) i' k)
  (hw2 : Keeps (fun b=>∀ i,¬ m7 β (hpI j) i b) W1 w1)
  (hr : RelI ⟨c.P,c.n,c.E,w1.putObj l (.loop (R .busy none)),fun b=>c.S0 b ∧ ((b < W.heap.size ∧ ¬ T0 b) ∨ (T b ∧ b ≠ l ∧ b ≠ D) ∨ V' b ∨ W1.heap.size ≤ b),fun b=>∀ i,¬ m7 β2 oA.hp i b,fun _ _ _=>False,oA.hp.length,β2⟩ (fun j=>⟨[],hpI j⟩) GI j' ρ3 w3) :
  w3.heap[l]? = some (.loop (R .busy none)) ∧ ∀ x : Obj,∃ β3 T',RngJ c N0 β0 W l D T0 hpI GI j' β3 T' V' (w3.putObj l x) ∧ Keeps (fun b=>¬ T b) W1 (w3.putObj l x) ∧ (∀ b,T' b → T b ∨ W1.heap.size ≤ b) ∧ (w3.putObj l x).heap[l]? = some x:=by
 obtain ⟨β3,⟨hS3,hag3⟩,hw3,hG3⟩:=hr
 simp only at hS3 hag3 hw3 hG3
 have hl1 : l < W1.heap.size:=h.lo l h.tl
 have hD1 : D < W1.heap.size:=h.lo D h.td
 have hl2 : l < w1.heap.size:=Nat.lt_of_lt_of_le hl1 hw2.size
 have hz2 : (w1.putObj l (.loop (R .busy none))).heap.size = w1.heap.size:=World.putObj_size
 have hne2 : ∀ i b,m7 β2 oA.hp i b → b ≠ l ∧ b ≠ D:=by
  intro i b hb
  rcases hlow2 i b hb with h1 | ⟨i',h1⟩
  ·exact ⟨by omega,by omega⟩
  exact (h.own i' b h1).2
 have hrec2 : (w1.putObj l (.loop (R .busy none))).heap[l]? = some (.loop (R .busy none)):=World.putObj_heap_same hl2
 have hrec3 : w3.heap[l]? = some (.loop (R .busy none)):=(hw3.block l (by rw [hz2]; exact hl2) fun i hi=>(hne2 i l hi).1 rfl).trans hrec2
 have hl3 : l < w3.heap.size:=(Array.getElem?_eq_some_iff.1 hrec3).1
 refine ⟨hrec3,fun x=>?_⟩
 have hk4 : Keeps (fun b=>(∀ i,¬ m7 β (hpI j) i b) ∧ b ≠ l) W1 (w3.putObj l x):=by
  refine Keeps.behind (Keeps.behind (Keeps.behind (hw2.mono fun b hb=>hb.1) (J3 (x:=.loop (R .busy none))) fun b _ hb=>hb.2) hw3 ?_) (J3 (x:=x)) fun b _ hb=>hb.2
  intro b hb hb2 i hi
  rcases hlow2 i b hi with h1 | ⟨i',h1⟩
  ·omega
  exact hb2.1 i' h1
 have hz4 : w3.heap.size = (w3.putObj l x).heap.size:=World.putObj_size.symm
 have hmine3 : ∀ i b,m7 β3 (hpI j') i b → W1.heap.size ≤ b ∨ ∃ i',m7 β (hpI j) i' b:=by
  intro i b hb
  rcases (hS3.mem.low i b hb).1 with h1 | h1
  ·have h2 : (w1.putObj l (.loop (R .busy none))).heap.size ≤ b:=h1
   rw [hz2] at h2
   exact .inl (Nat.le_trans hw2.size h2)
  obtain ⟨i',h2⟩:=Classical.not_forall.1 h1
  exact hlow2 i' b (Classical.not_not.1 h2)
 have hne3 : ∀ i b,m7 β3 (hpI j') i b → b ≠ l ∧ b ≠ D:=by
  intro i b hb
  rcases hmine3 i b hb with h1 | ⟨i',h1⟩
  ·exact ⟨by omega,by omega⟩
  exact (h.own i' b h1).2
 have hlow3 : ∀ i b,m7 β3 (hpI j') i b → b < (w3.putObj l x).heap.size:=fun i b hb=>by rw [← hz4]; exact (hS3.mem.low i b hb).2
 have hSl : ∀ b,(c.S0 b ∧ ((b < W.heap.size ∧ ¬ T0 b) ∨ (T b ∧ b ≠ l ∧ b ≠ D) ∨ V' b ∨ W1.heap.size ≤ b)) → b ≠ l:=by
  rintro b ⟨_,h1 | h1 | h1 | h1⟩
  ·exact fun e=>h1.2 (e ▸ hT0l)
  ·exact h1.2.1
  ·exact fun e=>(hV' b h1).1 (e ▸ h.tl)
  omega
 refine ⟨β3,fun b=>T b ∨ (W1.heap.size ≤ b ∧ b < (w3.putObj l x).heap.size),⟨?_,?_,?_,?_,?_,?_,.inl h.tl,.inl h.td,fun b hb=>.inl (h.t0 b hb),?_,?_,?_⟩,hk4.mono fun b hb=>⟨fun i hi=>hb (h.own i b hi).1,fun e=>hb (e ▸ h.tl)⟩,?_,World.putObj_heap_same hl3⟩
 ·refine (hS3.mem.keepS (J3 (x:=x)) fun i b hb=>(hne3 i b hb).1).rebase fun i b hb=>?_
  rcases hmine3 i b hb with h1 | ⟨i',h1⟩
  ·exact .inl (Nat.le_trans hW h1)
  exact (h.mem.low i' b h1).1
 ·intro i hi
  have h1 : i < (hpI j).length:=Nat.lt_of_lt_of_le hi hN0
  exact ((hag3 i (Nat.lt_of_lt_of_le h1 hS2.1)).trans (hS2.2 i h1)).trans (h.agr i hi)
 ·refine Keeps.behind h.k0 hk4 fun b hb hb2=>⟨fun i hi=>?_,fun e=>hb2 (e ▸ hT0l)⟩
  rcases h.nw b (h.own i b hi).1 with h1 | h1
  ·exact hb2 h1
  omega
 ·intro i b hb
  refine ⟨?_,hne3 i b hb⟩
  rcases hmine3 i b hb with h1 | ⟨i',h1⟩
  ·exact .inr ⟨h1,hlow3 i b hb⟩
  exact .inl (h.own i' b h1).1
 ·have g1:=(GI j').keep hG3 ((J3 (w:=w3) (l:=l) (x:=x)).mono fun b hb=>hSl b hb.1)
  refine (GI j').mono g1 fun b hb hs=>⟨⟨hs.1.1,hs.2⟩,?_⟩
  rcases hs.1.2 with h1 | h1 | h1 | h1
  ·exact .inl h1
  ·exact .inr (.inl ⟨.inl h1.1,h1.2⟩)
  ·exact .inr (.inr h1)
  exact .inr (.inl ⟨.inr ⟨h1,hb⟩,by omega,by omega⟩)
 ·exact (hk4.block D hD1 ⟨fun i hi=>(h.own i D hi).2.2 rfl,fun e=>hlD e.symm⟩).trans h.dfr
 ·rintro b hb (h1 | h1)
  ·exact (hV' b hb).1 h1
  have:=(hV' b hb).2
  omega
 ·rintro b (h1 | h1)
  ·exact Nat.lt_of_lt_of_le (h.lo b h1) hk4.size
  exact h1.2
 ·rintro b (h1 | h1)
  ·exact h.nw b h1
  exact .inr (Nat.le_trans h.k0.size h1.1)
 rintro b (h1 | h1)
 ·exact .inl h1
 exact .inr h1.1
theorem cx7 {fr : List (Nat × SV)} {fn : FuncId} {tmps : Array Value} {ps : Array Tmp} {A B : Code} {ρ : Fr} {x : List Value} {ls : List SV} {N : Nat} {V' : Nat → Prop} {F : Gh} (hc : c.Ok) (h : RngJ c N0 β0 W l D T0 hpI GI j β T V W1)
  (hrec : W1.heap[l]? = some (.loop (Q7 fn tmps ps A B D .ready none))) (hlD : l ≠ D) (hT0l : T0 l) (hW : c.w0.heap.size ≤ W1.heap.size) (hm : @MtI ⟨some l,false⟩ c.n [] { tmps:=tmps,defers:=[] } ρ) (hfr : ∀ d,Kn β0 N0 (L7 fr d) (ρ d)) (hN0 : N0 ≤ (hpI j).length)
  (hokA : H1 c.n A = true) (hokB : H1 c.n B = true) (hps : ps.toList.all (fun d=>Nat.blt d c.n) = true) (hx : ls.map (SV.den fun _=>0) = x) (hls : ∀ s ∈ ls,s.Ok 0) (hlen : x.length = ps.size)
  (hVV : ∀ b,V b → V' b) (hV' : ∀ b,V' b → ¬ T b ∧ b < W1.heap.size ∧ c.S0 b) (hF : F.p V' W1)
  (hnA : bf2 (exec c.E false N ⟨.code A,[],⟨ap2 ps.toList ls fr,hpI j⟩,[]⟩) = true)
  (hB : ∀ (i : Rd) (w1 : World) (S K : Nat → Prop) (m : Nat) (b : Nat → Nat),(Cx.rnd ⟨c.P,c.n,c.E,w1,S,K,fun _ _ _=>False,m,b⟩ hpI GI pN pX).Ok →
   Run (Cx.rnd ⟨c.P,c.n,c.E,w1,S,K,fun _ _ _=>False,m,b⟩ hpI GI pN pX) ⟨.code B,[],(exec c.E false N ⟨.code A,[],⟨ap2 ps.toList ls fr,hpI j⟩,[]⟩).st,[]⟩ (F.and (GI j))) :
  YieldAt Fence.wide 0 c.P l x.toArray W1 fun e W'=>∃ f T',e = .returned (.bool f) ∧ d76 c N0 β0 W l D T0 hpI GI pN pX (Q7 fn tmps ps A B D) f T' V' W' ∧ Keeps (fun b=>¬ T b) W1 W' ∧ ∀ b,T' b → T b ∨ W1.heap.size ≤ b:=by
 letI i0 : Rd:=⟨some l,false⟩
 obtain ⟨oA,hoA⟩ : ∃ oA,exec c.E false N ⟨.code A,[],⟨ap2 ps.toList ls fr,hpI j⟩,[]⟩ = oA:=⟨_,rfl⟩
 rw [hoA] at hnA hB
 obtain ⟨hn1,hn2,hn3⟩:=cf1 hnA
 have hl1 : l < W1.heap.size:=h.lo l h.tl
 have hD1 : D < W1.heap.size:=h.lo D h.td
 have hmS : ∀ i k,m7 β (hpI j) i k → c.S0 k:=fun i k hk=>by
  rcases (h.mem.low i k hk).1 with h1 | h1
  ·exact hc.up k h1
  exact hc.lent k h1
 let SA : Nat → Prop:=fun b=>c.S0 b ∧ ((b < W.heap.size ∧ ¬ T0 b) ∨ (T b ∧ b ≠ l ∧ b ≠ D) ∨ V' b ∨ W1.heap.size ≤ b)
 let KA : Nat → Prop:=fun b=>∀ i,¬ m7 β (hpI j) i b
 have hup : Up SA W1:=fun k hk=>⟨hc.up k (Nat.le_trans hW hk),.inr (.inr (.inr hk))⟩
 have hlA : ∀ k,¬ KA k → ∃ i,m7 β (hpI j) i k:=fun k hk=>by
  obtain ⟨i,hi⟩:=Classical.not_forall.1 hk
  exact ⟨i,Classical.not_not.1 hi⟩
 have hSA : ∀ i k,m7 β (hpI j) i k → SA k:=fun i k hk=>⟨hmS i k hk,.inr (.inl (h.own i k hk))⟩
 let cA : Cx:=⟨c.P,c.n,c.E,W1,SA,KA,fun e ρ w=>e = .normal ∧ ∃ β',Sat ⟨W1.heap.size,KA,(hpI j).length,β⟩ oA.st β' ρ w ∧ Keeps KA W1 w ∧ (F.and (GI j)).p (Sof SA β' oA.st.hp) w,(hpI j).length,β⟩
 have hcA : cA.Ok:=⟨hc.env,hup,fun k hk=>by obtain ⟨i,hi⟩:=hlA k hk; exact hSA i k hi⟩
 have hA : Run cA ⟨.code A,[],⟨ap2 ps.toList ls fr,hpI j⟩,[]⟩ (F.and (GI j)):=by
  refine cq1 (un:=false) hcA (N:=N) ?_ ?_
  ·show O0 (exec c.E false N ⟨.code A,[],⟨ap2 ps.toList ls fr,hpI j⟩,[]⟩).vc
   rw [hoA,hn3]
   trivial
  show Run cA (exec c.E false N ⟨.code A,[],⟨ap2 ps.toList ls fr,hpI j⟩,[]⟩) (F.and (GI j))
  rw [hoA]
  refine ⟨fun β' ρ' w' hS hw hG=>?_⟩
  rw [hn1,hn2]
  exact ⟨rfl,β',hS,hw,hG⟩
 have hxβ : ls.map (SV.den β) = x:=by
  rw [← hx]
  exact List.map_congr_left fun s hs=>SV.den_congr (m:=0) (fun i hi=>absurd hi (Nat.not_lt_zero i)) (hls s hs)
 have hS1 : Sat cA.bs ⟨ap2 ps.toList ls fr,hpI j⟩ β (b58 ps.toList x ρ) W1:=by
  refine ⟨fun d=>?_,h.mem.rebase fun i k hk=>.inr fun h2=>h2 i hk,Nat.le_refl _,fun _ _=>rfl⟩
  rw [← hxβ]
  refine c67 (fun d s hs=>?_) (fun s hs=>(hls s hs).le (Nat.zero_le _)) d
  obtain ⟨h1,h2⟩:=hfr d s hs
  exact ⟨h1.trans (SV.den_congr (fun i hi=>(h.agr i hi).symm) h2),h2.le hN0⟩
 have hG1 : (F.and (GI j)).p (Sof SA β (hpI j)) W1:=⟨F.mono hF fun b _ hb=>⟨⟨(hV' b hb).2.2,.inr (.inr (.inl hb))⟩,fun i hi=>(hV' b hb).1 (h.own i b hi).1⟩,(GI j).mono h.facts fun b _ hb=>⟨⟨hb.1.1,hb.2.elim .inl fun h1=>h1.elim (fun h1=>.inr (.inl h1)) fun h1=>.inr (.inr (.inl (hVV b h1)))⟩,hb.1.2⟩⟩
 have hmt:=do4 (vs:=x) hm hps
 have h1:=cn9 (hA.run β _ W1 hS1 .refl hG1) hokA [] _ hmt
 refine ⟨fn,_,A,B,run_yield hrec (by simpa using hlen),roundIn_of_wpIn trivial ?_⟩
 have ht : (ps.zip x.toArray).foldl (fun tmps (t,a)=>tmps.setIfInBounds t a) tmps = (ps.toList.zip x).foldl (fun t p=>t.setIfInBounds p.1 p.2) tmps:=by
  rw [← Array.foldl_toList,Array.toList_zip]
 show A.wpIn (Fence.wide.inRound l) 0 c.P _ { tmps:=(ps.zip x.toArray).foldl (fun tmps (t,a)=>tmps.setIfInBounds t a) tmps,defers:=[] } W1
 rw [ht]
 refine Go.wpIn_mono h1 ?_
 rintro e a1 w1 ⟨ρ2,hm2,rfl,β2,hS2,hw2,hG2⟩
 have hrec1 : w1.heap[l]? = some (.loop (Q7 fn tmps ps A B D .ready none)):=(hw2.block l hl1 fun i hi=>(h.own i l hi).2.1 rfl).trans hrec
 refine ⟨_,run_beginRound hrec1 rfl,?_⟩
 have hl2 : l < w1.heap.size:=Nat.lt_of_lt_of_le hl1 hw2.size
 have hz2 : (w1.putObj l (.loop (Q7 fn tmps ps A B D .busy none))).heap.size = w1.heap.size:=World.putObj_size
 have hlow2 : ∀ i k,m7 β2 oA.st.hp i k → W1.heap.size ≤ k ∨ ∃ i',m7 β (hpI j) i' k:=by
  intro i k hk
  rcases (hS2.mem.low i k hk).1 with h1 | h1
  ·exact .inl h1
  exact .inr (hlA k h1)
 have hne2 : ∀ i b,m7 β2 oA.st.hp i b → b ≠ l:=by
  intro i b hb
  rcases hlow2 i b hb with h1 | ⟨i',h1⟩
  ·omega
  exact (h.own i' b h1).2.1
 have hSl : ∀ b,SA b → b ≠ l:=by
  rintro b ⟨_,h1 | h1 | h1 | h1⟩
  ·exact fun e=>h1.2 (e ▸ hT0l)
  ·exact h1.2.1
  ·exact fun e=>(hV' b h1).1 (e ▸ h.tl)
  omega
 let w2:=w1.putObj l (.loop (Q7 fn tmps ps A B D .busy none))
 let KB : Nat → Prop:=fun b=>∀ i,¬ m7 β2 oA.st.hp i b
 have hcB : (Cx.rnd ⟨c.P,c.n,c.E,w2,SA,KB,fun _ _ _=>False,oA.st.hp.length,β2⟩ hpI GI pN pX).Ok:=by
  refine ⟨hc.env,fun k hk=>hup k ?_,fun k hk=>?_⟩
  ·have : w2.heap.size ≤ k:=hk
   rw [hz2] at this
   exact Nat.le_trans hw2.size this
  obtain ⟨i,hi⟩:=Classical.not_forall.1 hk
  rcases hlow2 i k (Classical.not_not.1 hi) with h1 | ⟨i',h1⟩
  ·exact hup k h1
  exact hSA i' k h1
 have hS2' : Sat ⟨w2.heap.size,KB,oA.st.hp.length,β2⟩ oA.st β2 ρ2 w2:=
  ⟨hS2.fr,(hS2.mem.keepS J3 hne2).rebase fun i k hk=>.inr fun h2=>h2 i hk,Nat.le_refl _,fun _ _=>rfl⟩
 have hG2' : (F.and (GI j)).p (Sof SA β2 oA.st.hp) w2:=(F.and (GI j)).keep hG2 (J3.mono fun b hb=>hSl b hb.1)
 have h2:=cn9 ((hB i0 w2 SA KB oA.st.hp.length β2 hcB).run β2 ρ2 w2 hS2' .refl hG2') hokB [] a1 hm2
 refine Go.wpIn_mono h2 ?_
 rintro e a3 w3 ⟨ρ3,hm3,hq⟩
 cases e with
 | normal=>
  obtain ⟨j',hp,hr⟩:=hq
  obtain ⟨h3,h4⟩:=bw7 hc h hlD hT0l hW hN0 (fun b hb=>⟨(hV' b hb).1,(hV' b hb).2.1⟩) (Q7 fn tmps ps A B D) hS2.agr hlow2 hw2 hr
  obtain ⟨β3,T',h5,h6,h7,h8⟩:=h4 (.loop (Q7 fn tmps ps A B D .ready none))
  exact ⟨_,_,run_endRound none h3,true,T',rfl,⟨j',β3,h5,hp,h8⟩,h6,h7⟩
 | ret=>
  obtain ⟨j',hp,hr⟩:=hq
  obtain ⟨h3,h4⟩:=bw7 hc h hlD hT0l hW hN0 (fun b hb=>⟨(hV' b hb).1,(hV' b hb).2.1⟩) (Q7 fn tmps ps A B D) hS2.agr hlow2 hw2 hr
  obtain ⟨β3,T',h5,h6,h7,h8⟩:=h4 (.loop (Q7 fn tmps ps A B D .done (some .ret)))
  exact ⟨_,_,run_endRound (some .ret) h3,false,T',rfl,⟨j',β3,h5,.inl ⟨hp,h8⟩⟩,h6,h7⟩
 | exit id=>
  obtain ⟨j',hp,hr⟩:=hq
  obtain ⟨h3,h4⟩:=bw7 hc h hlD hT0l hW hN0 (fun b hb=>⟨(hV' b hb).1,(hV' b hb).2.1⟩) (Q7 fn tmps ps A B D) hS2.agr hlow2 hw2 hr
  obtain ⟨β3,T',h5,h6,h7,h8⟩:=h4 (.loop (Q7 fn tmps ps A B D .done (some (.exit id))))
  exact ⟨_,_,run_endRound (some (.exit id)) h3,false,T',rfl,⟨j',β3,h5,.inr ⟨id,hp,h8⟩⟩,h6,h7⟩
 | _=>exact hq.elim
end
def d81 (o : Out) : Bool:=(rfQ o).isSome
def rfN (o : Out) : Nat:=(dm3 o).length
theorem bw1 {w : World} {x y : Obj} : Ext w ((w.alloc x).alloc y):=(Q3 w x).trans (Q3 _ y)
section
variable {ι : Type}
theorem cn8 {c : Cx} {o : Out} {G : Gh} [i : Rd] (gf : FuncId) (lb : List Value) (X : Nat → List Value → Gh) (n n0 : Nat) (hpI : ι → List HE) (GI : ι → Gh) (pre : ι → Prop) (kk : ι → Nat) (prx : Exit → ι → Prop) (ls : ι → List Value → List SV) (N : Nat) (ms : List Nat) (j0 : ι) (hr : i.r = none) (hdm : i.dm = true) (hc : c.Ok) [hcl : CallI c.P gf]
  (hq : d81 o = true) (hF : rfF o = some (.func (.func gf) #[] lb.toArray)) (hms : L7 o.st.fr c.n = some (mkS ms)) (hn0 : c.w0.heap.size ≤ n0) (hseq : ∀ S w,Keeps c.K c.w0 w → G.p S w → (ds4 c.P gf lb X n n0).p S w)
  (hl : ∀ j,o.st.hp.length ≤ (hpI j).length) (hp0 : pre j0) (hk0 : kk j0 = 0) (hsub : bn2 o.st ⟨[],hpI j0⟩) (hok : ∀ S w,Keeps c.K c.w0 w → G.p S w → ap8 ⟨[],hpI j0⟩) (hg : ∀ S w,Keeps c.K c.w0 w → G.p S w → (GI j0).p S w)
  (hx : ∀ j x S w,pre j → kk j < n → (X (kk j) x).p S w → (ls j x).map (SV.den fun _=>0) = x ∧ SVsOk (ls j x) ∧ (ls j x).length = rfN o)
  (hA : ∀ j x,pre j → kk j < n → bf2 (rfO c.E N o (ls j x) (hpI j)) = true)
  (hB : ∀ j x (i' : Rd) (w1 : World) (S K : Nat → Prop) (m : Nat) (b : Nat → Nat),pre j → kk j < n → (Cx.rnd ⟨c.P,c.n,c.E,w1,S,K,fun _ _ _=>False,m,b⟩ hpI GI (fun j'=>pre j' ∧ kk j' = kk j + 1) prx).Ok →
   Run (Cx.rnd ⟨c.P,c.n,c.E,w1,S,K,fun _ _ _=>False,m,b⟩ hpI GI (fun j'=>pre j' ∧ kk j' = kk j + 1) prx) ⟨.code (rfB o),[],(rfO c.E N o (ls j x) (hpI j)).st,[]⟩ ((X (kk j) x).and (GI j)))
  (h1 : ∀ D j,pre j → kk j = n → Run c ⟨.ex .normal,o.k,⟨(c.n,mkS (D :: ms)) :: o.st.fr,hpI j ++ [.abs (dfE D)]⟩,[]⟩ (GI j))
  (h2 : ∀ D j e,prx e j → (e = .ret ∨ ∃ id,e = .exit id) → Run c ⟨.ex e,o.k,⟨(c.n,mkS (D :: ms)) :: o.st.fr,hpI j ++ [.abs (dfE D)]⟩,[]⟩ (GI j)) : Run c o G:=by
 refine ⟨fun β0 ρ w hS hw hG=>?_⟩
 obtain ⟨hS0,hsof⟩:=hS.sub hsub (hok _ _ hw hG)
 have hg0:=hg _ _ hw hG
 obtain ⟨hsz,hsq⟩:=hseq _ _ hw hG
 unfold rfF at hF
 unfold d81 at hq
 unfold rfN dm3 at hx
 unfold rfO dm3 rfA at hA hB
 unfold rfB at hB
 cases hQ : rfQ o with
 | none=>rw [hQ] at hq; cases hq
 | some y=>
 obtain ⟨g,psl,A,B⟩:=y
 rw [hQ] at hF hx hA hB
 simp only at hF hx hA hB
 have hcur : ∃ ps : Array Tmp,o.cur = .code (.rangeFunc g ps A B) ∧ psl = ps.toList:=by
  unfold rfQ at hQ
  split at hQ
  ·rename_i g' ps' a' b' e
   simp only [Option.some.injEq,Prod.mk.injEq] at hQ
   obtain ⟨rfl,rfl,rfl,rfl⟩:=hQ
   exact ⟨ps',e,rfl⟩
  cases hQ
 obtain ⟨ps,hcur,rfl⟩:=hcur
 have hgo : opd o.st.fr g = some (.one (.val (.func (.func gf) #[] lb.toArray))):=by
  split at hF
  ·rename_i v e
   simp only [Option.some.injEq] at hF
   subst hF
   exact e
  cases hF
 rw [hcur]
 show WqC c.P c.n (.rangeFunc g ps A B) (kQ c.P c.n c.Q o.k) ρ w
 refine db3 fun hcok D0 a hm=>?_
 simp only [H1,Bool.and_eq_true] at hcok
 obtain ⟨⟨⟨hg1,hps⟩,hokA⟩,hokB⟩:=hcok
 refine wpIn_rangeFunc fun fn _=>?_
 rw [cz8,hr]
 have hgv : a.eval g = .func (.func gf) #[] lb.toArray:=(hm.opd hg1).trans ((ah0 (fun t _=>hS.fr t)) _ hgo).1
 obtain ⟨W,hW⟩ : ∃ W,(w.alloc (.deferred (some []))).alloc (.loop (Q7 fn a.tmps ps A B w.heap.size .ready none)) = W:=⟨_,rfl⟩
 have hzW : W.heap.size = w.heap.size + 2:=by rw [← hW]; simp
 have hxW : Ext w W:=by rw [← hW]; exact bw1
 have hWl : W.heap[w.heap.size + 1]? = some (.loop (Q7 fn a.tmps ps A B w.heap.size .ready none)):=by
  rw [← hW]; have:=World.alloc_heap_new (w.alloc (.deferred (some []))) (.loop (Q7 fn a.tmps ps A B w.heap.size .ready none)); rwa [World.size_alloc] at this
 have hWD : W.heap[w.heap.size]? = some (.deferred (some [])):=by
  rw [← hW]; exact (Below.heap_alloc _ _ _ (by simp)).trans (World.alloc_heap_new w _)
 let T0 : Nat → Prop:=fun b=>(∃ i,m7 β0 (hpI j0) i b) ∨ b = w.heap.size ∨ b = w.heap.size + 1
 have hT0w : ∀ b,b < w.heap.size → T0 b → ∃ i,m7 β0 (hpI j0) i b:=by
  rintro b hb (h3 | h3 | h3)
  ·exact h3
  ·omega
  omega
 have hw0 : c.w0.heap.size ≤ w.heap.size:=hw.size
 let J : (Nat → Prop) → (Nat → Prop) → Nat → Bool → World → Prop:=fun T V k f W1=>d76 c o.st.hp.length β0 W (w.heap.size + 1) w.heap.size T0 hpI GI (fun j=>pre j ∧ kk j = k) prx (Q7 fn a.tmps ps A B w.heap.size) f T V W1
 have hJ0 : J T0 (fun _=>False) 0 true W:=by
  refine ⟨j0,β0,⟨?_,fun _ _=>rfl,.refl,?_,?_,hWD,.inr (.inr rfl),.inr (.inl rfl),fun _ hb=>hb,fun _ hb=>hb.elim,?_,fun b hb=>.inl hb⟩,⟨hp0,hk0⟩,hWl⟩
  ·exact (hS0.mem.rebase (base':=c.bs) fun i k hk=>(hS0.mem.low i k hk).1).to hxW
  ·intro i b hb
   have:=(hS0.mem.low i b hb).2
   exact ⟨.inl ⟨i,hb⟩,by omega,by omega⟩
  ·have g1:=(GI j0).mono hg0 (S':=fun b=>Sof c.S0 β0 o.st.hp b ∧ b < w.heap.size) fun b hb hs=>⟨hs,hb⟩
   refine (GI j0).mono ((GI j0).keep g1 (Keeps.of hxW)) fun b _ hb=>⟨hsof _ _ hb.1,.inl ⟨by omega,fun h3=>?_⟩⟩
   obtain ⟨i,h4⟩:=hT0w b hb.2 h3
   exact (hsof _ _ hb.1).2 i h4
  ·rintro b (⟨i,h3⟩ | h3 | h3)
   ·have:=(hS0.mem.low i b h3).2
    omega
   ·omega
   omega
 have hA' : SeqA c.P (w.heap.size + 1) X n (fun b=>(Sof c.S0 β0 o.st.hp b ∧ b < n0) ∨ n0 ≤ b) W T0 J:=by
  refine ⟨?_,?_,?_,?_⟩
  ·rintro T V k f W1 W2 ⟨j,β,h3,h4⟩ hz hT hk
   refine ⟨j,β,h3.stab hz hT hk,?_⟩
   cases f with
   | true=>exact ⟨h4.1,(hT _ (.inl h3.tl)).trans h4.2⟩
   | false=>exact h4.imp (fun h5=>⟨h5.1,(hT _ (.inl h3.tl)).trans h5.2⟩) fun ⟨id,h5⟩=>⟨id,h5.1,(hT _ (.inl h3.tl)).trans h5.2⟩
  ·rintro T V k f W1 ⟨j,β,h3,_⟩
   exact h3.lo
  ·rintro T V k f W1 ⟨j,β,h3,_⟩
   exact h3.t0
  rintro T V V' k x W1 hlt ⟨j,β,h3,⟨hp,rfl⟩,hrec⟩ hk hVV hV' hF'
  obtain ⟨x1,x2,x3⟩:=hx j x _ _ hp hlt hF'
  have hmr : @MtI ⟨some (w.heap.size + 1),false⟩ c.n [] { tmps:=a.tmps,defers:=[] } ρ:=@MtI.mk ⟨some (w.heap.size + 1),false⟩ c.n [] { tmps:=a.tmps,defers:=[] } ρ hm.size rfl hm.get
  refine cx7 (fr:=o.st.fr) (ρ:=ρ) (N:=N) hc h3 hrec (by omega) (.inr (.inr rfl)) (Nat.le_trans hw0 (Nat.le_trans hxW.size hk.size)) hmr hS.fr (hl j) hokA hokB hps x1 (SVsOk.all x2) ?_ hVV (fun b hb=>⟨(hV' b hb).1,(hV' b hb).2.1,?_⟩) hF' (hA j x hp hlt) (fun i' w1 S K m b h4=>hB j x i' w1 S K m b hp hlt h4)
  ·rw [← x1,List.length_map,x3]
   simp
  rcases (hV' b hb).2.2 with h4 | h4
  ·exact h4.1.1
  exact hc.up b (Nat.le_trans hn0 h4)
 have hkw : ∀ W3 x,Keeps (fun b=>¬ T0 b) W W3 → Keeps c.K c.w0 (W3.putObj (w.heap.size + 1) x):=by
  intro W3 x hk
  have h3 : Keeps (fun b=>¬ T0 b) w (W3.putObj (w.heap.size + 1) x):=Keeps.behind (Keeps.behind (Keeps.of hxW) hk fun b _ hb=>hb) (J3 (x:=x)) fun b hb hb2=>by omega
  refine Keeps.behind hw h3 fun b hb hb2 hT=>?_
  obtain ⟨i,h4⟩:=hT0w b (by omega) hT
  rcases (hS0.mem.low i b h4).1 with h5 | h5
  ·have h6 : c.w0.heap.size ≤ b:=h5
   omega
  exact h5 hb2
 have fin : ∀ j β T V W3 x,RngJ c o.st.hp.length β0 W (w.heap.size + 1) w.heap.size T0 hpI GI j β T V W3 →
   Sat c.bs ⟨(c.n,mkS (w.heap.size :: ms)) :: o.st.fr,hpI j ++ [.abs (dfE w.heap.size)]⟩ β (upd ρ c.n ((mkS (w.heap.size :: ms)).den β)) (W3.putObj (w.heap.size + 1) x) ∧
   (GI j).p (Sof c.S0 β (hpI j ++ [.abs (dfE w.heap.size)])) (W3.putObj (w.heap.size + 1) x) ∧
   MtI c.n D0 { a with defers:=[mkD w.heap.size] ++ a.defers } (upd ρ c.n ((mkS (w.heap.size :: ms)).den β)):=by
  intro j β T V W3 x h3
  have hD3:=h3.lo _ h3.td
  have hlen : o.st.hp.length ≤ (hpI j ++ [HE.abs (dfE w.heap.size)]).length:=by
   have:=hl j
   simp
   omega
  refine ⟨⟨fun d s hs=>?_,?_,Nat.le_trans hS.agr.1 hlen,fun i hi=>(h3.agr i (Nat.lt_of_lt_of_le hi hS.agr.1)).trans (hS.agr.2 i hi)⟩,?_,?_,?_,?_⟩
  ·rw [I2] at hs
   rw [af6]
   split at hs
   ·rename_i e
    simp only [Option.some.injEq] at hs
    subst hs
    rw [if_pos e]
    exact ⟨rfl,dv7 _⟩
   rename_i e
   rw [if_neg e]
   obtain ⟨h4,h5⟩:=hS.fr d s hs
   exact ⟨h4.trans (SV.den_congr (fun i hi=>(h3.agr i hi).symm) h5),h5.le hlen⟩
  ·refine Mem.snoc (h3.mem.keepS J3 fun i b hb=>(h3.own i b hb).2.1) ?_ ?_ ?_
   ·exact (World.putObj_heap_other (by omega)).trans h3.dfr
   ·rintro k rfl
    exact ⟨.inl hw0,by rw [World.putObj_size]; exact hD3⟩
   rintro i k hk rfl
   exact (h3.own i _ hk).2.2 rfl
  ·have g1:=(GI j).keep h3.facts ((J3 (w:=W3) (l:=w.heap.size + 1) (x:=x)).mono fun b hb=>?_)
   ·refine (GI j).mono g1 fun b _ hb=>⟨hb.1.1,fun i hi=>?_⟩
    rcases au8 hi with h4 | ⟨_,h4⟩
    ·exact hb.1.2 i h4
    have h5 : b = w.heap.size:=h4
    rcases hb.2 with h6 | h6 | h6
    ·exact h6.2 (.inr (.inl h5))
    ·exact h6.2.2 h5
    exact h3.vt b h6 (h5 ▸ h3.td)
   rcases hb.2 with h6 | h6 | h6
   ·exact fun e=>h6.2 (.inr (.inr e))
   ·exact h6.2.1
   exact fun e=>h3.vt b h6 (e ▸ h3.tl)
  ·exact hm.size
  ·show [mkD w.heap.size] ++ a.defers = bq1 (upd ρ c.n ((mkS (w.heap.size :: ms)).den β) c.n) ++ D0
   have h4:=hm.defers
   have h5 : ρ c.n = (mkS ms).den β0:=((hS.fr c.n) _ hms).1
   unfold bq1 at h4 ⊢
   rw [D9,hdm,cond_true,a81]
   rw [h5,hdm,cond_true,a81] at h4
   rw [h4]
   rfl
  intro t ht
  rw [af6,if_neg (show c.n ≠ t by omega)]
  exact hm.get t ht
 refine ⟨w.heap.size + 1,[mkD w.heap.size],W,{ target:=.fn (.func gf) lb.toArray,args:=#[ag6 (w.heap.size + 1)] },W,gf,#[ag6 (w.heap.size + 1)] ++ lb.toArray,W,?_,?_,fun f' _=>ac9 f',?_,aq8,ao2 ?_⟩
 ·rw [← hW]; exact run_enterLoop_outer _ _ _ _ _
 ·simp only [resolve,hgv]
  simp [go_sem,ag6]
 ·simp [invoke,go_sem,hcl.run]
 have h3:=hsq (w.heap.size + 1) W T0 J (Keeps.of hxW) (fun b hb hs hT=>by obtain ⟨i,h4⟩:=hT0w b hb hT; exact (hsof _ _ hs).2 i h4) hA' hJ0
 unfold Gives at h3
 have e : (ag6 (w.heap.size + 1) :: lb).toArray = #[ag6 (w.heap.size + 1)] ++ lb.toArray:=by simp
 rw [e] at h3
 refine Calls.mono h3 ?_
 rintro e W3 ⟨v,rfl,hk3,T',V',k,hJ⟩
 rcases hJ with ⟨rfl,j,β,h4,⟨hp,hkj⟩,hrec⟩ | ⟨j,β,h4,h5⟩
 ·obtain ⟨f1,f2,f3⟩:=fin j β T' V' W3 (.loop (Q7 fn a.tmps ps A B w.heap.size .exhausted none)) h4
  exact ⟨none,_,run_endLoop hrec (by simp),⟨_,f3,(h1 w.heap.size j hp hkj).run β _ _ f1 (hkw W3 _ hk3) f2⟩⟩
 rcases h5 with ⟨hp,hrec⟩ | ⟨id,hp,hrec⟩
 ·obtain ⟨f1,f2,f3⟩:=fin j β T' V' W3 (.loop (Q7 fn a.tmps ps A B w.heap.size .exhausted (some .ret))) h4
  exact ⟨some .ret,_,run_endLoop hrec (by simp),Go.wpIn_ret ⟨_,f3,(h2 w.heap.size j _ hp (.inl rfl)).run β _ _ f1 (hkw W3 _ hk3) f2⟩⟩
 obtain ⟨f1,f2,f3⟩:=fin j β T' V' W3 (.loop (Q7 fn a.tmps ps A B w.heap.size .exhausted (some (.exit id)))) h4
 exact ⟨some (.exit id),_,run_endLoop hrec (by simp),Go.wpIn_exit ⟨_,f3,(h2 w.heap.size j _ hp (.inr ⟨id,rfl⟩)).run β _ _ f1 (hkw W3 _ hk3) f2⟩⟩
end
abbrev Cx.fnD (P : Program) (fn : Func) (E : Env) (w0 : World) (S0 K : Nat → Prop) (Ψ : Value → World → Prop) : Cx:=⟨P,fn.ntmps,E,w0,S0,K,b83 P fn Ψ,0,fun _=>0⟩
theorem c30 {P : Program} {E : Env} {S0 K : Nat → Prop} {f : FuncId} {fn : Func} {code : Code} {l : List SV} {hp : List HE} {β : Nat → Nat} {args : List Value} {w : World} {Ψ : Value → World → Prop} {G : Gh} (hf : P.funcs[f]? = some fn) (hb : fn.body = some code) (hok : bd5 fn code = true)
  (hn : Nat.ble args.length fn.ntmps = true) (hl : SVsOkM hp.length l) (ha : l.map (SV.den β) = args) (hM : Mem (Bs.of w.heap.size K) hp β w) (hG : G.p (Sof S0 β hp) w)
  (h : ∀ i : Rd,i.dm = true → i.r = none → Run (Cx.fnD P fn E w S0 K Ψ) ⟨.code code,[],⟨(fn.ntmps,mkS []) :: bj9 0 l,hp⟩,[]⟩ G) : Gives P f args w Ψ:=by
 refine cv3 hf hb hok hn fun i h1 h2=>?_
 subst ha
 have h0:=bi8 (base:=Bs.of w.heap.size K) hl hM rfl
 refine (h i h1 h2).run β _ w ⟨fun d s hs=>?_,h0.mem,h0.agr⟩ .refl hG
 rw [I2] at hs
 split at hs
 ·rename_i e
  simp only [Option.some.injEq] at hs
  subst hs
  refine ⟨?_,trivial⟩
  have h3 : (l.map (SV.den β)).length ≤ d:=by rw [← e]; exact Nat.le_of_ble_eq_true hn
  show (l.map (SV.den β)).getD d undef = undef
  simp [List.getD_eq_getElem?_getD,List.getElem?_eq_none h3]
 exact h0.fr d s hs
theorem b14 {P : Program} {E : Env} {S0 : Nat → Prop} {f : FuncId} {fn : Func} {code : Code} {l : List SV} {args : List Value} {w : World} {Ψ : Value → World → Prop} {G : Gh} (hf : P.funcs[f]? = some fn) (hb : fn.body = some code) (hok : bd5 fn code = true)
  (hn : Nat.ble args.length fn.ntmps = true) (hl : SVsOk l) (ha : l.map (SV.den fun _=>0) = args) (hG : G.p S0 w)
  (h : ∀ i : Rd,i.r = none → i.dm = true → Run (Cx.fnD P fn E w S0 All Ψ) ⟨.code code,[],⟨(fn.ntmps,mkS []) :: bj9 0 l,[]⟩,[]⟩ G) : Gives P f args w Ψ:=by
 have aux : ∀ {r : List SV},SVsOk r → SVsOkM 0 r:=by
  intro r
  induction r with
  | nil=>intro _; trivial
  | cons s r ih=>intro h; exact ⟨h.1,ih h.2⟩
 exact c30 (hp:=[]) (β:=fun _=>0) hf hb hok hn (aux hl) ha (a83 (base:=Bs.of w.heap.size All) hl rfl).mem (G.mono hG fun k _ hk=>⟨hk,fun i hi=>by simp [m7] at hi⟩) fun i h1 h2=>h i h2 h1
theorem af7 {m : Nat} {hp : List HE} (hm : hp.length = m) (h : hp.foldr (fun p q=>HE.Ok m p ∧ q) True) : ap8 ⟨[],hp⟩:=by
 subst hm
 have key : ∀ {m : Nat} {l : List HE},l.foldr (fun p q=>HE.Ok m p ∧ q) True → ∀ p ∈ l,HE.Ok m p:=by
  intro m l
  induction l with
  | nil=>intro _ p hp; cases hp
  | cons x r ih=>
   intro h p hp
   rcases List.mem_cons.1 hp with rfl | hp
   ·exact h.1
   exact ih h.2 p hp
 exact ⟨fun d s hs=>(by cases hs),key h⟩
def dj7 : List HE → List Nat → List Nat → Prop
 | _,[],[]=>True
 | hp,b :: bs,D :: ms=>nth hp b = some (.abs (dfE D)) ∧ dj7 (ae1 hp b .gone) bs ms
 | _,_,_=>False
def aw2 : List HE → List Nat → List HE
 | hp,[]=>hp
 | hp,b :: bs=>aw2 (ae1 hp b .gone) bs
theorem dd8 {base : Bs} {hp : List HE} {β : Nat → Nat} {w w' : World} {b : Nat} {A : AbsE} (h : Mem base hp β w) (hb : hp[b]? = some (.abs A)) (k : Keeps (fun g=>¬ A.Q g) w w') : Mem base (hp.set b .gone) β w' ∧ ∀ i g,m7 β (hp.set b .gone) i g → m7 β hp i g:=by
 have get : ∀ {i : Nat} {e : HE},(hp.set b .gone)[i]? = some e → (b ≠ i ∧ hp[i]? = some e) ∨ e = .gone:=by
  intro i e hi
  by_cases e0 : b = i
  ·subst e0
   rw [List.getElem?_set_self (List.getElem?_eq_some_iff.1 hb).1] at hi
   exact .inr (Option.some.inj hi).symm
  rw [List.getElem?_set_ne e0] at hi
  exact .inl ⟨e0,hi⟩
 have hm : ∀ i g,m7 β (hp.set b .gone) i g → b ≠ i ∧ m7 β hp i g:=by
  rintro i g ⟨e,he,hg⟩
  rcases get he with ⟨h1,h2⟩ | rfl
  ·exact ⟨h1,e,h2,hg⟩
  exact hg.elim
 have hA : ∀ i g,b ≠ i → m7 β hp i g → ¬ A.Q g:=fun i g hne hg hq=>hne (h.apart b i g ⟨_,hb,hq⟩ hg)
 refine ⟨⟨fun i T l hi=>?_,fun i T s v n cs hi=>?_,fun i B hi=>?_,fun i g hi=>?_,fun i j g hi hj=>h.apart i j g (hm i g hi).2 (hm j g hj).2⟩,fun i g hi=>(hm i g hi).2⟩
 ·rcases get hi with ⟨h1,h2⟩ | h1
  ·exact ⟨(h.blk i T l h2).1.keep k (hA i _ h1 ⟨_,h2,rfl⟩),fun c hc=>by rw [List.length_set]; exact (h.blk i T l h2).2 c hc⟩
  cases h1
 ·rcases get hi with ⟨h1,h2⟩ | h1
  ·exact ac7 (h.row i T s v n cs h2) k fun g hg=>hA i g h1 ⟨_,h2,hg⟩
  cases h1
 ·rcases get hi with ⟨h1,h2⟩ | h1
  ·exact B.keep (h.abs i B h2) (fun g hg=>(h.low i g ⟨_,h2,hg⟩).2) k fun g hg=>hA i g h1 ⟨_,h2,hg⟩
  cases h1
 exact ⟨(h.low i g (hm i g hi).2).1,Nat.lt_of_lt_of_le (h.low i g (hm i g hi).2).2 k.size⟩
theorem do1 {c : Cx} {G : Gh} {β : Nat → Nat} {S : Nat → Prop} {K : World → Prop} : ∀ {ms bs : List Nat} {hp : List HE} {w : World},dj7 hp bs ms → Mem c.bs hp β w → Keeps c.K c.w0 w → (∀ k,S k → ∀ i,¬ m7 β hp i k) → G.p S w →
  (∀ w',Mem c.bs (aw2 hp bs) β w' → Keeps c.K c.w0 w' → G.p S w' → K w') → a40 c.P (ms.map mkD) w K:=by
 intro ms
 induction ms with
 | nil=>
  intro bs hp w hd hM hw hS hG hK
  cases bs with
  | nil=>exact hK w hM hw hG
  | cons b bs=>exact hd.elim
 | cons D ms ih=>
  intro bs hp w hd hM hw hS hG hK
  cases bs with
  | nil=>exact hd.elim
  | cons b bs=>
   obtain ⟨h1,h2⟩:=hd
   rw [X9] at h1
   have h3 : w.heap[D]? = some (.deferred (some [])):=hM.abs b _ h1
   have hk : Keeps (fun g=>g ≠ D) w (w.putObj D (.deferred none)):=J3
   obtain ⟨h4,h5⟩:=dd8 hM h1 (w':=w.putObj D (.deferred none)) (hk.mono fun g hg=>hg)
   refine ⟨D,_,rfl,run_takeDeferred h3,ih (hp:=ae1 hp b .gone) h2 ?_ ?_ ?_ ?_ hK⟩
   ·rw [S5]; exact h4
   ·exact Mem.grow hM hw hk b fun i hi=>⟨_,h1,Classical.not_not.1 hi⟩
   ·intro k hk i hi
    rw [S5] at hi
    exact hS k hk i (h5 i k hi)
   refine G.keep hG (hk.mono fun g hg e=>hS g hg b ⟨_,h1,e⟩)
theorem bq7 : ∀ {bs : List Nat} {hp : List HE},(aw2 hp bs).length = hp.length:=by
 intro bs
 induction bs with
 | nil=>intro hp; rfl
 | cons b bs ih=>intro hp; simp only [aw2]; rw [ih,S5,List.length_set]
theorem dw1 [Rd] {c : Cx} {fn : Func} {Ψ : Value → World → Prop} {rs : List ResultVar} {o : Out} {G : Gh} (v : Value) (ms bs : List Nat) (hc : c.Ok) (hQ : c.Q = b83 c.P fn Ψ) (hn : c.n = fn.ntmps) (hrs : fn.results.toList = rs) (he : ag2 o = true)
  (hms : L7 o.st.fr c.n = some (mkS ms)) (hbs : dj7 o.st.hp bs ms) (hv : ∀ β,af5 c.E rs ⟨o.st.fr,aw2 o.st.hp bs⟩ β = some v)
  (h : ∀ β S w,Mem c.bs (aw2 o.st.hp bs) β w → (∀ k,S k → Sof c.S0 β o.st.hp k) → Keeps c.K c.w0 w → G.p S w → Ψ v w) : Run c o G:=by
 refine ⟨fun β ρ w hS hw hG=>?_⟩
 have hend : ∀ e,e = Exit.ret ∨ e = Exit.normal → b83 c.P fn Ψ e ρ w:=by
  have h0 : a40 c.P (bk0 (ρ fn.ntmps)) w fun w'=>∃ vs,R1 c.P ρ w' fn.results.toList vs ∧ Ψ (bd3 vs) w':=by
   rw [← hn,((hS.fr c.n) _ hms).1,a81]
   refine do1 (S:=Sof c.S0 β o.st.hp) hbs hS.mem hw (fun k hk=>hk.2) hG fun w' hM' hw' hG'=>?_
   have h1:=hv β
   unfold af5 at h1
   cases hl : aq7 c.E ⟨o.st.fr,aw2 o.st.hp bs⟩ rs with
   | none=>rw [hl] at h1; cases h1
   | some l=>
    rw [hl] at h1
    simp only [Option.map_some,Option.some.injEq] at h1
    have hS' : Sat c.bs ⟨o.st.fr,aw2 o.st.hp bs⟩ β ρ w':=⟨fun d s hs=>by rw [bq7]; exact hS.fr d s hs,hM',by rw [bq7]; exact hS.agr.1,hS.agr.2⟩
    have h2:=a32 hc.env hS' hl
    exact ⟨_,hrs ▸ h2,h1 ▸ h β _ w' hM' (fun k hk=>hk) hw' hG'⟩
  rintro e (rfl | rfl) <;> exact h0
 unfold ag2 at he
 split at he <;> first | (cases he; done) | skip
 ·rename_i e1 e2
  rw [e1,e2]
  show c.Q .ret ρ w
  rw [hQ]
  exact hend _ (.inl rfl)
 rename_i e1 e2
 rw [e1,e2]
 show c.Q .normal ρ w
 rw [hQ]
 exact hend _ (.inr rfl)
theorem c52 [Rd] {P : Program} {fn : Func} {E : Env} {w0 : World} {S0 K : Nat → Prop} {Ψ : Value → World → Prop} {rs : List ResultVar} {o : Out} {G : Gh} (v : Value) (ms bs : List Nat) (hc : (Cx.fnD P fn E w0 S0 K Ψ).Ok) (hv0 : (ex (Cx.fnD P fn E w0 S0 K Ψ) o).vc = []) (hrs : fn.results.toList = rs) (he : ag2 (ex (Cx.fnD P fn E w0 S0 K Ψ) o) = true)
  (hms : L7 (ex (Cx.fnD P fn E w0 S0 K Ψ) o).st.fr fn.ntmps = some (mkS ms)) (hbs : dj7 (ex (Cx.fnD P fn E w0 S0 K Ψ) o).st.hp bs ms) (hv : ∀ β,af5 E rs ⟨(ex (Cx.fnD P fn E w0 S0 K Ψ) o).st.fr,aw2 (ex (Cx.fnD P fn E w0 S0 K Ψ) o).st.hp bs⟩ β = some v)
  (h : ∀ β S w,Mem (Bs.of w0.heap.size K) (aw2 (ex (Cx.fnD P fn E w0 S0 K Ψ) o).st.hp bs) β w → (∀ k,S k → Sof S0 β (ex (Cx.fnD P fn E w0 S0 K Ψ) o).st.hp k) → Keeps K w0 w → G.p S w → Ψ v w) : Run (Cx.fnD P fn E w0 S0 K Ψ) o G:=
 ab4 hc hv0 (dw1 v ms bs hc rfl rfl hrs he hms hbs hv h)
def ml (m : M3) (n : Nat) : Prop:=tl m.a n ∧ tl m.b n ∧ tl m.c n
section
variable {S S' : Nat → Prop} {w w' : World} {v : Value} {m : M3}
end
theorem c96 {m : M3} (h : m.a.None) : m.det = 0:=by
 obtain ⟨h1,h2,h3⟩:=h
 unfold M3.det T3.dot
 rw [h1,h2,h3]
 grind
section
variable {c : Cx} {st : St} {G : Gh} {all : List Oper} {K : List HRec → Prop} {acc : List HRec} {ops : List Oper}
theorem cc1 (u : (Nat → Value) → Value) (V : Value) (n : Nat) (i : Int) (sz : Nat) (hc : c.Ok) (hok : ∀ η,ap1 all st acc ops η = true) (hq : ∀ η,dg1 c st acc ops η = some (u η,n,i,sz)) (h0 : 0 ≤ i) (h1 : i < n)
  (h : ∀ β η S w,Mem c.bs st.hp β w → Keeps c.K c.w0 w → G.p S w → depsH acc (opH ops).after.toList η S w → ∃ b k,u η = .pointer (some ⟨b,k,none⟩) ∧ V = o8 (u η) (i.toNat * sz))
  (k : Hd c st G all K (.spec ((opH ops).dst.getD 0) (fun x=>.one (.val x)) (fun x=>A7 (x = V)) :: acc) (ops.drop 1)) : Hd c st G all K acc ops:=by
 refine a69 (fun x=>.one (.val x)) (fun x=>A7 (x = V)) hok (fun β η S w F m ty hkn hup hM hS hw hG hd=>?_) k
 have hq:=hq η
 obtain ⟨b,k',hu,hV⟩:=h β η S w hM hw hG hd
 generalize u η = uu at hq hu hV
 unfold dg1 at hq
 split at hq <;> first | (cases hq; done) | skip
 rename_i T x ix hop
 split at hq <;> first | (cases hq; done) | skip
 rename_i v kd z n' e hx hix hk
 cases hte : c.E.get e with
 | none=>rw [hte] at hq; cases hq
 | some te=>
  rw [hte] at hq
  simp only [Option.map_some,Option.some.injEq,Prod.mk.injEq] at hq
  obtain ⟨rfl,rfl,rfl,rfl⟩:=hq
  have hkd:=E8 (t:=T) hc.env
  rw [hk] at hkd
  have hkd' : c.P.underlying T = some (.array n' e):=hkd
  obtain ⟨zz,hty,_⟩:=(hc.env.get hte).ty
  rw [hop] at hkn ⊢
  have g1 : ev F x = .pointer (some ⟨b,k',none⟩):=by rw [(hkn x (by simp [Op.operands]) _ hx).1]; exact hu
  have g2:=(hkn ix (by simp [Op.operands]) _ hix).1
  refine ⟨o8 v (z.toNat * te.size),?_,rfl,an4 _ _,hV.symm⟩
  rw [hu]
  intro d pos aft g
  simp [execOp,g1,g2,SV.den,Ch.den,Instr.indexAt,asIntOf,run_underlying hkd',Instr.sureAddr,h0,h1,hty.runSize w,Z8,o8]
end
def M3.rows (m : M3) : List T3:=[m.a,m.b,m.c]
def MapV (S : Nat → Prop) (w : World) (v : Value) (m : M3) : Prop:=(SV.one (.ag 27 v)).Ok 0 ∧ ∃ vs,v.cells.toList = H7 vs ∧ ElsV true 9 ad5 S w vs m.rows
abbrev av6 (v : Value) (m : M3) : Gh:=⟨fun S w=>MapV S w v m,fun ⟨o,vs,h1,h2⟩ k=>⟨o,vs,h1,(a67 true 9 ad5 vs m.rows).keep h2 k⟩,fun ⟨o,vs,h1,h2⟩ k=>⟨o,vs,h1,(a67 true 9 ad5 vs m.rows).mono h2 k⟩⟩
theorem MapV.ok {S : Nat → Prop} {w : World} {v : Value} {m : M3} (h : MapV S w v m) : (SV.one (.ag 27 v)).Ok 0:=h.1
def MapP (S : Nat → Prop) (w : World) (u : Value) (m : M3) : Prop:=∃ vs,At S w u (H7 vs) ∧ ElsV true 9 ad5 S w vs m.rows
abbrev ci9 (u : Value) (m : M3) : Gh:=⟨fun S w=>MapP S w u m,fun ⟨vs,h1,h2⟩ k=>⟨vs,h1.keep k,(a67 true 9 ad5 vs m.rows).keep h2 k⟩,fun ⟨vs,h1,h2⟩ k=>⟨vs,h1.mono k,(a67 true 9 ad5 vs m.rows).mono h2 k⟩⟩
section
variable {S : Nat → Prop} {w : World} {u : Value} {m : M3}
theorem MapP.ptr (h : MapP S w u m) : ∃ b k,u = .pointer (some ⟨b,k,none⟩):=by
 obtain ⟨vs,⟨b,o,_,_,_,h1,_⟩,_⟩:=h
 exact ⟨b,o,h1⟩
theorem MapP.el (h : MapP S w u m) {i : Nat} {t : T3} {p : Value} (hi : m.rows[i]? = some t) (hp : p = o8 u (i * 9)) : ∃ S' x,U2 true 9 x ∧ At S' w p x.cells.toList ∧ (j6 x t).p S w:=by
 subst hp
 obtain ⟨vs,h1,h2⟩:=h
 have hl : i < vs.length:=by rw [h2.len]; exact (List.getElem?_eq_some_iff.1 hi).1
 have hx : vs[i]? = some vs[i]:=List.getElem?_eq_getElem hl
 exact ⟨S,vs[i],h2.lies _ (List.getElem_mem _),h1.part h2.lies hx,h2.el i t _ hi hx⟩
theorem X7 {u : Value} {a b : Nat} (h : ∃ g k,u = .pointer (some ⟨g,k,none⟩)) : o8 (o8 u a) b = o8 u (a + b):=by
 obtain ⟨g,k,rfl⟩:=h
 simp [o8,Nat.add_assoc]
theorem MapP.num (h : MapP S w u m) {r j : Nat} {t : T3} {q : Rat} {p : Value} (hr : m.rows[r]? = some t) (hj : t.list[j]? = some q) (hp : p = o8 u (r * 9 + j * 3)) : ∃ S' x,U2 true 3 x ∧ At S' w p x.cells.toList ∧ (b8 x q).p S w:=by
 subst hp
 obtain ⟨S',y,_,h2,a,b,c,hy,ha,hb,hc⟩:=h.el hr rfl
 have hl : ∀ x ∈ [a,b,c],U2 true 3 x:=by
  intro x hx
  simp only [List.mem_cons,List.not_mem_nil,or_false] at hx
  rcases hx with rfl | rfl | rfl
  ·exact ha.lies
  ·exact hb.lies
  exact hc.lies
 rw [hy,ak5 ha.lies hb.lies hc.lies] at h2
 have key : ∀ {x : Value},[a,b,c][j]? = some x → RatV S w x q → ∃ S' x,U2 true 3 x ∧ At S' w (o8 u (r * 9 + j * 3)) x.cells.toList ∧ (b8 x q).p S w:=fun {x} hx hq=>by
  have h3:=h2.part hl hx
  rw [X7 h.ptr] at h3
  exact ⟨S',x,hq.lies,h3,hq⟩
 match j,hj with
 | 0,hj=>simp [T3.list] at hj; subst hj; exact key rfl ha
 | 1,hj=>simp [T3.list] at hj; subst hj; exact key rfl hb
 | 2,hj=>simp [T3.list] at hj; subst hj; exact key rfl hc
 | j + 3,hj=>simp [T3.list] at hj
theorem b99 {v : Value} {T : TypeId} (h : (ca3 u T (d8 (fun _=>0) [.ag 27 v])).p S w) (hv : MapV S w v m) : MapP S w u m:=by
 obtain ⟨b,rfl,hs,hB⟩:=h
 rw [U6] at hB
 obtain ⟨_,vs,e1,e2⟩:=hv
 refine ⟨vs,?_,e2⟩
 rw [← e1]
 exact ⟨b,0,v.cells.toList.toArray,T,(0,0),rfl,hs,hB,by simp,by rw [List.drop_zero]; exact List.take_of_length_le (Nat.le_refl _)⟩
end
def M3.mnr (m : M3) (k : Nat) : Rat:=[(m.b.cross m.c).x,(m.b.cross m.c).y,(m.b.cross m.c).z,(m.c.cross m.a).x,(m.c.cross m.a).y,(m.c.cross m.a).z,(m.a.cross m.b).x,(m.a.cross m.b).y,(m.a.cross m.b).z].getD k 0
def a07 (m : M3) (k : Nat) (x : List Value) : Gh:=(A7 (x = [.agg #[.int .i64 ((k / 3 : Nat) : Int),.int .i64 ((k % 3 : Nat) : Int)],x.getD 1 undef])).and (b8 (x.getD 1 undef) (m.mnr k))
theorem cd6 {S : Nat → Prop} {w : World} {u : Value} {m : M3} {k n0 : Nat} (hn0 : n0 ≤ w.heap.size) (o : u.oneCell' = true) (h : MapP S w u m) (hk : ml m k) (hk2 : 2 * (2 * k + 1) + 1 ≤ 3344) : d11 prog 184 [u] (a07 m) 9 n0 S w:=by
 refine d33 (E:=env) (ls:=[.one (.val u)]) (G:=(ci9 u m).and Gh.nil) hn0 func184 rfl rfl rfl ⟨o,trivial⟩ rfl ⟨h,trivial⟩ ?_
 intro l W T0 J S0 hS hl q hB
 refine bh7 ⟨b9,hS,hl⟩ (by kernel_rfl) ?_
 refine I3 13 ⟨b9,hS,hl⟩ ?_
 refine d9 3 ?_
 refine I5 u 3 1 9 ⟨b9,hS,hl⟩ (by decide) (by decide) (fun β η S w hM hw hG hd=>hG.1.ptr) ?_
 refine B8 (fun η=>η 3) 54 9 true (fun x0=>.one (.ag 9 x0)) (fun x0=>j6 x0 (m.b)) ⟨b9,hS,hl⟩ (fun β η S w hM hw hG hd=>hG.1.el (i:=1) rfl (n9 hd 3 : (A7 ((η 3) = o8 u (Int.toNat 1 * 9))).p S w)) ?_
 refine d9 3 ?_
 refine I5 u 3 2 9 ⟨b9,hS,hl⟩ (by decide) (by decide) (fun β η S w hM hw hG hd=>hG.1.ptr) ?_
 refine B8 (fun η=>η 8) 54 9 true (fun x0=>.one (.ag 9 x0)) (fun x0=>j6 x0 (m.c)) ⟨b9,hS,hl⟩ (fun β η S w hM hw hG hd=>hG.1.el (i:=2) rfl (n9 hd 8 : (A7 ((η 8) = o8 u (Int.toNat 2 * 9))).p S w)) ?_
 refine h_1 (fun x0=>.agg [.ag 3 (cel x0 0 3),.ag 3 (cel x0 3 3),.ag 3 (cel x0 6 3)]) (fun x0=>O5 x0 ((m.b.cross m.c))) (fun η=>(by kernel_rfl)) (fun _ _ _ h=>W5 h) (fun β η S w hS hs hw hG hd=>have h:=hG.1; (kx ((J7 hS (n9 hd 4 : (j6 (η 4) (m.b)).p S w) (n9 hd 9 : (j6 (η 9) (m.c)).p S w) hk.2.1 hk.2.2 (by omega)).mono fun v' w' h=>⟨h.1,bn9 h.2⟩))) ?_
 refine d9 2 ?_
 refine o6 [true,false,false,false,false] ((ci9 u m).and (Gh.nil)) (by exact fun _ _ h=>⟨h.1,trivial⟩) (fun g η=>(O5 (η 10) ((m.b.cross m.c))).and g) (fun g η=>(by kernel_rfl)) ?_
 intro η_1
 refine bh7 ⟨b9,hS,hl⟩ (by kernel_rfl) ?_
 refine J6 ⟨b9,hS,hl⟩ (ae8 q 0 T0 (fun _=>False) (fun _=>none) 0 [.agg #[.int .i64 0,.int .i64 0],cel (η_1 10) 0 3] ⟨b9,hS,hl⟩ rfl rfl hB (by decide) (by kernel_rfl) (by kernel_rfl) (fun β S w hw hG=>⟨(by kernel_rfl),⟨rfl,hG.1.2.1⟩,fun b hb=>hb.elim⟩) (fun T1 V1 C1=>?_) (fun T1 V1 C1=>?_))
 rotate_left
 ·exact ah3 (.tuple #[]) ⟨b9,hS,hl⟩ (by kernel_rfl) rfl (by kernel_rfl) (fun β=>rfl) (fun β S w hM hs hw hG=>ab6 (b:=0) (f:=false) (T:=T1) (k:=0 + 1) hM (by kernel_rfl) hG.1 hw (fun h=>by cases h))
 refine J6 ⟨b9,hS,hl⟩ (ae8 q 0 T1 V1 C1 1 [.agg #[.int .i64 0,.int .i64 1],cel (η_1 10) 3 3] ⟨b9,hS,hl⟩ rfl rfl hB (by decide) (by kernel_rfl) (by kernel_rfl) (fun β S w hw hG=>⟨(by kernel_rfl),⟨rfl,hG.2.1.2.2.1⟩,hG.1⟩) (fun T2 V2 C2=>?_) (fun T2 V2 C2=>?_))
 rotate_left
 ·exact ah3 (.tuple #[]) ⟨b9,hS,hl⟩ (by kernel_rfl) rfl (by kernel_rfl) (fun β=>rfl) (fun β S w hM hs hw hG=>ab6 (b:=0) (f:=false) (T:=T2) (k:=1 + 1) hM (by kernel_rfl) hG.1 hw (fun h=>by cases h))
 refine J6 ⟨b9,hS,hl⟩ (ae8 q 0 T2 V2 C2 2 [.agg #[.int .i64 0,.int .i64 2],cel (η_1 10) 6 3] ⟨b9,hS,hl⟩ rfl rfl hB (by decide) (by kernel_rfl) (by kernel_rfl) (fun β S w hw hG=>⟨(by kernel_rfl),⟨rfl,hG.2.2.1.2.2.2⟩,hG.1⟩) (fun T3 V3 C3=>?_) (fun T3 V3 C3=>?_))
 rotate_left
 ·exact ah3 (.tuple #[]) ⟨b9,hS,hl⟩ (by kernel_rfl) rfl (by kernel_rfl) (fun β=>rfl) (fun β S w hM hs hw hG=>ab6 (b:=0) (f:=false) (T:=T3) (k:=2 + 1) hM (by kernel_rfl) hG.1 hw (fun h=>by cases h))
 refine bh7 ⟨b9,hS,hl⟩ (by kernel_rfl) ?_
 refine I3 13 ⟨b9,hS,hl⟩ ?_
 refine d9 3 ?_
 refine I5 u 3 2 9 ⟨b9,hS,hl⟩ (by decide) (by decide) (fun β η S w hM hw hG hd=>hG.2.2.2.2.1.ptr) ?_
 refine B8 (fun η=>η 3) 54 9 true (fun x0=>.one (.ag 9 x0)) (fun x0=>j6 x0 (m.c)) ⟨b9,hS,hl⟩ (fun β η S w hM hw hG hd=>hG.2.2.2.2.1.el (i:=2) rfl (n9 hd 3 : (A7 ((η 3) = o8 u (Int.toNat 2 * 9))).p S w)) ?_
 refine d9 3 ?_
 refine I5 u 3 0 9 ⟨b9,hS,hl⟩ (by decide) (by decide) (fun β η S w hM hw hG hd=>hG.2.2.2.2.1.ptr) ?_
 refine B8 (fun η=>η 8) 54 9 true (fun x0=>.one (.ag 9 x0)) (fun x0=>j6 x0 (m.a)) ⟨b9,hS,hl⟩ (fun β η S w hM hw hG hd=>hG.2.2.2.2.1.el (i:=0) rfl (n9 hd 8 : (A7 ((η 8) = o8 u (Int.toNat 0 * 9))).p S w)) ?_
 refine h_1 (fun x0=>.agg [.ag 3 (cel x0 0 3),.ag 3 (cel x0 3 3),.ag 3 (cel x0 6 3)]) (fun x0=>O5 x0 ((m.c.cross m.a))) (fun η=>(by kernel_rfl)) (fun _ _ _ h=>W5 h) (fun β η S w hS hs hw hG hd=>have h:=hG.2.2.2.2.1; (kx ((J7 hS (n9 hd 4 : (j6 (η 4) (m.c)).p S w) (n9 hd 9 : (j6 (η 9) (m.a)).p S w) hk.2.2 hk.1 (by omega)).mono fun v' w' h=>⟨h.1,bn9 h.2⟩))) ?_
 refine d9 2 ?_
 refine o6 [true,false,false,false,false] ((cf7 V3 C3).and ((ci9 u m).and (Gh.nil))) (by exact fun _ _ h=>⟨h.1,h.2.2.2.2.1,trivial⟩) (fun g η=>(O5 (η 10) ((m.c.cross m.a))).and g) (fun g η=>(by kernel_rfl)) ?_
 intro η_2
 refine bh7 ⟨b9,hS,hl⟩ (by kernel_rfl) ?_
 refine J6 ⟨b9,hS,hl⟩ (ae8 q 0 T3 V3 C3 3 [.agg #[.int .i64 1,.int .i64 0],cel (η_2 10) 0 3] ⟨b9,hS,hl⟩ rfl rfl hB (by decide) (by kernel_rfl) (by kernel_rfl) (fun β S w hw hG=>⟨(by kernel_rfl),⟨rfl,hG.1.2.1⟩,hG.2.1⟩) (fun T4 V4 C4=>?_) (fun T4 V4 C4=>?_))
 rotate_left
 ·exact ah3 (.tuple #[]) ⟨b9,hS,hl⟩ (by kernel_rfl) rfl (by kernel_rfl) (fun β=>rfl) (fun β S w hM hs hw hG=>ab6 (b:=0) (f:=false) (T:=T4) (k:=3 + 1) hM (by kernel_rfl) hG.1 hw (fun h=>by cases h))
 refine J6 ⟨b9,hS,hl⟩ (ae8 q 0 T4 V4 C4 4 [.agg #[.int .i64 1,.int .i64 1],cel (η_2 10) 3 3] ⟨b9,hS,hl⟩ rfl rfl hB (by decide) (by kernel_rfl) (by kernel_rfl) (fun β S w hw hG=>⟨(by kernel_rfl),⟨rfl,hG.2.1.2.2.1⟩,hG.1⟩) (fun T5 V5 C5=>?_) (fun T5 V5 C5=>?_))
 rotate_left
 ·exact ah3 (.tuple #[]) ⟨b9,hS,hl⟩ (by kernel_rfl) rfl (by kernel_rfl) (fun β=>rfl) (fun β S w hM hs hw hG=>ab6 (b:=0) (f:=false) (T:=T5) (k:=4 + 1) hM (by kernel_rfl) hG.1 hw (fun h=>by cases h))
 refine J6 ⟨b9,hS,hl⟩ (ae8 q 0 T5 V5 C5 5 [.agg #[.int .i64 1,.int .i64 2],cel (η_2 10) 6 3] ⟨b9,hS,hl⟩ rfl rfl hB (by decide) (by kernel_rfl) (by kernel_rfl) (fun β S w hw hG=>⟨(by kernel_rfl),⟨rfl,hG.2.2.1.2.2.2⟩,hG.1⟩) (fun T6 V6 C6=>?_) (fun T6 V6 C6=>?_))
 rotate_left
 ·exact ah3 (.tuple #[]) ⟨b9,hS,hl⟩ (by kernel_rfl) rfl (by kernel_rfl) (fun β=>rfl) (fun β S w hM hs hw hG=>ab6 (b:=0) (f:=false) (T:=T6) (k:=5 + 1) hM (by kernel_rfl) hG.1 hw (fun h=>by cases h))
 refine bh7 ⟨b9,hS,hl⟩ (by kernel_rfl) ?_
 refine I3 13 ⟨b9,hS,hl⟩ ?_
 refine d9 3 ?_
 refine I5 u 3 0 9 ⟨b9,hS,hl⟩ (by decide) (by decide) (fun β η S w hM hw hG hd=>hG.2.2.2.2.2.1.ptr) ?_
 refine B8 (fun η=>η 3) 54 9 true (fun x0=>.one (.ag 9 x0)) (fun x0=>j6 x0 (m.a)) ⟨b9,hS,hl⟩ (fun β η S w hM hw hG hd=>hG.2.2.2.2.2.1.el (i:=0) rfl (n9 hd 3 : (A7 ((η 3) = o8 u (Int.toNat 0 * 9))).p S w)) ?_
 refine d9 3 ?_
 refine I5 u 3 1 9 ⟨b9,hS,hl⟩ (by decide) (by decide) (fun β η S w hM hw hG hd=>hG.2.2.2.2.2.1.ptr) ?_
 refine B8 (fun η=>η 8) 54 9 true (fun x0=>.one (.ag 9 x0)) (fun x0=>j6 x0 (m.b)) ⟨b9,hS,hl⟩ (fun β η S w hM hw hG hd=>hG.2.2.2.2.2.1.el (i:=1) rfl (n9 hd 8 : (A7 ((η 8) = o8 u (Int.toNat 1 * 9))).p S w)) ?_
 refine h_1 (fun x0=>.agg [.ag 3 (cel x0 0 3),.ag 3 (cel x0 3 3),.ag 3 (cel x0 6 3)]) (fun x0=>O5 x0 ((m.a.cross m.b))) (fun η=>(by kernel_rfl)) (fun _ _ _ h=>W5 h) (fun β η S w hS hs hw hG hd=>have h:=hG.2.2.2.2.2.1; (kx ((J7 hS (n9 hd 4 : (j6 (η 4) (m.a)).p S w) (n9 hd 9 : (j6 (η 9) (m.b)).p S w) hk.1 hk.2.1 (by omega)).mono fun v' w' h=>⟨h.1,bn9 h.2⟩))) ?_
 refine d9 2 ?_
 refine o6 [true,false,false,false,false] ((cf7 V6 C6).and (Gh.nil)) (by exact fun _ _ h=>⟨h.1,trivial⟩) (fun g η=>(O5 (η 10) ((m.a.cross m.b))).and g) (fun g η=>(by kernel_rfl)) ?_
 intro η_3
 refine bh7 ⟨b9,hS,hl⟩ (by kernel_rfl) ?_
 refine J6 ⟨b9,hS,hl⟩ (ae8 q 0 T6 V6 C6 6 [.agg #[.int .i64 2,.int .i64 0],cel (η_3 10) 0 3] ⟨b9,hS,hl⟩ rfl rfl hB (by decide) (by kernel_rfl) (by kernel_rfl) (fun β S w hw hG=>⟨(by kernel_rfl),⟨rfl,hG.1.2.1⟩,hG.2.1⟩) (fun T7 V7 C7=>?_) (fun T7 V7 C7=>?_))
 rotate_left
 ·exact ah3 (.tuple #[]) ⟨b9,hS,hl⟩ (by kernel_rfl) rfl (by kernel_rfl) (fun β=>rfl) (fun β S w hM hs hw hG=>ab6 (b:=0) (f:=false) (T:=T7) (k:=6 + 1) hM (by kernel_rfl) hG.1 hw (fun h=>by cases h))
 refine J6 ⟨b9,hS,hl⟩ (ae8 q 0 T7 V7 C7 7 [.agg #[.int .i64 2,.int .i64 1],cel (η_3 10) 3 3] ⟨b9,hS,hl⟩ rfl rfl hB (by decide) (by kernel_rfl) (by kernel_rfl) (fun β S w hw hG=>⟨(by kernel_rfl),⟨rfl,hG.2.1.2.2.1⟩,hG.1⟩) (fun T8 V8 C8=>?_) (fun T8 V8 C8=>?_))
 rotate_left
 ·exact ah3 (.tuple #[]) ⟨b9,hS,hl⟩ (by kernel_rfl) rfl (by kernel_rfl) (fun β=>rfl) (fun β S w hM hs hw hG=>ab6 (b:=0) (f:=false) (T:=T8) (k:=7 + 1) hM (by kernel_rfl) hG.1 hw (fun h=>by cases h))
 refine J6 ⟨b9,hS,hl⟩ (ae8 q 0 T8 V8 C8 8 [.agg #[.int .i64 2,.int .i64 2],cel (η_3 10) 6 3] ⟨b9,hS,hl⟩ rfl rfl hB (by decide) (by kernel_rfl) (by kernel_rfl) (fun β S w hw hG=>⟨(by kernel_rfl),⟨rfl,hG.2.2.1.2.2.2⟩,hG.1⟩) (fun T9 V9 C9=>?_) (fun T9 V9 C9=>?_))
 rotate_left
 ·exact ah3 (.tuple #[]) ⟨b9,hS,hl⟩ (by kernel_rfl) rfl (by kernel_rfl) (fun β=>rfl) (fun β S w hM hs hw hG=>ab6 (b:=0) (f:=false) (T:=T9) (k:=8 + 1) hM (by kernel_rfl) hG.1 hw (fun h=>by cases h))
 exact ah3 (.tuple #[]) ⟨b9,hS,hl⟩ (by kernel_rfl) rfl (by kernel_rfl) (fun β=>rfl) (fun β S w hM hs hw hG=>ab6 (b:=0) (f:=true) (T:=T9) (k:=9) hM (by kernel_rfl) hG.1 hw (fun _=>rfl))
def itV (u : Value) : Value:=.func (.func 184) #[] #[u]
def db9 (v : Value) : Value:=match v with | .func _ _ caps=>caps.getD 0 undef | _=>undef
def itS (v : Value) : SV:=.one (.val (itV (db9 v)))
abbrev itG (v : Value) (m : M3) (n0 : Nat) : Gh:=(A7 (v = itV (db9 v))).and (ds4 prog 184 [db9 v] (a07 m) 9 n0)
theorem de1 {S : Nat → Prop} {w : World} {v : Value} {m : M3} {n0 : Nat} (h : (itG v m n0).p S w) : (itS v).Ok 0 ∧ (itS v).den (fun _=>0) = v:=⟨rfl,h.1.symm⟩
theorem bp3 {S : Nat → Prop} {w : World} {v : Value} {m : M3} {k n0 : Nat} (hn0 : n0 ≤ w.heap.size) (hS : Up S w) (h : MapV S w v m) (hk : ml m k) (hk2 : 2 * (2 * k + 1) + 1 ≤ 3344) :
  Gives prog 143 [v] w fun v' w'=>Ext w w' ∧ (itG v' m n0).p S w':=by
 refine p7 (E:=env) (S0:=S) (G:=(av6 v m)) (l:=[.one (.ag 27 v)]) func143 rfl rfl rfl ⟨h.ok,trivial⟩ rfl h ?_
 refine n7 (I0 0 98 ([.ag 27 v]) (fun u1=>?_))
 exact p9 (itV u1) rfl (fun S w hs hw hG=>⟨hw,(itG (itV u1) m n0).mono ⟨rfl,Nat.le_trans hn0 hw.size,cd6 (Nat.le_trans hn0 hw.size) (G7 hG.1) (b99 hG.1 hG.2) hk hk2⟩ fun k _ hk=>hs k hk⟩)
noncomputable def M5 (z : Int) : Int:=IntKind.u64.wrap z % 7 - 3
theorem b00 (z : Int) : -3 ≤ M5 z ∧ M5 z ≤ 3:=by unfold M5; omega
theorem af3 {S : Nat → Prop} {w : World} {z : Int} (hS : Up S w) :
  Gives prog 13 [.int .i64 z,.int .i64 3] w fun v' w'=>v' = .int .i64 (M5 z) ∧ Ext w w':=by
 have hz:=bc8 z
 refine p7 (E:=env) (S0:=S) (G:=Gh.nil) (l:=[.one (.int .i64 z),.one (.lit .i64 3)]) func13 rfl rfl rfl ⟨trivial,trivial,trivial⟩ rfl trivial ?_
 refine am2 (ps:=[InR .i64 (IntKind.u64.wrap z % 7 - 3),InR .i64 (IntKind.u64.wrap z % 7),0 ≤ IntKind.u64.wrap z ∧ (0 : Int) < 7]) (by simp only [O0,InR,and_true]; omega) ?_
 exact p9 (.int .i64 (IntKind.u64.wrap z % 7 - 3)) rfl (fun S w hs hw hG=>⟨rfl,hw⟩)
theorem cc8 {z : Int} (h : z.natAbs < 1000000000) : rl (z : Rat) 1:=⟨M7 (k:=1) (by show z.natAbs < _; omega),M7 (k:=1) (show 1 < 1000000000 ^ 1 by decide)⟩
theorem dj6 {z : Int} (h : z.natAbs < 1000000000) : I63 z:=by unfold I63; omega
theorem fc9 : rl (1 : Rat) 1:=N3 (by decide) (by decide)
theorem fb4 : rl (0 : Rat) 1:=N3 (by decide) (by decide)
def M3.part (m : M3) : Nat → Rat
 | 0=>0
 | 1=>m.a.x * (m.b.cross m.c).x
 | 2=>m.a.x * (m.b.cross m.c).x + m.a.y * (m.b.cross m.c).y
 | _=>m.det
def aa0 : Value:=.agg #[.bool false,.slice none 0 0,.slice none 0 0]
def c25 (k : Nat) (x : List Value) : List SV:=[.agg [.lit .i64 ((k / 3 : Nat) : Int),.lit .i64 ((k % 3 : Nat) : Int)],.one (.ag 3 (x.getD 1 undef))]
theorem cq6 {S : Nat → Prop} {w : World} {m : M3} {k : Nat} {x : List Value} (h : (a07 m k x).p S w) : (c25 k x).map (SV.den fun _=>0) = x ∧ SVsOk (c25 k x) ∧ (c25 k x).length = 2:=
 ⟨by rw [show x = _ from h.1]; rfl,⟨K0 ⟨trivial,trivial,trivial⟩,h.2.ok,trivial⟩,rfl⟩
theorem dz7 {u : Value} (h : ∃ b k,u = .pointer (some ⟨b,k,none⟩)) : ∃ b k,o8 u 0 = .pointer (some ⟨b,k,none⟩):=by
 obtain ⟨b,k,rfl⟩:=h
 exact ⟨b,k,rfl⟩
def M3.term (m : M3) : Nat → Rat
 | 0=>m.a.x * (m.b.cross m.c).x
 | 1=>m.a.y * (m.b.cross m.c).y
 | _=>m.a.z * (m.b.cross m.c).z
theorem bg0 (m : M3) : ∀ n,n < 3 → m.part n + m.term n = m.part (n + 1):=by
 intro n hn
 match n,hn with
 | 0,_=>exact Rat.zero_add _
 | 1,_=>rfl
 | 2,_=>rfl
theorem bx4 {m : M3} {k : Nat} (hk : ml m k) : ∀ n,n ≤ 3 → rl (m.part n) (16 * k + 8):=by
 have h1:=r9 hk.2.1 hk.2.2
 have e1:=q7 hk.1.1 h1.1
 have e2:=q7 hk.1.2.1 h1.2.1
 have e3:=q7 hk.1.2.2 h1.2.2
 intro n hn
 match n,hn with
 | 0,_=>exact m6 fb4
 | 1,_=>exact m6 e1
 | 2,_=>exact m6 (ae0 e1 e2)
 | 3,_=>exact m6 (ae0 (ae0 e1 e2) e3)
theorem d36 {S : Nat → Prop} {w : World} {v : Value} {m : M3} {k : Nat} (hS : Up S w) (h : MapV S w v m) (hk : ml m k) (hk2 : 40 * k + 40 ≤ 3344) :
  Gives prog 118 [v] w fun v' w'=>Ext w w' ∧ RatV S w' v' m.det:=by
 refine b14 (E:=env) (S0:=S) (G:=(av6 v m).and Gh.nil) (l:=[.one (.ag 27 v)]) func118 rfl rfl rfl ⟨h.ok,trivial⟩ rfl ⟨h,trivial⟩ fun i hr hdm=>?_
 refine n7 (I0 0 98 ([.ag 27 v]) (fun u1=>?_))
 refine O3 (fun x0=>itS x0) (fun x0=>itG x0 (m) ((w.heap.size))) (fun _ _ _ h=>de1 h) (fun β S w hS hs hw hG=>(kx (bp3 hw.size hS hG.2.1 hk (by omega)))) ?_
 intro f
 refine n7 (cn8 (ι:=Nat × Value) 184 [db9 f] (a07 m) 9 w.heap.size (fun j=>[.gone,.blk 53 [.ag 3 aa0],.blk 53 [.ag 3 j.2]]) (fun j=>(b8 j.2 (m.part j.1)).and ((ci9 u1 m).and Gh.nil)) (fun j=>j.1 ≤ 3) (fun j=>j.1) (fun e j=>e = .exit 0 ∧ j.1 = 3) (fun j x=>c25 j.1 x) 100 [] (0,aa0) hr hdm ⟨b9,hS,j5⟩
  (by kernel_rfl) (by kernel_rfl) (by kernel_rfl) (Nat.le_refl _) (fun S w hw hG=>hG.1.2) (fun j=>Nat.le_of_ble_eq_true (by kernel_rfl)) (Nat.zero_le _) rfl (cr9 (fun β=>by kernel_rfl) (fun β=>by kernel_rfl) (by kernel_rfl))
  (fun S w hw hG=>af7 (m:=3) rfl ⟨trivial,ae4 ⟨(s8 (S:=S) (w:=w)).okc,trivial⟩,ae4 ⟨(s8 (S:=S) (w:=w)).okc,trivial⟩,trivial⟩) (fun S w hw hG=>⟨s8,b99 hG.2.1 hG.2.2.1,trivial⟩)
  (fun j x S w hj hk3 hx=>cq6 hx) (fun j x hj hk3=>by kernel_rfl) ?_ ?_ ?_)
 ·intro j x i' w1 S1 K1 m1 b1 hj hk9 hc'
  have h4 : j.1 = 0 ∨ j.1 = 1 ∨ j.1 = 2 ∨ j.1 = 3:=by omega
  obtain ⟨k0,o⟩:=j
  simp only at h4
  rcases h4 with rfl | rfl | rfl | rfl
  ·have hX:=r9 hk.2.1 hk.2.2
   refine I3 10 hc' ?_
   refine d9 3 ?_
   refine I5 (o8 u1 0) 3 0 9 hc' (by decide) (by decide) (fun β η S w hM hw hG hd=>dz7 hG.2.2.1.ptr) ?_
   refine cc1 (fun η=>η 3) ((o8 u1 (0 * 9 + 0 * 3))) 3 0 3 hc' (fun η=>(by kernel_rfl)) (fun η=>(by kernel_rfl)) (by decide) (by decide) (fun β η S w hM hw hG hd=>by have e : η 3 = o8 u1 (0 * 9):=(n9 hd 3 : (A7 ((η 3) = o8 (o8 u1 0) (Int.toNat 0 * 9))).p S w).trans (X7 hG.2.2.1.ptr); rw [e]; obtain ⟨g,q,hq⟩:=hG.2.2.1.ptr; exact ⟨g,q + 0 * 9,by rw [hq]; rfl,(X7 ⟨g,q,hq⟩).symm⟩) ?_
   refine B8 (fun η=>η 4) 53 3 true (fun x0=>.one (.ag 3 x0)) (fun x0=>b8 x0 (m.a.x)) hc' (fun β η S w hM hw hG hd=>hG.2.2.1.num (r:=0) (j:=0) rfl rfl (n9 hd 4 : (A7 ((η 4) = (o8 u1 (0 * 9 + 0 * 3)))).p S w)) ?_
   refine d9 1 ?_
   refine q9 (fun x0=>.one (.ag 3 x0)) (fun x0=>b8 x0 ((m.a.x * (m.b.cross m.c).x))) (fun β η S w hS hs hw hG hd=>(kx (n8 hS (n9 hd 5 : (b8 (η 5) (m.a.x)).p S w) hG.1.2 hk.1.1 hX.1))) ?_
   refine bt2 53 3 2 (fun x0=>B6 x0 [m.part 0,m.a.x * (m.b.cross m.c).x]) hc' (fun η=>(by kernel_rfl)) (fun β η S w x0 w' hS hs hw hG hd hk hrow=>ae7 (hG.2.1.to hk) ((n9 hd 7 : (b8 (η 7) ((m.a.x * (m.b.cross m.c).x))).p S w).to hk) (kcQ hrow)) ?_
   refine q9 (fun x0=>.one (.ag 3 x0)) (fun x0=>b8 x0 ((m.part 1))) (fun β η S w hS hs hw hG hd=>(kx (K4 (m:=16 * k + 8) (by rw [al9]; exact bg0 m 0 (by omega)) hS (n9 hd 8 : (B6 (η 8) [m.part 0,m.a.x * (m.b.cross m.c).x]).p S w) (ad4 (bx4 hk _ (by omega)) (m6 (q7 hk.1.1 hX.1))) (by simp only [List.length]; omega)))) ?_
   refine o6 [true,false,false,false,false,false] ((ci9 u1 m).and (Gh.nil)) (by exact fun _ _ h=>⟨h.2.2.1,trivial⟩) (fun g η=>(b8 (η 9) ((m.part 1))).and g) (fun g η=>(by kernel_rfl)) ?_
   intro η_1
   exact J6 hc' (ae2 ((1,η_1 9)) (by kernel_rfl) (⟨(show (1 : Nat) ≤ 3 by decide),rfl⟩) (al6) (fun S w hw hG=>af7 (m:=3) rfl ⟨trivial,ae4 ⟨(s8 (S:=S) (w:=w)).okc,trivial⟩,ae4 ⟨hG.1.okc,trivial⟩,trivial⟩) (fun S w hw hG=>⟨hG.1,hG.2.1,trivial⟩))
  ·have hX:=r9 hk.2.1 hk.2.2
   refine I3 10 hc' ?_
   refine d9 3 ?_
   refine I5 (o8 u1 0) 3 0 9 hc' (by decide) (by decide) (fun β η S w hM hw hG hd=>dz7 hG.2.2.1.ptr) ?_
   refine cc1 (fun η=>η 3) ((o8 u1 (0 * 9 + 1 * 3))) 3 1 3 hc' (fun η=>(by kernel_rfl)) (fun η=>(by kernel_rfl)) (by decide) (by decide) (fun β η S w hM hw hG hd=>by have e : η 3 = o8 u1 (0 * 9):=(n9 hd 3 : (A7 ((η 3) = o8 (o8 u1 0) (Int.toNat 0 * 9))).p S w).trans (X7 hG.2.2.1.ptr); rw [e]; obtain ⟨g,q,hq⟩:=hG.2.2.1.ptr; exact ⟨g,q + 0 * 9,by rw [hq]; rfl,(X7 ⟨g,q,hq⟩).symm⟩) ?_
   refine B8 (fun η=>η 4) 53 3 true (fun x0=>.one (.ag 3 x0)) (fun x0=>b8 x0 (m.a.y)) hc' (fun β η S w hM hw hG hd=>hG.2.2.1.num (r:=0) (j:=1) rfl rfl (n9 hd 4 : (A7 ((η 4) = (o8 u1 (0 * 9 + 1 * 3)))).p S w)) ?_
   refine d9 1 ?_
   refine q9 (fun x0=>.one (.ag 3 x0)) (fun x0=>b8 x0 ((m.a.y * (m.b.cross m.c).y))) (fun β η S w hS hs hw hG hd=>(kx (n8 hS (n9 hd 5 : (b8 (η 5) (m.a.y)).p S w) hG.1.2 hk.1.2.1 hX.2.1))) ?_
   refine bt2 53 3 2 (fun x0=>B6 x0 [m.part 1,m.a.y * (m.b.cross m.c).y]) hc' (fun η=>(by kernel_rfl)) (fun β η S w x0 w' hS hs hw hG hd hk hrow=>ae7 (hG.2.1.to hk) ((n9 hd 7 : (b8 (η 7) ((m.a.y * (m.b.cross m.c).y))).p S w).to hk) (kcQ hrow)) ?_
   refine q9 (fun x0=>.one (.ag 3 x0)) (fun x0=>b8 x0 ((m.part 2))) (fun β η S w hS hs hw hG hd=>(kx (K4 (m:=16 * k + 8) (by rw [al9]; exact bg0 m 1 (by omega)) hS (n9 hd 8 : (B6 (η 8) [m.part 1,m.a.y * (m.b.cross m.c).y]).p S w) (ad4 (bx4 hk _ (by omega)) (m6 (q7 hk.1.2.1 hX.2.1))) (by simp only [List.length]; omega)))) ?_
   refine o6 [true,false,false,false,false,false] ((ci9 u1 m).and (Gh.nil)) (by exact fun _ _ h=>⟨h.2.2.1,trivial⟩) (fun g η=>(b8 (η 9) ((m.part 2))).and g) (fun g η=>(by kernel_rfl)) ?_
   intro η_1
   exact J6 hc' (ae2 ((2,η_1 9)) (by kernel_rfl) (⟨(show (2 : Nat) ≤ 3 by decide),rfl⟩) (al6) (fun S w hw hG=>af7 (m:=3) rfl ⟨trivial,ae4 ⟨(s8 (S:=S) (w:=w)).okc,trivial⟩,ae4 ⟨hG.1.okc,trivial⟩,trivial⟩) (fun S w hw hG=>⟨hG.1,hG.2.1,trivial⟩))
  ·have hX:=r9 hk.2.1 hk.2.2
   refine I3 10 hc' ?_
   refine d9 3 ?_
   refine I5 (o8 u1 0) 3 0 9 hc' (by decide) (by decide) (fun β η S w hM hw hG hd=>dz7 hG.2.2.1.ptr) ?_
   refine cc1 (fun η=>η 3) ((o8 u1 (0 * 9 + 2 * 3))) 3 2 3 hc' (fun η=>(by kernel_rfl)) (fun η=>(by kernel_rfl)) (by decide) (by decide) (fun β η S w hM hw hG hd=>by have e : η 3 = o8 u1 (0 * 9):=(n9 hd 3 : (A7 ((η 3) = o8 (o8 u1 0) (Int.toNat 0 * 9))).p S w).trans (X7 hG.2.2.1.ptr); rw [e]; obtain ⟨g,q,hq⟩:=hG.2.2.1.ptr; exact ⟨g,q + 0 * 9,by rw [hq]; rfl,(X7 ⟨g,q,hq⟩).symm⟩) ?_
   refine B8 (fun η=>η 4) 53 3 true (fun x0=>.one (.ag 3 x0)) (fun x0=>b8 x0 (m.a.z)) hc' (fun β η S w hM hw hG hd=>hG.2.2.1.num (r:=0) (j:=2) rfl rfl (n9 hd 4 : (A7 ((η 4) = (o8 u1 (0 * 9 + 2 * 3)))).p S w)) ?_
   refine d9 1 ?_
   refine q9 (fun x0=>.one (.ag 3 x0)) (fun x0=>b8 x0 ((m.a.z * (m.b.cross m.c).z))) (fun β η S w hS hs hw hG hd=>(kx (n8 hS (n9 hd 5 : (b8 (η 5) (m.a.z)).p S w) hG.1.2 hk.1.2.2 hX.2.2))) ?_
   refine bt2 53 3 2 (fun x0=>B6 x0 [m.part 2,m.a.z * (m.b.cross m.c).z]) hc' (fun η=>(by kernel_rfl)) (fun β η S w x0 w' hS hs hw hG hd hk hrow=>ae7 (hG.2.1.to hk) ((n9 hd 7 : (b8 (η 7) ((m.a.z * (m.b.cross m.c).z))).p S w).to hk) (kcQ hrow)) ?_
   refine q9 (fun x0=>.one (.ag 3 x0)) (fun x0=>b8 x0 ((m.part 3))) (fun β η S w hS hs hw hG hd=>(kx (K4 (m:=16 * k + 8) (by rw [al9]; exact bg0 m 2 (by omega)) hS (n9 hd 8 : (B6 (η 8) [m.part 2,m.a.z * (m.b.cross m.c).z]).p S w) (ad4 (bx4 hk _ (by omega)) (m6 (q7 hk.1.2.2 hX.2.2))) (by simp only [List.length]; omega)))) ?_
   refine o6 [true,false,false,false,false,false] ((ci9 u1 m).and (Gh.nil)) (by exact fun _ _ h=>⟨h.2.2.1,trivial⟩) (fun g η=>(b8 (η 9) ((m.part 3))).and g) (fun g η=>(by kernel_rfl)) ?_
   intro η_1
   exact J6 hc' (ae2 ((3,η_1 9)) (by kernel_rfl) (⟨(show (3 : Nat) ≤ 3 by decide),rfl⟩) (al6) (fun S w hw hG=>af7 (m:=3) rfl ⟨trivial,ae4 ⟨(s8 (S:=S) (w:=w)).okc,trivial⟩,ae4 ⟨hG.1.okc,trivial⟩,trivial⟩) (fun S w hw hG=>⟨hG.1,hG.2.1,trivial⟩))
  have e3 : (3 : Nat) ≤ 3:=Nat.le_refl _
  exact J6 hc' (dz0 ((3,o)) (by kernel_rfl) (⟨(by kernel_rfl),rfl⟩) (al6) (fun S w hw hG=>af7 (m:=3) rfl ⟨trivial,ae4 ⟨(s8 (S:=S) (w:=w)).okc,trivial⟩,ae4 ⟨hG.2.1.okc,trivial⟩,trivial⟩) (fun S w hw hG=>⟨hG.2.1,hG.2.2.1,trivial⟩))
 ·intro D j hj hk3
  exact absurd hk3 (by omega)
 rintro D j e ⟨rfl,hj⟩ _
 have e0 : m.part j.1 = m.det:=by rw [hj]; rfl
 exact c52 j.2 [D] [3] ⟨b9,hS,j5⟩ (by kernel_rfl) rfl (by kernel_rfl) (by kernel_rfl) ⟨by kernel_rfl,trivial⟩ (fun β=>by kernel_rfl) (fun β S w hM hs hw hG=>⟨hw,e0 ▸ (RatV.mono hG.1 fun k _ hk=>(hs k hk).1)⟩)
noncomputable def b79 (a1 a2 a3 b1 b2 b3 c1 c2 c3 : Value) : Value:=(SV.agg [.ag 3 a1,.ag 3 a2,.ag 3 a3,.ag 3 b1,.ag 3 b2,.ag 3 b3,.ag 3 c1,.ag 3 c2,.ag 3 c3]).den fun _=>0
structure MapC (S : Nat → Prop) (w : World) (m : M3) (a1 a2 a3 b1 b2 b3 c1 c2 c3 : Value) : Prop where
 a1 : RatV S w a1 m.a.x
 a2 : RatV S w a2 m.a.y
 a3 : RatV S w a3 m.a.z
 b1 : RatV S w b1 m.b.x
 b2 : RatV S w b2 m.b.y
 b3 : RatV S w b3 m.b.z
 c1 : RatV S w c1 m.c.x
 c2 : RatV S w c2 m.c.y
 c3 : RatV S w c3 m.c.z
section
variable {S S' : Nat → Prop} {w w' : World} {v : Value} {m : M3} {a1 a2 a3 b1 b2 b3 c1 c2 c3 : Value}
theorem MapC.keep (h : MapC S w m a1 a2 a3 b1 b2 b3 c1 c2 c3) (k : Keeps S w w') : MapC S w' m a1 a2 a3 b1 b2 b3 c1 c2 c3:=⟨h.a1.keep k,h.a2.keep k,h.a3.keep k,h.b1.keep k,h.b2.keep k,h.b3.keep k,h.c1.keep k,h.c2.keep k,h.c3.keep k⟩
theorem MapC.mono (h : MapC S w m a1 a2 a3 b1 b2 b3 c1 c2 c3) (hs : ∀ k,k < w.heap.size → S k → S' k) : MapC S' w m a1 a2 a3 b1 b2 b3 c1 c2 c3:=⟨h.a1.mono hs,h.a2.mono hs,h.a3.mono hs,h.b1.mono hs,h.b2.mono hs,h.b3.mono hs,h.c1.mono hs,h.c2.mono hs,h.c3.mono hs⟩
theorem MapC.ok (n : Nat) (h : MapC S w m a1 a2 a3 b1 b2 b3 c1 c2 c3) : (SV.agg [.ag 3 a1,.ag 3 a2,.ag 3 a3,.ag 3 b1,.ag 3 b2,.ag 3 b3,.ag 3 c1,.ag 3 c2,.ag 3 c3]).Ok n:=K0 ⟨h.a1.okc,h.a2.okc,h.a3.okc,h.b1.okc,h.b2.okc,h.b3.okc,h.c1.okc,h.c2.okc,h.c3.okc,trivial⟩
theorem bl8 : (b79 a1 a2 a3 b1 b2 b3 c1 c2 c3).cells.toList = H7 [ax6 a1 a2 a3,ax6 b1 b2 b3,ax6 c1 c2 c3]:=by
 simp [b79,ax6,H7,SV.den,d8,Ch.cells,Value.cells]
theorem MapC.map (h : MapC S w m a1 a2 a3 b1 b2 b3 c1 c2 c3) : MapV S w (b79 a1 a2 a3 b1 b2 b3 c1 c2 c3) m:=by
 refine ⟨ax9 (l:=[.ag 3 a1,.ag 3 a2,.ag 3 a3,.ag 3 b1,.ag 3 b2,.ag 3 b3,.ag 3 c1,.ag 3 c2,.ag 3 c3]) (h.ok 0) rfl,[ax6 a1 a2 a3,ax6 b1 b2 b3,ax6 c1 c2 c3],bl8,rfl,fun x hx=>?_,fun i t x ht hx=>?_⟩
 ·simp only [List.mem_cons,List.not_mem_nil,or_false] at hx
  rcases hx with rfl | rfl | rfl
  ·exact TripV.lies (t:=m.a) ⟨_,_,_,rfl,h.a1,h.a2,h.a3⟩
  ·exact TripV.lies (t:=m.b) ⟨_,_,_,rfl,h.b1,h.b2,h.b3⟩
  exact TripV.lies (t:=m.c) ⟨_,_,_,rfl,h.c1,h.c2,h.c3⟩
 match i with
 | 0=>simp [M3.rows] at ht hx; subst ht hx; exact ⟨_,_,_,rfl,h.a1,h.a2,h.a3⟩
 | 1=>simp [M3.rows] at ht hx; subst ht hx; exact ⟨_,_,_,rfl,h.b1,h.b2,h.b3⟩
 | 2=>simp [M3.rows] at ht hx; subst ht hx; exact ⟨_,_,_,rfl,h.c1,h.c2,h.c3⟩
 | i + 3=>simp [M3.rows] at ht
theorem MapV.ex (h : MapV S w v m) : ∃ a1 a2 a3 b1 b2 b3 c1 c2 c3,v = b79 a1 a2 a3 b1 b2 b3 c1 c2 c3 ∧ MapC S w m a1 a2 a3 b1 b2 b3 c1 c2 c3:=by
 obtain ⟨ho,vs,hc,he⟩:=h
 have hl : vs.length = 3:=he.len
 match vs,hl with
 | [y1,y2,y3],_=>
  obtain ⟨a1,a2,a3,rfl,p1,p2,p3⟩:=he.el 0 m.a y1 rfl rfl
  obtain ⟨b1,b2,b3,rfl,q1,q2,q3⟩:=he.el 1 m.b y2 rfl rfl
  obtain ⟨c1,c2,c3,rfl,r1,r2,r3⟩:=he.el 2 m.c y3 rfl rfl
  refine ⟨a1,a2,a3,b1,b2,b3,c1,c2,c3,?_,⟨p1,p2,p3,q1,q2,q3,r1,r2,r3⟩⟩
  obtain ⟨us,rfl,_,_⟩:=ho
  have e : us = (b79 a1 a2 a3 b1 b2 b3 c1 c2 c3).cells.toList:=by rw [bl8,← hc]; simp [Value.cells]
  rw [e]
  simp [b79,SV.den,Value.cells]
end
section
variable {S S' : Nat → Prop} {w w' : World} {v : Value} {m : M3}
end
namespace M3
def turned (m : M3) : M3:=⟨⟨m.a.x,m.b.x,m.c.x⟩,⟨m.a.y,m.b.y,m.c.y⟩,⟨m.a.z,m.b.z,m.c.z⟩⟩
def adj (m : M3) : M3:=m.cof.turned
def after (m n : M3) : M3:=turned ⟨m.apply n.turned.a,m.apply n.turned.b,m.apply n.turned.c⟩
theorem adj_apply (m : M3) (v : T3) : m.adj.apply (m.apply v) = v.smul m.det:=by
 simp only [adj,cof,turned,apply,T3.dot,T3.cross,T3.smul,det,T3.mk.injEq]
 refine ⟨?_,?_,?_⟩ <;> grind
theorem cf9 (m : M3) : m.turned.det = m.det:=by
 simp only [turned,det,T3.dot,T3.cross]
 grind
theorem det_adj (m : M3) : m.adj.det = m.det * m.det:=by
 rw [adj,cf9,cm9]
theorem cg9 (m : M3) (k : Rat) (v : T3) : m.apply (v.smul k) = (m.apply v).smul k:=by
 simp only [apply,T3.dot,T3.smul,T3.mk.injEq]
 refine ⟨?_,?_,?_⟩ <;> grind
end M3
def bu6 (m : M3) (k i : Nat) : Rat:=bif Nat.ble (3 * (i % 3) + i / 3 + 1) k then m.mnr (3 * (i % 3) + i / 3) else 0
def ap5 (o : Nat → Value) (p : Nat) (x : Value) : Nat → Value:=fun i=>bif Nat.beq i p then x else o i
structure OutC (S : Nat → Prop) (w : World) (m : M3) (k : Nat) (o : Nat → Value) : Prop where
 c0 : RatV S w (o 0) (bu6 m k 0)
 c1 : RatV S w (o 1) (bu6 m k 1)
 c2 : RatV S w (o 2) (bu6 m k 2)
 c3 : RatV S w (o 3) (bu6 m k 3)
 c4 : RatV S w (o 4) (bu6 m k 4)
 c5 : RatV S w (o 5) (bu6 m k 5)
 c6 : RatV S w (o 6) (bu6 m k 6)
 c7 : RatV S w (o 7) (bu6 m k 7)
 c8 : RatV S w (o 8) (bu6 m k 8)
abbrev bn8 (m : M3) (k : Nat) (o : Nat → Value) : Gh:=⟨fun S w=>OutC S w m k o,fun h k=>⟨h.c0.keep k,h.c1.keep k,h.c2.keep k,h.c3.keep k,h.c4.keep k,h.c5.keep k,h.c6.keep k,h.c7.keep k,h.c8.keep k⟩,fun h k=>⟨h.c0.mono k,h.c1.mono k,h.c2.mono k,h.c3.mono k,h.c4.mono k,h.c5.mono k,h.c6.mono k,h.c7.mono k,h.c8.mono k⟩⟩
theorem OutC.blk {S : Nat → Prop} {w : World} {m : M3} {k n : Nat} {o : Nat → Value} {T : TypeId} (h : OutC S w m k o) : (HE.blk T [.ag 3 (o 0),.ag 3 (o 1),.ag 3 (o 2),.ag 3 (o 3),.ag 3 (o 4),.ag 3 (o 5),.ag 3 (o 6),.ag 3 (o 7),.ag 3 (o 8)]).Ok n:=ae4 ⟨h.c0.okc,h.c1.okc,h.c2.okc,h.c3.okc,h.c4.okc,h.c5.okc,h.c6.okc,h.c7.okc,h.c8.okc,trivial⟩
theorem P6 {S : Nat → Prop} {w : World} {m : M3} : OutC S w m 0 (fun _=>aa0):=⟨s8,s8,s8,s8,s8,s8,s8,s8,s8⟩
theorem OutC.all {S : Nat → Prop} {w : World} {m : M3} {o : Nat → Value} (h : OutC S w m 9 o) : MapC S w m.adj (o 0) (o 1) (o 2) (o 3) (o 4) (o 5) (o 6) (o 7) (o 8):=⟨h.c0,h.c1,h.c2,h.c3,h.c4,h.c5,h.c6,h.c7,h.c8⟩
theorem do8 {S : Nat → Prop} {w : World} {v : Value} {m : M3} {k : Nat} (hS : Up S w) (h : MapV S w v m) (hk : ml m k) (hk2 : 40 * k + 40 ≤ 3344) :
  Gives prog 95 [v] w fun v' w'=>Ext w w' ∧ MapV S w' v' m.adj:=by
 refine b14 (E:=env) (S0:=S) (G:=(av6 v m).and Gh.nil) (l:=[.one (.ag 27 v)]) func95 rfl rfl rfl ⟨h.ok,trivial⟩ rfl ⟨h,trivial⟩ fun i hr hdm=>?_
 refine n7 (I0 0 98 ([.ag 27 v]) (fun u1=>?_))
 refine O3 (fun x0=>itS x0) (fun x0=>itG x0 (m) ((w.heap.size))) (fun _ _ _ h=>de1 h) (fun β S w hS hs hw hG=>(kx (bp3 hw.size hS hG.2.1 hk (by omega)))) ?_
 intro f
 refine n7 (cn8 (ι:=Nat × (Nat → Value)) 184 [db9 f] (a07 m) 9 w.heap.size (fun j=>[.gone,.blk 98 [.ag 3 aa0,.ag 3 aa0,.ag 3 aa0,.ag 3 aa0,.ag 3 aa0,.ag 3 aa0,.ag 3 aa0,.ag 3 aa0,.ag 3 aa0],.blk 98 [.ag 3 (j.2 0),.ag 3 (j.2 1),.ag 3 (j.2 2),.ag 3 (j.2 3),.ag 3 (j.2 4),.ag 3 (j.2 5),.ag 3 (j.2 6),.ag 3 (j.2 7),.ag 3 (j.2 8)]]) (fun j=>(bn8 m j.1 j.2).and Gh.nil) (fun j=>j.1 ≤ 9) (fun j=>j.1) (fun e j=>False) (fun j x=>c25 j.1 x) 100 [] (0,fun _=>aa0) hr hdm ⟨b9,hS,j5⟩
  (by kernel_rfl) (by kernel_rfl) (by kernel_rfl) (Nat.le_refl _) (fun S w hw hG=>hG.1.2) (fun j=>Nat.le_of_ble_eq_true (by kernel_rfl)) (Nat.zero_le _) rfl (cr9 (fun β=>by kernel_rfl) (fun β=>by kernel_rfl) (by kernel_rfl))
  (fun S w hw hG=>af7 (m:=3) rfl ⟨trivial,(P6 (S:=S) (w:=w) (m:=m)).blk,(P6 (S:=S) (w:=w) (m:=m)).blk,trivial⟩) (fun S w hw hG=>⟨P6,trivial⟩)
  (fun j x S w hj hk3 hx=>cq6 hx) (fun j x hj hk3=>by kernel_rfl) ?_ ?_ ?_)
 ·intro j x i' w1 S1 K1 m1 b1 hj hk9 hc'
  have h4 : j.1 = 0 ∨ j.1 = 1 ∨ j.1 = 2 ∨ j.1 = 3 ∨ j.1 = 4 ∨ j.1 = 5 ∨ j.1 = 6 ∨ j.1 = 7 ∨ j.1 = 8:=by omega
  obtain ⟨k0,o⟩:=j
  simp only at h4
  rcases h4 with rfl | rfl | rfl | rfl | rfl | rfl | rfl | rfl | rfl
  ·have hX:=hk
   refine I3 7 hc' ?_
   refine d9 7 ?_
   refine o6 [] ((a07 m 0 x).and ((bn8 m 0 o).and (Gh.nil))) (by exact fun _ _ h=>⟨h.1,h.2.1,trivial⟩) (fun g η=>g) (fun g η=>(by kernel_rfl)) ?_
   intro η_1
   exact J6 hc' (ae2 ((1,ap5 o 0 (x.getD 1 undef))) (by kernel_rfl) (⟨(show (1 : Nat) ≤ 9 by decide),rfl⟩) (al6) (fun S w hw hG=>have ho:=hG.2.1; af7 (m:=3) rfl ⟨trivial,(P6 (S:=S) (w:=w) (m:=m)).blk,(OutC.blk (S:=S) (w:=w) (m:=m) (k:=1) (o:=ap5 o 0 (x.getD 1 undef)) ⟨hG.1.2,ho.c1,ho.c2,ho.c3,ho.c4,ho.c5,ho.c6,ho.c7,ho.c8⟩),trivial⟩) (fun S w hw hG=>have ho:=hG.2.1; ⟨⟨hG.1.2,ho.c1,ho.c2,ho.c3,ho.c4,ho.c5,ho.c6,ho.c7,ho.c8⟩,trivial⟩))
  ·have hX:=hk
   refine I3 7 hc' ?_
   refine d9 7 ?_
   refine o6 [] ((a07 m 1 x).and ((bn8 m 1 o).and (Gh.nil))) (by exact fun _ _ h=>⟨h.1,h.2.1,trivial⟩) (fun g η=>g) (fun g η=>(by kernel_rfl)) ?_
   intro η_1
   exact J6 hc' (ae2 ((2,ap5 o 3 (x.getD 1 undef))) (by kernel_rfl) (⟨(show (2 : Nat) ≤ 9 by decide),rfl⟩) (al6) (fun S w hw hG=>have ho:=hG.2.1; af7 (m:=3) rfl ⟨trivial,(P6 (S:=S) (w:=w) (m:=m)).blk,(OutC.blk (S:=S) (w:=w) (m:=m) (k:=2) (o:=ap5 o 3 (x.getD 1 undef)) ⟨ho.c0,ho.c1,ho.c2,hG.1.2,ho.c4,ho.c5,ho.c6,ho.c7,ho.c8⟩),trivial⟩) (fun S w hw hG=>have ho:=hG.2.1; ⟨⟨ho.c0,ho.c1,ho.c2,hG.1.2,ho.c4,ho.c5,ho.c6,ho.c7,ho.c8⟩,trivial⟩))
  ·have hX:=hk
   refine I3 7 hc' ?_
   refine d9 7 ?_
   refine o6 [] ((a07 m 2 x).and ((bn8 m 2 o).and (Gh.nil))) (by exact fun _ _ h=>⟨h.1,h.2.1,trivial⟩) (fun g η=>g) (fun g η=>(by kernel_rfl)) ?_
   intro η_1
   exact J6 hc' (ae2 ((3,ap5 o 6 (x.getD 1 undef))) (by kernel_rfl) (⟨(show (3 : Nat) ≤ 9 by decide),rfl⟩) (al6) (fun S w hw hG=>have ho:=hG.2.1; af7 (m:=3) rfl ⟨trivial,(P6 (S:=S) (w:=w) (m:=m)).blk,(OutC.blk (S:=S) (w:=w) (m:=m) (k:=3) (o:=ap5 o 6 (x.getD 1 undef)) ⟨ho.c0,ho.c1,ho.c2,ho.c3,ho.c4,ho.c5,hG.1.2,ho.c7,ho.c8⟩),trivial⟩) (fun S w hw hG=>have ho:=hG.2.1; ⟨⟨ho.c0,ho.c1,ho.c2,ho.c3,ho.c4,ho.c5,hG.1.2,ho.c7,ho.c8⟩,trivial⟩))
  ·have hX:=hk
   refine I3 7 hc' ?_
   refine d9 7 ?_
   refine o6 [] ((a07 m 3 x).and ((bn8 m 3 o).and (Gh.nil))) (by exact fun _ _ h=>⟨h.1,h.2.1,trivial⟩) (fun g η=>g) (fun g η=>(by kernel_rfl)) ?_
   intro η_1
   exact J6 hc' (ae2 ((4,ap5 o 1 (x.getD 1 undef))) (by kernel_rfl) (⟨(show (4 : Nat) ≤ 9 by decide),rfl⟩) (al6) (fun S w hw hG=>have ho:=hG.2.1; af7 (m:=3) rfl ⟨trivial,(P6 (S:=S) (w:=w) (m:=m)).blk,(OutC.blk (S:=S) (w:=w) (m:=m) (k:=4) (o:=ap5 o 1 (x.getD 1 undef)) ⟨ho.c0,hG.1.2,ho.c2,ho.c3,ho.c4,ho.c5,ho.c6,ho.c7,ho.c8⟩),trivial⟩) (fun S w hw hG=>have ho:=hG.2.1; ⟨⟨ho.c0,hG.1.2,ho.c2,ho.c3,ho.c4,ho.c5,ho.c6,ho.c7,ho.c8⟩,trivial⟩))
  ·have hX:=hk
   refine I3 7 hc' ?_
   refine d9 7 ?_
   refine o6 [] ((a07 m 4 x).and ((bn8 m 4 o).and (Gh.nil))) (by exact fun _ _ h=>⟨h.1,h.2.1,trivial⟩) (fun g η=>g) (fun g η=>(by kernel_rfl)) ?_
   intro η_1
   exact J6 hc' (ae2 ((5,ap5 o 4 (x.getD 1 undef))) (by kernel_rfl) (⟨(show (5 : Nat) ≤ 9 by decide),rfl⟩) (al6) (fun S w hw hG=>have ho:=hG.2.1; af7 (m:=3) rfl ⟨trivial,(P6 (S:=S) (w:=w) (m:=m)).blk,(OutC.blk (S:=S) (w:=w) (m:=m) (k:=5) (o:=ap5 o 4 (x.getD 1 undef)) ⟨ho.c0,ho.c1,ho.c2,ho.c3,hG.1.2,ho.c5,ho.c6,ho.c7,ho.c8⟩),trivial⟩) (fun S w hw hG=>have ho:=hG.2.1; ⟨⟨ho.c0,ho.c1,ho.c2,ho.c3,hG.1.2,ho.c5,ho.c6,ho.c7,ho.c8⟩,trivial⟩))
  ·have hX:=hk
   refine I3 7 hc' ?_
   refine d9 7 ?_
   refine o6 [] ((a07 m 5 x).and ((bn8 m 5 o).and (Gh.nil))) (by exact fun _ _ h=>⟨h.1,h.2.1,trivial⟩) (fun g η=>g) (fun g η=>(by kernel_rfl)) ?_
   intro η_1
   exact J6 hc' (ae2 ((6,ap5 o 7 (x.getD 1 undef))) (by kernel_rfl) (⟨(show (6 : Nat) ≤ 9 by decide),rfl⟩) (al6) (fun S w hw hG=>have ho:=hG.2.1; af7 (m:=3) rfl ⟨trivial,(P6 (S:=S) (w:=w) (m:=m)).blk,(OutC.blk (S:=S) (w:=w) (m:=m) (k:=6) (o:=ap5 o 7 (x.getD 1 undef)) ⟨ho.c0,ho.c1,ho.c2,ho.c3,ho.c4,ho.c5,ho.c6,hG.1.2,ho.c8⟩),trivial⟩) (fun S w hw hG=>have ho:=hG.2.1; ⟨⟨ho.c0,ho.c1,ho.c2,ho.c3,ho.c4,ho.c5,ho.c6,hG.1.2,ho.c8⟩,trivial⟩))
  ·have hX:=hk
   refine I3 7 hc' ?_
   refine d9 7 ?_
   refine o6 [] ((a07 m 6 x).and ((bn8 m 6 o).and (Gh.nil))) (by exact fun _ _ h=>⟨h.1,h.2.1,trivial⟩) (fun g η=>g) (fun g η=>(by kernel_rfl)) ?_
   intro η_1
   exact J6 hc' (ae2 ((7,ap5 o 2 (x.getD 1 undef))) (by kernel_rfl) (⟨(show (7 : Nat) ≤ 9 by decide),rfl⟩) (al6) (fun S w hw hG=>have ho:=hG.2.1; af7 (m:=3) rfl ⟨trivial,(P6 (S:=S) (w:=w) (m:=m)).blk,(OutC.blk (S:=S) (w:=w) (m:=m) (k:=7) (o:=ap5 o 2 (x.getD 1 undef)) ⟨ho.c0,ho.c1,hG.1.2,ho.c3,ho.c4,ho.c5,ho.c6,ho.c7,ho.c8⟩),trivial⟩) (fun S w hw hG=>have ho:=hG.2.1; ⟨⟨ho.c0,ho.c1,hG.1.2,ho.c3,ho.c4,ho.c5,ho.c6,ho.c7,ho.c8⟩,trivial⟩))
  ·have hX:=hk
   refine I3 7 hc' ?_
   refine d9 7 ?_
   refine o6 [] ((a07 m 7 x).and ((bn8 m 7 o).and (Gh.nil))) (by exact fun _ _ h=>⟨h.1,h.2.1,trivial⟩) (fun g η=>g) (fun g η=>(by kernel_rfl)) ?_
   intro η_1
   exact J6 hc' (ae2 ((8,ap5 o 5 (x.getD 1 undef))) (by kernel_rfl) (⟨(show (8 : Nat) ≤ 9 by decide),rfl⟩) (al6) (fun S w hw hG=>have ho:=hG.2.1; af7 (m:=3) rfl ⟨trivial,(P6 (S:=S) (w:=w) (m:=m)).blk,(OutC.blk (S:=S) (w:=w) (m:=m) (k:=8) (o:=ap5 o 5 (x.getD 1 undef)) ⟨ho.c0,ho.c1,ho.c2,ho.c3,ho.c4,hG.1.2,ho.c6,ho.c7,ho.c8⟩),trivial⟩) (fun S w hw hG=>have ho:=hG.2.1; ⟨⟨ho.c0,ho.c1,ho.c2,ho.c3,ho.c4,hG.1.2,ho.c6,ho.c7,ho.c8⟩,trivial⟩))
  have hX:=hk
  refine I3 7 hc' ?_
  refine d9 7 ?_
  refine o6 [] ((a07 m 8 x).and ((bn8 m 8 o).and (Gh.nil))) (by exact fun _ _ h=>⟨h.1,h.2.1,trivial⟩) (fun g η=>g) (fun g η=>(by kernel_rfl)) ?_
  intro η_1
  exact J6 hc' (ae2 ((9,ap5 o 8 (x.getD 1 undef))) (by kernel_rfl) (⟨(show (9 : Nat) ≤ 9 by decide),rfl⟩) (al6) (fun S w hw hG=>have ho:=hG.2.1; af7 (m:=3) rfl ⟨trivial,(P6 (S:=S) (w:=w) (m:=m)).blk,(OutC.blk (S:=S) (w:=w) (m:=m) (k:=9) (o:=ap5 o 8 (x.getD 1 undef)) ⟨ho.c0,ho.c1,ho.c2,ho.c3,ho.c4,ho.c5,ho.c6,ho.c7,hG.1.2⟩),trivial⟩) (fun S w hw hG=>have ho:=hG.2.1; ⟨⟨ho.c0,ho.c1,ho.c2,ho.c3,ho.c4,ho.c5,ho.c6,ho.c7,hG.1.2⟩,trivial⟩))
 ·intro D j hj hk3
  obtain ⟨k0,o⟩:=j
  simp only at hk3
  subst hk3
  exact c52 (b79 (o 0) (o 1) (o 2) (o 3) (o 4) (o 5) (o 6) (o 7) (o 8)) [D] [3] ⟨b9,hS,j5⟩ (by kernel_rfl) rfl (by kernel_rfl) (by kernel_rfl) ⟨by kernel_rfl,trivial⟩ (fun β=>by kernel_rfl) (fun β S w hM hs hw hG=>⟨hw,(av6 _ m.adj).mono hG.1.all.map fun k _ hk=>(hs k hk).1⟩)
 rintro D j e he _
 exact he.elim
abbrev d51 (m : M3) (a1 a2 a3 b1 b2 b3 c1 c2 c3 : Value) : Gh:=⟨fun S w=>MapC S w m a1 a2 a3 b1 b2 b3 c1 c2 c3,fun h k=>h.keep k,fun h k=>h.mono k⟩
theorem al2 {S : Nat → Prop} {w : World} {v vp : Value} {m : M3} {p : T3} {k n : Nat} (hS : Up S w) (h : MapV S w v m) (hp : TripV S w vp p) (hk : ml m k) (hn : tl p n) (hkn : 3 * (k + n + 1) + 1 ≤ 3344) :
  Gives prog 68 [v,vp] w fun v' w'=>Ext w w' ∧ TripV S w' v' (m.apply p):=by
 obtain ⟨a1,a2,a3,b1,b2,b3,c1,c2,c3,rfl,hm⟩:=h.ex
 refine p7 (E:=env) (S0:=S) (G:=((j6 vp (p)).and (d51 m a1 a2 a3 b1 b2 b3 c1 c2 c3))) (l:=[.agg [.ag 3 a1,.ag 3 a2,.ag 3 a3,.ag 3 b1,.ag 3 b2,.ag 3 b3,.ag 3 c1,.ag 3 c2,.ag 3 c3],.one (.ag 9 vp)]) func68 rfl rfl rfl ⟨hm.ok _,hp.ok,trivial⟩ rfl ⟨hp,hm⟩ ?_
 refine s7 ?_
 refine E9 (fun x0=>.one (.ag 3 x0)) (fun x0=>b8 x0 ((m.a.dot p))) (fun β S w hS hs hw hG=>(kx (an3 hS ⟨_,_,_,rfl,hG.2.a1,hG.2.a2,hG.2.a3⟩ hG.1 hk.1 hn hkn))) ?_
 intro x
 refine s7 ?_
 refine E9 (fun x0=>.one (.ag 3 x0)) (fun x0=>b8 x0 ((m.b.dot p))) (fun β S w hS hs hw hG=>(kx (an3 hS ⟨_,_,_,rfl,hG.2.2.b1,hG.2.2.b2,hG.2.2.b3⟩ hG.2.1 hk.2.1 hn hkn))) ?_
 intro y
 refine s7 ?_
 refine E9 (fun x0=>.one (.ag 3 x0)) (fun x0=>b8 x0 ((m.c.dot p))) (fun β S w hS hs hw hG=>(kx (an3 hS ⟨_,_,_,rfl,hG.2.2.2.c1,hG.2.2.2.c2,hG.2.2.2.c3⟩ hG.2.2.1 hk.2.2 hn hkn))) ?_
 intro z
 refine s7 ?_
 exact p9 (ax6 x y z) rfl (fun S w hs hw hG=>⟨hw,_,_,_,rfl,hG.2.2.1.mono fun k _ hk=>hs k hk,hG.2.1.mono fun k _ hk=>hs k hk,hG.1.mono fun k _ hk=>hs k hk⟩)
theorem cu4 {m : M3} {k : Nat} (h : ml m k) : ml m.turned k:=⟨⟨h.1.1,h.2.1.1,h.2.2.1⟩,⟨h.1.2.1,h.2.1.2.1,h.2.2.2.1⟩,⟨h.1.2.2,h.2.1.2.2,h.2.2.2.2⟩⟩
theorem ad0 {m : M3} {p : T3} {k n : Nat} (h : ml m k) (hp : tl p n) : tl (m.apply p) (3 * (k + n) + 2):=⟨bb1 h.1 hp,bb1 h.2.1 hp,bb1 h.2.2 hp⟩
theorem c50 {m : M3} {k : Nat} (h : ml m k) : ml m.adj (4 * k + 1):=cu4 ⟨D4 (r9 h.2.1 h.2.2),D4 (r9 h.2.2 h.1),D4 (r9 h.1 h.2.1)⟩
namespace M3
def list (m : M3) : List Rat:=[m.a.x,m.a.y,m.a.z,m.b.x,m.b.y,m.b.z,m.c.x,m.c.y,m.c.z]
noncomputable def lead (m : M3) : Rat:=Q8 m.list
def over (m : M3) (k : Rat) : M3:=⟨m.a.over k,m.b.over k,m.c.over k⟩
noncomputable def normal (m : M3) : M3:=m.over m.lead
theorem normal_list (m : M3) : ba1 m.list = m.normal.list:=rfl
theorem fpos_list {m : M3} (h : m.det ≠ 0) : 0 ≤ R6 ap7 m.list 0:=by
 refine al3.1 ?_
 by_cases h1 : m.a.x = 0
 ·by_cases h2 : m.a.y = 0
  ·by_cases h3 : m.a.z = 0
   ·exact absurd (c96 ⟨h1,h2,h3⟩) h
   exact ⟨m.a.z,by simp [list],h3⟩
  exact ⟨m.a.y,by simp [list],h2⟩
 exact ⟨m.a.x,by simp [list],h1⟩
end M3
theorem cc4 {S : Nat → Prop} {w : World} {b n : Nat} {T : TypeId} {vs : List Value} {l : List Rat} (hS : Up S w) (hB : Blk w b T (H7 vs)) (hv : ElsV true 3 Y5 S w vs l) (hn : l.length = n) (hb : ¬ S b) (hm : n ≤ maxLen) (hne : 0 ≤ R6 ap7 l 0) (hl : ∀ x ∈ l,rl x 400000000000) (hf : ∀ x ∈ ba1 l,U5 x) :
  Gives prog 162 [.slice (some ⟨b,0,none⟩) n n] w fun r w'=>Wrt b w w' ∧ r = .tuple #[] ∧ ∃ vs',Blk w' b T (H7 vs') ∧ ElsV true 3 Y5 S w' vs' (ba1 l):=by
 subst hn
 have ho : Own 0 T 3 w (.slice (some ⟨b,0,none⟩) l.length l.length) l.length (H7 vs):=at9 hB (Nat.zero_le _) hm (by rw [ac1 hv.lies,hv.len])
 refine (br1 (T:=T) hS ho hv (fun k hk e=>hb (by cases e; exact hk)) hl (fun x hx=>hf _ (List.mem_map.2 ⟨x,hx,rfl⟩)) hne).mono ?_
 rintro r w' ⟨rfl,k,vs',h1,h2⟩
 exact ⟨k.mono fun i hi e=>hi (by cases e; rfl),rfl,vs',cn0 h1,h2⟩
def si (p : T3) (B : Nat) : Prop:=∃ a b c : Int,p = ⟨(a : Rat),(b : Rat),(c : Rat)⟩ ∧ a.natAbs ≤ B ∧ b.natAbs ≤ B ∧ c.natAbs ≤ B
def sm (p : T3) (B : Nat) : Prop:=∃ (k : Rat) (a b c : Int),k ≠ 0 ∧ p = ⟨k * a,k * b,k * c⟩ ∧ a.natAbs ≤ B ∧ b.natAbs ≤ B ∧ c.natAbs ≤ B
theorem si.sm {p : T3} {B : Nat} (h : si p B) : sm p B:=by
 obtain ⟨a,b,c,rfl,h1,h2,h3⟩:=h
 exact ⟨1,a,b,c,by decide,by ext <;> simp only <;> grind,h1,h2,h3⟩
theorem si.tl {p : T3} {B : Nat} (h : si p B) (hB : B < 1000000000) : tl p 1:=by
 obtain ⟨a,b,c,rfl,h1,h2,h3⟩:=h
 exact ⟨cc8 (by omega),cc8 (by omega),cc8 (by omega)⟩
theorem W4 {a b : Int} {B C : Nat} (h : a.natAbs ≤ B) (k : b.natAbs ≤ C) : (a * b).natAbs ≤ B * C:=by rw [Int.natAbs_mul]; exact Nat.mul_le_mul h k
theorem d70 {p : T3} {B : Nat} (h : sm p B) (hB : B < 1000000000) : il p 1:=by
 obtain ⟨k,a,b,c,h1,h2,h3,h4,h5⟩:=h
 have e : ∀ {z : Int},z.natAbs ≤ B → zl z ≤ 1:=fun h=>M7 (k:=1) (by show Int.natAbs _ < _; omega)
 exact ⟨k,a,b,c,h1,h2,e h3,e h4,e h5⟩
theorem bu3 {p : T3} {B : Nat} (h : sm p B) (hB : B < 1000000000) : tl p.normal 1:=cw1 (d70 h hB) (Nat.le_refl _)
theorem bw5 {p q : T3} {B C : Nat} (hp : si p B) (hq : si q C) : ∃ z : Int,p.dot q = (z : Rat) ∧ z.natAbs ≤ 3 * (B * C):=by
 obtain ⟨a,b,c,rfl,h3,h4,h5⟩:=hp
 obtain ⟨a',b',c',rfl,h3',h4',h5'⟩:=hq
 have q1:=W4 h3 h3'
 have q2:=W4 h4 h4'
 have q3:=W4 h5 h5'
 exact ⟨a * a' + b * b' + c * c',by simp only [T3.dot,Rat.intCast_add,Rat.intCast_mul],by omega⟩
def mi (m : M3) (B : Nat) : Prop:=si m.a B ∧ si m.b B ∧ si m.c B
theorem bf7 {m : M3} {p : T3} {B C : Nat} (hm : mi m B) (hp : si p C) : si (m.apply p) (3 * (B * C)):=by
 obtain ⟨x,ex,hx⟩:=bw5 hm.1 hp
 obtain ⟨y,ey,hy⟩:=bw5 hm.2.1 hp
 obtain ⟨z,ez,hz⟩:=bw5 hm.2.2 hp
 exact ⟨x,y,z,by unfold M3.apply; rw [ex,ey,ez],hx,hy,hz⟩
theorem ch2 {p : T3} {B : Nat} (h : si p B) (hB : B < 1000000000) (hn : ¬ p.None) : D5 p = 0:=ai6 (h.tl hB) (by decide) hn
theorem d62 {S : Nat → Prop} {w : World} : ElsV true 9 ad5 S w [] []:=⟨rfl,fun x hx=>by simp at hx,fun i a x h=>by simp at h⟩
theorem b52 {S : Nat → Prop} {w : World} {a : Value} {p : T3} {vs : List Value} {l : List T3} (h : TripV S w a p) (k : ElsV true 9 ad5 S w vs l) : ElsV true 9 ad5 S w (a :: vs) (p :: l):=by
 refine ⟨by simp [k.len],fun x hx=>?_,fun i t x h1 h2=>?_⟩
 ·rcases List.mem_cons.1 hx with rfl | hx
  ·exact h.lies
  exact k.lies x hx
 cases i with
 | zero=>simp at h1 h2; subst h1 h2; exact h
 | succ i=>exact k.el i t x (by simpa using h1) (by simpa using h2)
open Classical in
noncomputable def at0 (l : List Rat) : Int:=if M9 l then 60 else if ak8 l then 11 else 0
theorem b90 {l : List Rat} (h : at0 l = 0) : ¬ M9 l ∧ ¬ ak8 l:=by
 unfold at0 at h
 split at h
 ·omega
 split at h
 ·omega
 exact ⟨‹_›,‹_›⟩
theorem b96 {S : Nat → Prop} {w : World} {v : Value} {l : List Rat} (ht : Tab w) (hS : Up S w) (h : SeqV true 3 Y5 S w v l) (hl : ∀ x ∈ l,rl x 1000000) (hb : at0 l = 0) : Gives prog 117 [v] w fun v' w'=>v' = .tuple #[] ∧ Ext w w':=
 ax5 ht hS h hl (b90 hb).1 (b90 hb).2
theorem b57 {S : Nat → Prop} {w : World} {v : Value} {l : List Rat} (ht : Tab w) (hS : Up S w) (h : SeqV true 3 Y5 S w v l) (hl : ∀ x ∈ l,rl x 1000000) (hb : ¬ at0 l = 0) : Pan prog 117 [v] w (J2 (at0 l)):=by
 unfold at0 at hb ⊢
 by_cases h1 : M9 l
 ·rw [if_pos h1]; exact bj1 hS h h1
 rw [if_neg h1] at hb ⊢
 by_cases h2 : ak8 l
 ·rw [if_pos h2]; exact bf4 ht hS h hl h1 h2
 rw [if_neg h2] at hb; exact absurd rfl hb
def M3.at (l : List M3) (i : Nat) : M3:=l.getD i ⟨⟨0,0,0⟩,⟨0,0,0⟩,⟨0,0,0⟩⟩
section
variable {S : Nat → Prop} {w : World} {m : M3} {a1 a2 a3 b1 b2 b3 c1 c2 c3 : Value}
end
structure C6 where
 a : Rat
 b : Rat
 c : Rat
 f : Rat
 g : Rat
 h : Rat
def C6.list (k : C6) : List Rat:=[k.a,k.b,k.c,k.f,k.g,k.h]
def cl (k : C6) (n : Nat) : Prop:=rl k.a n ∧ rl k.b n ∧ rl k.c n ∧ rl k.f n ∧ rl k.g n ∧ rl k.h n
noncomputable def ci6 (c1 c2 c3 c4 c5 c6 : Value) : Value:=(SV.agg [.ag 3 c1,.ag 3 c2,.ag 3 c3,.ag 3 c4,.ag 3 c5,.ag 3 c6]).den fun _=>0
structure ConC (S : Nat → Prop) (w : World) (k : C6) (c1 c2 c3 c4 c5 c6 : Value) : Prop where
 c1 : RatV S w c1 k.a
 c2 : RatV S w c2 k.b
 c3 : RatV S w c3 k.c
 c4 : RatV S w c4 k.f
 c5 : RatV S w c5 k.g
 c6 : RatV S w c6 k.h
def ConV (S : Nat → Prop) (w : World) (v : Value) (k : C6) : Prop:=∃ c1 c2 c3 c4 c5 c6,v = ci6 c1 c2 c3 c4 c5 c6 ∧ ConC S w k c1 c2 c3 c4 c5 c6
section
variable {S S' : Nat → Prop} {w w' : World} {v : Value} {k : C6} {c1 c2 c3 c4 c5 c6 : Value}
theorem ConC.keep (h : ConC S w k c1 c2 c3 c4 c5 c6) (g : Keeps S w w') : ConC S w' k c1 c2 c3 c4 c5 c6:=⟨h.c1.keep g,h.c2.keep g,h.c3.keep g,h.c4.keep g,h.c5.keep g,h.c6.keep g⟩
theorem ConC.mono (h : ConC S w k c1 c2 c3 c4 c5 c6) (hs : ∀ i,i < w.heap.size → S i → S' i) : ConC S' w k c1 c2 c3 c4 c5 c6:=⟨h.c1.mono hs,h.c2.mono hs,h.c3.mono hs,h.c4.mono hs,h.c5.mono hs,h.c6.mono hs⟩
theorem ConC.ok (n : Nat) (h : ConC S w k c1 c2 c3 c4 c5 c6) : (SV.agg [.ag 3 c1,.ag 3 c2,.ag 3 c3,.ag 3 c4,.ag 3 c5,.ag 3 c6]).Ok n:=K0 ⟨h.c1.okc,h.c2.okc,h.c3.okc,h.c4.okc,h.c5.okc,h.c6.okc,trivial⟩
theorem ConC.con (h : ConC S w k c1 c2 c3 c4 c5 c6) : ConV S w (ci6 c1 c2 c3 c4 c5 c6) k:=⟨_,_,_,_,_,_,rfl,h⟩
theorem ConV.keep (h : ConV S w v k) (g : Keeps S w w') : ConV S w' v k:=let ⟨c1,c2,c3,c4,c5,c6,e,h⟩:=h; ⟨c1,c2,c3,c4,c5,c6,e,h.keep g⟩
theorem ConV.mono (h : ConV S w v k) (hs : ∀ i,i < w.heap.size → S i → S' i) : ConV S' w v k:=let ⟨c1,c2,c3,c4,c5,c6,e,h⟩:=h; ⟨c1,c2,c3,c4,c5,c6,e,h.mono hs⟩
theorem ConV.ok (h : ConV S w v k) : (SV.one (.ag 18 v)).Ok 0:=by
 obtain ⟨c1,c2,c3,c4,c5,c6,rfl,h⟩:=h
 exact ax9 (l:=[.ag 3 c1,.ag 3 c2,.ag 3 c3,.ag 3 c4,.ag 3 c5,.ag 3 c6]) (h.ok 0) rfl
theorem ConV.lies (h : ConV S w v k) : U2 true 18 v:=by
 obtain ⟨us,rfl,h2,_⟩:=h.ok
 have:=a44 us
 rwa [h2] at this
theorem ConC.els (h : ConC S w k c1 c2 c3 c4 c5 c6) : ElsV true 3 Y5 S w [c1,c2,c3,c4,c5,c6] k.list:=by
 refine ⟨rfl,fun x hx=>?_,fun i q x hq hx=>?_⟩
 ·simp only [List.mem_cons,List.not_mem_nil,or_false] at hx
  rcases hx with rfl | rfl | rfl | rfl | rfl | rfl
  ·exact h.c1.lies
  ·exact h.c2.lies
  ·exact h.c3.lies
  ·exact h.c4.lies
  ·exact h.c5.lies
  exact h.c6.lies
 match i with
 | 0=>simp [C6.list] at hq hx; subst hq hx; exact h.c1
 | 1=>simp [C6.list] at hq hx; subst hq hx; exact h.c2
 | 2=>simp [C6.list] at hq hx; subst hq hx; exact h.c3
 | 3=>simp [C6.list] at hq hx; subst hq hx; exact h.c4
 | 4=>simp [C6.list] at hq hx; subst hq hx; exact h.c5
 | 5=>simp [C6.list] at hq hx; subst hq hx; exact h.c6
 | i + 6=>simp [C6.list] at hq
end
abbrev H0 (v : Value) (k : C6) : Gh:=⟨fun S w=>ConV S w v k,fun h g=>h.keep g,fun h g=>h.mono g⟩
abbrev Y8 (v : Value) (k : C6) : Gh:=⟨fun S w=>v = (SV.agg [.ag 3 (cel v 0 3),.ag 3 (cel v 3 3),.ag 3 (cel v 6 3),.ag 3 (cel v 9 3),.ag 3 (cel v 12 3),.ag 3 (cel v 15 3)]).den (fun _=>0) ∧ ConC S w k (cel v 0 3) (cel v 3 3) (cel v 6 3) (cel v 9 3) (cel v 12 3) (cel v 15 3),fun h g=>⟨h.1,h.2.keep g⟩,fun h g=>⟨h.1,h.2.mono g⟩⟩
theorem b20 {S : Nat → Prop} {w : World} {v : Value} {k : C6} (h : (Y8 v k).p S w) : (SV.agg [.ag 3 (cel v 0 3),.ag 3 (cel v 3 3),.ag 3 (cel v 6 3),.ag 3 (cel v 9 3),.ag 3 (cel v 12 3),.ag 3 (cel v 15 3)]).Ok 0 ∧ (SV.agg [.ag 3 (cel v 0 3),.ag 3 (cel v 3 3),.ag 3 (cel v 6 3),.ag 3 (cel v 9 3),.ag 3 (cel v 12 3),.ag 3 (cel v 15 3)]).den (fun _=>0) = v:=⟨h.2.ok 0,h.1.symm⟩
theorem d52 {S : Nat → Prop} {w : World} {v : Value} {k : C6} (h : ConV S w v k) : (Y8 v k).p S w:=by
 obtain ⟨c1,c2,c3,c4,c5,c6,hv,hm⟩:=h
 have hl : ∀ x ∈ [c1,c2,c3,c4,c5,c6],U2 true 3 x:=hm.els.lies
 have hc : v.cells.toList = H7 [c1,c2,c3,c4,c5,c6]:=by rw [hv]; simp [ci6,H7,SV.den,d8,Ch.cells,Value.cells]
 have e0 : cel v 0 3 = c1:=ak3 (g:=true) (i:=0) hc hl rfl
 have e1 : cel v 3 3 = c2:=ak3 (g:=true) (i:=1) hc hl rfl
 have e2 : cel v 6 3 = c3:=ak3 (g:=true) (i:=2) hc hl rfl
 have e3 : cel v 9 3 = c4:=ak3 (g:=true) (i:=3) hc hl rfl
 have e4 : cel v 12 3 = c5:=ak3 (g:=true) (i:=4) hc hl rfl
 have e5 : cel v 15 3 = c6:=ak3 (g:=true) (i:=5) hc hl rfl
 show v = _ ∧ _
 rw [e0,e1,e2,e3,e4,e5]
 exact ⟨hv,hm⟩
noncomputable def dx4 (c1 c2 c3 c4 c5 c6 : Value) : Value:=(SV.agg [.ag 4 c1,.ag 4 c2,.ag 4 c3,.ag 4 c4,.ag 4 c5,.ag 4 c6]).den fun _=>0
structure QConC (S : Nat → Prop) (w : World) (k : C6) (c1 c2 c3 c4 c5 c6 : Value) : Prop where
 c1 : QV S w c1 k.a
 c2 : QV S w c2 k.b
 c3 : QV S w c3 k.c
 c4 : QV S w c4 k.f
 c5 : QV S w c5 k.g
 c6 : QV S w c6 k.h
def QConV (S : Nat → Prop) (w : World) (v : Value) (k : C6) : Prop:=∃ c1 c2 c3 c4 c5 c6,v = dx4 c1 c2 c3 c4 c5 c6 ∧ QConC S w k c1 c2 c3 c4 c5 c6
section
variable {S S' : Nat → Prop} {w w' : World} {v : Value} {k : C6} {c1 c2 c3 c4 c5 c6 : Value}
theorem QConC.keep (h : QConC S w k c1 c2 c3 c4 c5 c6) (g : Keeps S w w') : QConC S w' k c1 c2 c3 c4 c5 c6:=⟨h.c1.keep g,h.c2.keep g,h.c3.keep g,h.c4.keep g,h.c5.keep g,h.c6.keep g⟩
theorem QConC.mono (h : QConC S w k c1 c2 c3 c4 c5 c6) (hs : ∀ i,i < w.heap.size → S i → S' i) : QConC S' w k c1 c2 c3 c4 c5 c6:=⟨h.c1.mono hs,h.c2.mono hs,h.c3.mono hs,h.c4.mono hs,h.c5.mono hs,h.c6.mono hs⟩
theorem QConC.ok (n : Nat) (h : QConC S w k c1 c2 c3 c4 c5 c6) : (SV.agg [.ag 4 c1,.ag 4 c2,.ag 4 c3,.ag 4 c4,.ag 4 c5,.ag 4 c6]).Ok n:=K0 ⟨h.c1.okc,h.c2.okc,h.c3.okc,h.c4.okc,h.c5.okc,h.c6.okc,trivial⟩
theorem QConV.keep (h : QConV S w v k) (g : Keeps S w w') : QConV S w' v k:=let ⟨c1,c2,c3,c4,c5,c6,e,h⟩:=h; ⟨c1,c2,c3,c4,c5,c6,e,h.keep g⟩
theorem QConV.mono (h : QConV S w v k) (hs : ∀ i,i < w.heap.size → S i → S' i) : QConV S' w v k:=let ⟨c1,c2,c3,c4,c5,c6,e,h⟩:=h; ⟨c1,c2,c3,c4,c5,c6,e,h.mono hs⟩
theorem QConV.ok (h : QConV S w v k) : (SV.one (.ag 24 v)).Ok 0:=by
 obtain ⟨c1,c2,c3,c4,c5,c6,rfl,h⟩:=h
 exact ax9 (l:=[.ag 4 c1,.ag 4 c2,.ag 4 c3,.ag 4 c4,.ag 4 c5,.ag 4 c6]) (h.ok 0) rfl
theorem QConC.els (h : QConC S w k c1 c2 c3 c4 c5 c6) : ElsV true 4 qF S w [c1,c2,c3,c4,c5,c6] k.list:=by
 refine ⟨rfl,fun x hx=>?_,fun i q x hq hx=>?_⟩
 ·simp only [List.mem_cons,List.not_mem_nil,or_false] at hx
  rcases hx with rfl | rfl | rfl | rfl | rfl | rfl
  ·exact h.c1.lies
  ·exact h.c2.lies
  ·exact h.c3.lies
  ·exact h.c4.lies
  ·exact h.c5.lies
  exact h.c6.lies
 match i with
 | 0=>simp [C6.list] at hq hx; subst hq hx; exact h.c1
 | 1=>simp [C6.list] at hq hx; subst hq hx; exact h.c2
 | 2=>simp [C6.list] at hq hx; subst hq hx; exact h.c3
 | 3=>simp [C6.list] at hq hx; subst hq hx; exact h.c4
 | 4=>simp [C6.list] at hq hx; subst hq hx; exact h.c5
 | 5=>simp [C6.list] at hq hx; subst hq hx; exact h.c6
 | i + 6=>simp [C6.list] at hq
end
abbrev a66 (v : Value) (k : C6) : Gh:=⟨fun S w=>QConV S w v k,fun h g=>h.keep g,fun h g=>h.mono g⟩
def aa9 : List Value:=[.bool false,.slice none 0 0,.slice none 0 0,.bool false,.slice none 0 0,.slice none 0 0,.bool false,.slice none 0 0,.slice none 0 0,.bool false,.slice none 0 0,.slice none 0 0,.bool false,.slice none 0 0,.slice none 0 0,.bool false,.slice none 0 0,.slice none 0 0]
theorem bg9 : ∀ v ∈ aa9,v.oneCell' = true:=by
 intro v hv
 simp only [aa9,List.mem_cons,List.not_mem_nil,or_false] at hv
 rcases hv with rfl | rfl | rfl | rfl | rfl | rfl | rfl | rfl | rfl | rfl | rfl | rfl | rfl | rfl | rfl | rfl | rfl | rfl <;> rfl
theorem bz8 {w : World} {g1 g2 : Nat} : GivesD prog 147 [.pointer (some ⟨g1,0,none⟩),.pointer (some ⟨g2,0,none⟩)] .returning w fun u' w'=>u' = .returning ∧ w' = w:=by
 refine G6 func147 rfl rfl rfl rfl rfl (.inl ⟨rfl,rfl,rfl⟩) ?_
 repeat (first | refine R0 rfl ?_ | refine wW ?_ | refine wp_skip ?_ | refine wp_cond_false rfl ?_)
 exact ⟨[],rfl,rfl,rfl⟩
theorem bz3 {w : World} {g1 g2 : Nat} {cs1 : List Value} {e : Value} {E : Int} (h1 : Blk w g1 60 cs1) (hl : cs1.length = 18) (h2 : Blk w g2 56 [e]) :
  GivesD prog 147 [.pointer (some ⟨g1,0,none⟩),.pointer (some ⟨g2,0,none⟩)] (.panicking (J2 E)) w fun u' w'=>settle u' = .returning ∧
   Keeps (fun k=>k ≠ g1 ∧ k ≠ g2) w w' ∧ Blk w' g1 60 aa9 ∧ Blk w' g2 56 [.int .i64 E]:=by
 have hne : g1 ≠ g2:=h1.ne h2 (by decide)
 refine G6 func147 rfl rfl rfl rfl rfl (.inr ⟨_,rfl,rfl,rfl⟩) ?_
 repeat (first | refine ab9 rfl ?_ | refine aq0 rfl ?_ | refine wW ?_ | refine D6 rfl rfl ?_ | refine wp_cond_true rfl ?_)
 refine r5 (cs:=[.int .i64 0]) rfl ?_
 intro w1 g3 k1 hg3 hgs3
 have hl1:=h1.lt
 have hl2:=h2.lt
 refine A5 (us:=[.int .i64 E]) rfl (by conv=>(lhs; whnf)) rfl rfl hg3 rfl (fun v hv=>by rw [List.mem_singleton.1 hv]; rfl) ?_
 intro w2 k2 hg32
 repeat (first | refine aw4 rfl ?_ | refine wW ?_ | refine d7 ?_ | refine wp_skip ?_ | refine wp_cond_false rfl ?_)
 refine r5 (cs:=aa9) rfl ?_
 intro w3 g5 k3 hg5 hgs5
 have k : Ext w w3:=(Keeps.past k1 k2 hgs3).trans k3
 have hg33:=hg32.to k3
 have hl3:=hg32.lt
 repeat refine wW ?_
 refine am3 (R:=OneW g1 60 cs1 aa9) 4 OneW.trans OneW.drew (by kernel_rfl) (by kernel_rfl) ?_
 apply F1
 ·intro x w1 k1 hd
  refine o5 rfl (hg5.wr k1.1 (by omega)) rfl ?_
  refine d6 ?_
  exact Q4 OneW.refl
 apply F1
 ·intro x w1 k1 hd
  refine l6 rfl ?_
  refine d6 ?_
  exact Q4 OneW.refl
 apply F1
 ·intro x w1 k1 hd
  refine i1 rfl (hg33.wr k1.1 (by omega)) rfl ?_
  refine d6 ?_
  exact Q4 OneW.refl
 refine F1 (e:=EntR.of (fun v w=>Blk w g1 60 aa9) (fun v w w' h k=>k.2.2 h)) ?_ ?_
 ·intro x w1 k1 hd
  rcases k1.2.1 (.inl (h1.to k)) with hgx | hgx
  ·refine A5 (us:=aa9) rfl (by conv=>(lhs; whnf)) rfl rfl hgx hl bg9 ?_
   intro w12 k12 hg12
   exact d6 (U7 (OneW.wrote k12 hg12) hg12)
  refine A5 (us:=aa9) rfl (by conv=>(lhs; whnf)) rfl rfl hgx rfl bg9 ?_
  intro w12 k12 hg12
  exact d6 (U7 (OneW.wrote k12 hg12) hg12)
 refine a19 (a64 ?_)
 intro x w12 k12 hall
 have h14 : Blk w12 g1 60 aa9:=hall.1
 refine L6 (u:=.int .i64 E) rfl rfl ((h2.to k).wr k12.1 (fun e=>hne e.symm)) (show 0 < 1 by decide) rfl ?_
 intro w5 k5 h25
 repeat (first | refine d6 ?_)
 refine ⟨[],rfl,rfl,?_,h14.wr k5 hne,h25⟩
 exact ((Keeps.of k).trans (k12.1.mono fun i hi=>hi.1)).trans (k5.mono fun i hi=>hi.2)
theorem ce6 {S : Nat → Prop} {w : World} {F : FuncId} [ci : CallI prog F] {cap : List Value} {t : C6} {E : Int} {Y Z : Prop} (hS : Up S w)
  (h : ∀ S' w',Up S' w' → Ext w w' → (∀ k,S' k → S k) → (∀ k,k < w.heap.size → S k → S' k) → GivesE prog F cap w' (fun v w''=>Ext w' w'' ∧ ConV S' w'' v t ∧ Y) fun ch w''=>ch = J2 E ∧ Ext w' w'' ∧ Z) :
  Gives prog 99 [.func (.func F) #[] cap.toArray] w fun v' w'=>Ext w w' ∧ ((∃ x,v' = .tuple #[x,.int .i64 0] ∧ ConV S w' x t ∧ Y) ∨ (v' = .tuple #[.agg aa9.toArray,.int .i64 E] ∧ Z)):=by
 refine R2 func99 rfl rfl rfl ?_
 refine a55 ?_
 repeat (first | refine aa7 ?_)
 refine r5 (cs:=aa9) rfl ?_
 intro w1 g1 k1 hg1 hgs1
 skip
 refine r5 (cs:=[.int .i64 0]) rfl ?_
 intro w2 g2 k2 hg2 hgs2
 have hgl:=hg1.lt
 have hgl2:=hg2.lt
 replace hg1:=hg1.to k2
 have k:=k1.trans k2
 have hk1:=k1.size
 have hk2:=k2.size
 have hS2 : Up (fun k=>S k ∧ k ≠ g1 ∧ k ≠ g2) w2:=fun i hi=>⟨hS i (by omega),by omega,by omega⟩
 have hc:=h (fun k=>S k ∧ k ≠ g1 ∧ k ≠ g2) w2 hS2 k (fun _ h=>h.1) (fun i hi hs=>⟨hs,by omega,by omega⟩)
 repeat refine wW ?_
 refine W6 ?_
 refine a39 ?_ (fun e a ρ w hm hq=>aq6 hm hq)
 repeat refine wW ?_
 refine at3 (first:=[]) (cap:=cap) rfl hc rfl ?_ ?_
 ·rintro v3 w3 ⟨k3,hf,hy⟩
  obtain ⟨us,hv,hul,hu1⟩:=hf.ok
  skip
  refine A5 (us:=us) rfl (by conv=>(lhs; whnf)) (by rw [hv]; rfl) hul (hg1.to k3) rfl hu1 ?_
  intro w4 k4 hg4
  have hg24:=(hg2.to k3).wr k4 (by omega)
  refine L6 (u:=.int .i64 0) rfl rfl hg24 (show 0 < 1 by decide) rfl ?_
  intro w5 k5 hg5
  have hg45:=hg4.wr k5 (by omega)
  repeat refine wW ?_
  refine bz8.mono ?_
  rintro u' w' ⟨rfl,rfl⟩
  refine ⟨rfl,[.agg us.toArray,.int .i64 0],⟨_,_,o7 hg45 hul,⟨_,_,P7 (by conv=>(lhs; whnf)) hg5,rfl,rfl⟩,rfl⟩,?_⟩
  refine ⟨((Keeps.past (k.trans k3) k4 (by omega)).past k5 (by omega)),.inl ⟨_,rfl,?_,hy⟩⟩
  rw [← hv]
  exact ((hf.keep (k4.mono fun i hi=>hi.2.1)).keep (k5.mono fun i hi=>hi.2.2)).mono fun i _ hi=>hi.1
 rintro ch w3 ⟨rfl,k3,hf⟩
 refine N5 ?_
 refine (bz3 (hg1.to k3) rfl (hg2.to k3)).mono ?_
 rintro u' w' ⟨hu,k4,h1,h2⟩
 refine ⟨hu,[.agg aa9.toArray,.int .i64 E],⟨_,_,o7 h1 rfl,⟨_,_,P7 (by conv=>(lhs; whnf)) h2,rfl,rfl⟩,rfl⟩,?_⟩
 exact ⟨Keeps.later (k.trans k3) k4 (fun i hi _=>⟨by omega,by omega⟩),.inr ⟨rfl,hf⟩⟩
abbrev Y4 (u : Value) (k : C6) : Gh:=atG true 18 (fun x=>H0 x k) u
def C6.zero : C6:=⟨0,0,0,0,0,0⟩
theorem c46 {S : Nat → Prop} {w : World} : ConV S w (.agg aa9.toArray) C6.zero:=ConC.con (k:=C6.zero) (c1:=aa0) (c2:=aa0) (c3:=aa0) (c4:=aa0) (c5:=aa0) (c6:=aa0) ⟨s8,s8,s8,s8,s8,s8⟩
abbrev aw0 (v : Value) (t : C6) (e : Int) : Gh:=⟨fun S w=>v = .tuple #[F4 v,.int .i64 e] ∧ ConV S w (F4 v) t,fun h k=>⟨h.1,h.2.keep k⟩,fun h k=>⟨h.1,h.2.mono k⟩⟩
theorem b21 {v : Value} {t : C6} {e : Int} {S : Nat → Prop} {w : World} (h : (aw0 v t e).p S w) : (pr (.ag 18 (F4 v)) (.int .i64 e)).Ok 0 ∧ (pr (.ag 18 (F4 v)) (.int .i64 e)).den (fun _=>0) = v:=⟨bo9 h.2.ok trivial,h.1.symm⟩
theorem dk1 {S : Nat → Prop} {w : World} (F : FuncId) [ci : CallI prog F] (cap : List Value) {t : T3} {E : Int} (hS : Up S w) (h0 : E = 0 → bc9 S w fun S' w'=>Gives prog F cap w' fun v w''=>Ext w' w'' ∧ TripV S' w'' v t) (h1 : ¬ E = 0 → bc9 S w fun S' w'=>Pan prog F cap w' (J2 E)) :
  Gives prog 53 [.func (.func F) #[] cap.toArray] w fun v' w'=>Ext w w' ∧ (J9 v' (if E = 0 then t else ⟨0,0,0⟩) E).p S w':=by
 by_cases e : E = 0
 ·refine (ax8 (F:=F) (cap:=cap) (t:=t) (E:=0) (Y:=True) (Z:=False) hS fun S' w' hS' k' hs hs'=>Gives.toE ((h0 e S' w' hS' k' hs hs').mono fun v w'' h=>⟨h.1,h.2,trivial⟩)).mono ?_
  rintro v' w' ⟨k',⟨x,rfl,h,_⟩ | ⟨rfl,hf⟩⟩
  ·exact ⟨k',by rw [e]; rfl,by rw [if_pos e]; exact h⟩
  exact hf.elim
 refine (ax8 (F:=F) (cap:=cap) (t:=t) (E:=E) (Y:=False) (Z:=True) hS fun S' w' hS' k' hs hs'=>(h1 e S' w' hS' k' hs hs').mono (fun _ _ h=>h.elim) fun ch w'' h=>⟨h.1,h.2,trivial⟩).mono ?_
 rintro v' w' ⟨k',⟨x,rfl,h,hf⟩ | ⟨rfl,_⟩⟩
 ·exact hf.elim
 exact ⟨k',rfl,by rw [if_neg e]; exact b12⟩
theorem d56 {S : Nat → Prop} {w : World} (F : FuncId) [ci : CallI prog F] (cap : List Value) {p : Prop} {E : Int} (hS : Up S w) (h0 : E = 0 → bc9 S w fun S' w'=>Gives prog F cap w' fun v w''=>v = .bool (tst p) ∧ Ext w' w'') (h1 : ¬ E = 0 → bc9 S w fun S' w'=>Pan prog F cap w' (J2 E)) :
  Gives prog 91 [.func (.func F) #[] cap.toArray] w fun v' w'=>v' = .tuple #[.bool (tst (E = 0 ∧ p)),.int .i64 E] ∧ Ext w w':=by
 by_cases e : E = 0
 ·refine (ay2 (F:=F) (cap:=cap) (b:=tst p) (E:=0) (Y:=True) (Z:=False) hS fun S' w' hS' k' hs hs'=>Gives.toE ((h0 e S' w' hS' k' hs hs').mono fun v w'' h=>⟨h.2,h.1,trivial⟩)).mono ?_
  rintro v' w' ⟨k',⟨rfl,_⟩ | ⟨rfl,hf⟩⟩
  ·have e2 : tst p = tst (E = 0 ∧ p):=congrArg tst (propext ⟨fun h=>⟨e,h⟩,fun h=>h.2⟩)
   exact ⟨by rw [← e2,e],k'⟩
  exact hf.elim
 refine (ay2 (F:=F) (cap:=cap) (b:=true) (E:=E) (Y:=False) (Z:=True) hS fun S' w' hS' k' hs hs'=>(h1 e S' w' hS' k' hs hs').mono (fun _ _ h=>h.elim) fun ch w'' h=>⟨h.1,h.2,trivial⟩).mono ?_
 rintro v' w' ⟨k',⟨rfl,hf⟩ | ⟨rfl,_⟩⟩
 ·exact hf.elim
 exact ⟨by rw [j8 fun h=>e h.1],k'⟩
theorem ao5 {S : Nat → Prop} {w : World} {x : Value} {p : T3} (h : TripV S w x p) : ElsV true 9 ad5 S w [x] [p]:=⟨rfl,fun y hy=>by rw [List.mem_singleton.1 hy]; exact h.lies,fun i t y h1 h2=>by cases i with | zero=>(simp at h1 h2; subst h1 h2; exact h) | succ i=>simp at h1⟩
theorem bi3 {α : Type} {a : α} {P : α → Prop} (h : P a) : ∀ x ∈ [a],P x:=fun x hx=>by rw [List.mem_singleton.1 hx]; exact h
theorem am9 {S : Nat → Prop} {w : World} {v : Value} {p : T3} (ht : Tab w) (hS : Up S w) (h : SeqV true 9 ad5 S w v [p]) (hl : tl p 1000000) (hb : ¬ D5 p = 0) : Pan prog 56 [v] w (J2 (D5 p)):=
 at4 (l:=[p]) (n:=0) ht hS h (bi3 hl) (Nat.zero_lt_one) hb (fun i hi=>absurd hi (Nat.not_lt_zero _))
theorem ch3 {m : M3} {p : T3} (h : m.det ≠ 0) (hp : D5 p = 0) : ¬ (m.apply p).None:=fun g=>(bm0 hp).1 (a99.2 ((M3.apply_none h).1 g))
namespace T3
def lin (a : Rat) (p : T3) (b : Rat) (q : T3) : T3:=⟨a * p.x + b * q.x,a * p.y + b * q.y,a * p.z + b * q.z⟩
theorem au0 {l u : T3} {a : Rat} (hl : ¬ l.None) (h : u = l.smul a) : over1 l u = a:=by
 subst h
 unfold over1 smul
 split
 ·exact Rat.mul_div_cancel ‹_›
 split
 ·exact Rat.mul_div_cancel ‹_›
 rename_i h1 h2
 exact Rat.mul_div_cancel fun h3=>hl ⟨Classical.not_not.1 h1,Classical.not_not.1 h2,h3⟩
theorem cr4 {p q : T3} {a b : Rat} (h : ¬ Same p q) : mPart p q (lin a p b q) = a:=by
 refine au0 h ?_
 ext <;> simp only [cross,smul,lin] <;> grind
theorem cx8 {p q : T3} {a b : Rat} (h : ¬ Same p q) : nPart p q (lin a p b q) = b:=by
 refine au0 h ?_
 ext <;> simp only [cross,smul,lin] <;> grind
theorem lin_none {p q : T3} {a b : Rat} (h : ¬ Same p q) (hab : ¬ (a = 0 ∧ b = 0)) : ¬ (lin a p b q).None:=by
 rintro ⟨h1,h2,h3⟩
 refine hab ⟨?_,?_⟩
 ·rw [← cr4 (a:=a) (b:=b) h]
  have e : lin a p b q = ⟨0,0,0⟩:=by ext <;> assumption
  rw [e]
  exact au0 (a:=0) h (by ext <;> simp only [cross,smul] <;> grind)
 rw [← cx8 (a:=a) (b:=b) h]
 have e : lin a p b q = ⟨0,0,0⟩:=by ext <;> assumption
 rw [e]
 exact au0 (a:=0) h (by ext <;> simp only [cross,smul] <;> grind)
theorem smul_like {p : T3} {k : Rat} (hk : k ≠ 0) : Like (p.smul k) p:=⟨k,hk,rfl⟩
theorem normal_like {p q : T3} (h : Like p q) : p.normal = q.normal:=by
 obtain ⟨k,hk,rfl⟩:=h
 exact b30 hk
theorem Like.dot {p q p' q' : T3} (h : Like p p') (k : Like q q') : p.dot q = 0 ↔ p'.dot q' = 0:=by
 obtain ⟨a,ha,rfl⟩:=h
 obtain ⟨b,hb,rfl⟩:=k
 rw [by3]
 constructor
 ·intro h; exact (Rat.mul_eq_zero.1 h).resolve_left (fun e=>(Rat.mul_eq_zero.1 e).elim ha hb)
 intro h; rw [h,Rat.mul_zero]
end T3
namespace M3
def smul (k : Rat) (m : M3) : M3:=⟨m.a.smul k,m.b.smul k,m.c.smul k⟩
theorem inv_ne {k : Rat} (h : k ≠ 0) : k⁻¹ ≠ 0:=fun e=>by
 have h1:=Rat.mul_inv_cancel k h
 rw [e,Rat.mul_zero] at h1
 exact absurd h1 (by decide)
theorem apply_like {m : M3} {p q : T3} (h : T3.Like p q) : T3.Like (m.apply p) (m.apply q):=by
 obtain ⟨k,hk,rfl⟩:=h
 rw [cg9]
 exact T3.smul_like hk
end M3
theorem a62 {p q : T3} {B C : Nat} (hp : si p B) (hq : si q C) : si (p.cross q) (2 * (B * C)):=by
 obtain ⟨a,b,c,rfl,h3,h4,h5⟩:=hp
 obtain ⟨a',b',c',rfl,h3',h4',h5'⟩:=hq
 have e : ∀ {x y z u : Int},x.natAbs ≤ B → y.natAbs ≤ C → z.natAbs ≤ B → u.natAbs ≤ C → (x * y - z * u).natAbs ≤ 2 * (B * C):=fun g1 g2 g3 g4=>by
  have q1:=W4 g1 g2
  have q2:=W4 g3 g4
  omega
 exact ⟨b * c' - c * b',c * a' - a * c',a * b' - b * a',by simp only [T3.cross,Rat.intCast_sub,Rat.intCast_mul],e h4 h5' h5 h4',e h5 h3' h3 h5',e h3 h4' h4 h3'⟩
theorem a38 (a : Nat → Int) : si (M8 a) 4:=by
 have h:=fun i=>bz9 (a i)
 have h0:=h 0
 have h2:=h 2
 have h4:=h 4
 refine ⟨_,_,_,rfl,by omega,by omega,?_⟩
 unfold as5
 split <;> omega
theorem some_of {p q : T3} (h : ¬ T3.Same p q) : ¬ p.None ∧ ¬ q.None:=by
 refine ⟨fun ⟨a,b,c⟩=>h ?_,fun ⟨a,b,c⟩=>h ?_⟩ <;> refine ⟨?_,?_,?_⟩ <;> simp only [T3.cross,a,b,c] <;> grind
namespace C6
def mat (k : C6) : M3:=⟨⟨2 * k.a,k.h,k.g⟩,⟨k.h,2 * k.b,k.f⟩,⟨k.g,k.f,2 * k.c⟩⟩
def val (k : C6) (p : T3) : Rat:=(k.mat.apply p).dot p
end C6
abbrev cn7 (k : C6) (c1 c2 c3 c4 c5 c6 : Value) : Gh:=⟨fun S w=>ConC S w k c1 c2 c3 c4 c5 c6,fun h g=>h.keep g,fun h g=>h.mono g⟩
theorem av0 {k : C6} {n : Nat} (h : cl k n) : ∀ x ∈ k.list,rl x n:=by
 intro x hx
 simp only [C6.list,List.mem_cons,List.not_mem_nil,or_false] at hx
 rcases hx with rfl | rfl | rfl | rfl | rfl | rfl
 ·exact h.1
 ·exact h.2.1
 ·exact h.2.2.1
 ·exact h.2.2.2.1
 ·exact h.2.2.2.2.1
 exact h.2.2.2.2.2
noncomputable def N2 (k : C6) : Int:=at0 k.list
theorem P9 {S : Nat → Prop} {w : World} {v : Value} {k : C6} {n : Nat} (ht : Tab w) (hS : Up S w) (h : ConV S w v k) (hl : cl k n) (hn : n ≤ 1000000) (e : N2 k = 0) : Gives prog 55 [v] w fun v' w'=>v' = .tuple #[] ∧ Ext w w':=by
 obtain ⟨c1,c2,c3,c4,c5,c6,rfl,hk⟩:=h
 refine p7 (E:=env) (S0:=S) (G:=(cn7 k c1 c2 c3 c4 c5 c6)) (l:=[.agg [.ag 3 c1,.ag 3 c2,.ag 3 c3,.ag 3 c4,.ag 3 c5,.ag 3 c6]]) func55 rfl rfl rfl ⟨hk.ok _,trivial⟩ rfl hk ?_
 refine ac5 (.und) rfl (fun β S w hS hM hs hw hG=>(kx (b96 (ht.to hw) (A8 hS) (H2 (F:=Y5) (l:=k.list) 0 60 [c1,c2,c3,c4,c5,c6] hM (by kernel_rfl) hG.els (show 6 ≤ maxLen by decide)) (fun x hx=>O1 (av0 hl x hx) hn) e))) ?_
 exact p9 (.tuple #[]) rfl (fun S w hs hw hG=>⟨rfl,hw⟩)
theorem at5 {S : Nat → Prop} {w : World} {v : Value} {k : C6} {n : Nat} (ht : Tab w) (hS : Up S w) (h : ConV S w v k) (hl : cl k n) (hn : n ≤ 1000000) (e : ¬ N2 k = 0) : Pan prog 55 [v] w (J2 (N2 k)):=by
 obtain ⟨c1,c2,c3,c4,c5,c6,rfl,hk⟩:=h
 refine J8 (E:=env) (S0:=S) (G:=(cn7 k c1 c2 c3 c4 c5 c6)) (l:=[.agg [.ag 3 c1,.ag 3 c2,.ag 3 c3,.ag 3 c4,.ag 3 c5,.ag 3 c6]]) func55 rfl rfl rfl ⟨hk.ok _,trivial⟩ rfl hk ?_
 exact bk3 ⟨b9,hS,j5⟩ (by kernel_rfl) (by kernel_rfl) (fun β S w hS hM hs hw hG=>(kx (L5 (b57 (ht.to hw) (A8 hS) (H2 (F:=Y5) (l:=k.list) 0 60 [c1,c2,c3,c4,c5,c6] hM (by kernel_rfl) hG.els (show 6 ≤ maxLen by decide)) (fun x hx=>O1 (av0 hl x hx) hn) e) hw)))
theorem b69 : rl (2 : Rat) 1:=N3 (by decide) (by decide)
theorem U4 {k : C6} {n : Nat} (h : cl k n) : ml k.mat (n + 1):=⟨⟨m6 (q7 b69 h.1),m6 h.2.2.2.2.2,m6 h.2.2.2.2.1⟩,⟨m6 h.2.2.2.2.2,m6 (q7 b69 h.2.1),m6 h.2.2.2.1⟩,⟨m6 h.2.2.2.2.1,m6 h.2.2.2.1,m6 (q7 b69 h.2.2.1)⟩⟩
theorem a96 {S : Nat → Prop} {w : World} {v : Value} {k : C6} {n : Nat} (hS : Up S w) (h : ConV S w v k) (hl : cl k n) (hn : n ≤ 3000) : Gives prog 66 [v] w fun v' w'=>Ext w w' ∧ MapV S w' v' k.mat:=by
 obtain ⟨c1,c2,c3,c4,c5,c6,rfl,hk⟩:=h
 refine p7 (E:=env) (S0:=S) (G:=(cn7 k c1 c2 c3 c4 c5 c6)) (l:=[.agg [.ag 3 c1,.ag 3 c2,.ag 3 c3,.ag 3 c4,.ag 3 c5,.ag 3 c6]]) func66 rfl rfl rfl ⟨hk.ok _,trivial⟩ rfl hk ?_
 refine E9 (fun x0=>.one (.ag 3 x0)) (fun x0=>b8 x0 ((2 : Rat))) (fun β S w hS hs hw hG=>(kx (c06 (z:=2) hS (by decide) (by decide)))) ?_
 intro two
 refine q6 28 ?_
 refine d9 3 ?_
 refine q9 (fun x0=>.one (.ag 3 x0)) (fun x0=>b8 x0 ((2 * k.a))) (fun β η S w hS hs hw hG hd=>(kx (n8 hS hG.1 hG.2.c1 b69 hl.1))) ?_
 refine d9 10 ?_
 refine q9 (fun x0=>.one (.ag 3 x0)) (fun x0=>b8 x0 ((2 * k.b))) (fun β η S w hS hs hw hG hd=>(kx (n8 hS hG.1 hG.2.c2 b69 hl.2.1))) ?_
 refine d9 10 ?_
 refine q9 (fun x0=>.one (.ag 3 x0)) (fun x0=>b8 x0 ((2 * k.c))) (fun β η S w hS hs hw hG hd=>(kx (n8 hS hG.1 hG.2.c3 b69 hl.2.2.1))) ?_
 refine d9 2 ?_
 refine o6 [true,true,true] ((cn7 k c1 c2 c3 c4 c5 c6).and (Gh.nil)) (by exact fun _ _ h=>⟨h.2,trivial⟩) (fun g η=>(b8 (η 25) ((2 * k.c))).and ((b8 (η 14) ((2 * k.b))).and ((b8 (η 3) ((2 * k.a))).and g))) (fun g η=>(by kernel_rfl)) ?_
 intro η_1
 exact p9 (b79 (η_1 3) c6 c5 c6 (η_1 14) c4 c5 c4 (η_1 25)) rfl (fun S w hs hw hG=>have hk:=hG.2.2.2.1; ⟨hw,(MapC.mono (m:=k.mat) ⟨hG.2.2.1,hk.c6,hk.c5,hk.c6,hG.2.1,hk.c4,hk.c5,hk.c4,hG.1⟩ fun k _ hk=>hs k hk).map⟩)
theorem cl0 {S : Nat → Prop} {w : World} {v vp : Value} {k : C6} {p : T3} {n m : Nat} (hS : Up S w) (h : ConV S w v k) (hp : TripV S w vp p) (hl : cl k n) (hm : tl p m) (hnm : 12 * (n + m) + 40 ≤ 3000) : Gives prog 59 [v,vp] w fun v' w'=>Ext w w' ∧ RatV S w' v' (k.val p):=by
 refine p7 (E:=env) (S0:=S) (G:=((H0 v (k)).and (j6 vp (p)))) (l:=[.one (.ag 18 v),.one (.ag 9 vp)]) func59 rfl rfl rfl ⟨h.ok,hp.ok,trivial⟩ rfl ⟨h,hp⟩ ?_
 refine q6 6 ?_
 refine d9 1 ?_
 refine q9 (fun x0=>.one (.ag 27 x0)) (fun x0=>av6 x0 (k.mat)) (fun β η S w hS hs hw hG hd=>(kx (a96 hS hG.1 hl (by omega)))) ?_
 refine d9 1 ?_
 refine q9 (fun x0=>.one (.ag 9 x0)) (fun x0=>j6 x0 ((k.mat.apply p))) (fun β η S w hS hs hw hG hd=>(kx (al2 hS (n9 hd 1 : (av6 (η 1) (k.mat)).p S w) hG.2 (U4 hl) hm (by omega)))) ?_
 refine d9 1 ?_
 refine q9 (fun x0=>.one (.ag 3 x0)) (fun x0=>b8 x0 ((k.val p))) (fun β η S w hS hs hw hG hd=>(kx (an3 hS (n9 hd 3 : (j6 (η 3) ((k.mat.apply p))).p S w) hG.2 (ad0 (U4 hl) hm) hm (by omega)))) ?_
 refine o6 [true,false,false] (Gh.nil) (by exact fun _ _ h=>trivial) (fun g η=>(b8 (η 5) ((k.val p))).and g) (fun g η=>(by kernel_rfl)) ?_
 intro η_1
 exact p9 ((η_1 5)) rfl (fun S w hs hw hG=>⟨hw,hG.1.mono fun k _ hk=>hs k hk⟩)
theorem ds7 {k : C6} {p : T3} {n m : Nat} (hl : cl k n) (hm : tl p m) : rl (k.val p) (12 * (n + m) + 20):=m6 (bb1 (ad0 (U4 hl) hm) hm)
noncomputable def cpE (k : C6) (p : T3) : Int:=if N2 k = 0 then D5 p else N2 k
theorem a87 {k : C6} {p : T3} (h : cpE k p = 0) : N2 k = 0 ∧ D5 p = 0:=by
 unfold cpE at h
 split at h
 ·exact ⟨‹_›,h⟩
 exact absurd h ‹_›
theorem b05 {S : Nat → Prop} {w : World} {u1 u2 : Value} {k : C6} {p : T3} {n m : Nat} (ht : Tab w) (hS : Up S w) (o1 : u1.oneCell' = true) (o2 : u2.oneCell' = true) (h1 : (Y4 u1 k).p S w) (h2 : (A4 u2 p).p S w) (hl : cl k n) (hm : tl p m) (hnm : 12 * (n + m) + 40 ≤ 3000) (e1 : N2 k = 0) (e2 : D5 p = 0) :
  Gives prog 98 [u1,u2] w fun v' w'=>v' = .bool (tst (k.val p = 0)) ∧ Ext w w':=by
 refine p7 (E:=env) (S0:=S) (G:=((Y4 u1 k).and (A4 u2 p))) (l:=[.one (.val u1),.one (.val u2)]) func98 rfl rfl rfl ⟨o1,o2,trivial⟩ rfl ⟨h1,h2⟩ ?_
 refine n7 (p8 u1 60 18 true (fun x0=>.one (.ag 18 x0)) (fun x0=>H0 x0 (k)) (fun β S w hM hw hG=>let ⟨y,e1,e2,e3⟩:=hG.1; ⟨S,y,e1,e2,e3⟩) ?_)
 intro x
 refine z7 (.und) rfl (fun β S w hS hs hw hG=>(kx (P9 (ht.to hw) hS hG.1 hl (by omega) e1))) ?_
 refine n7 (p8 u2 55 9 true (fun x0=>.one (.ag 9 x0)) (fun x0=>j6 x0 (p)) (fun β S w hM hw hG=>let ⟨y,e1,e2,e3⟩:=hG.2.2; ⟨S,y,e1,e2,e3⟩) ?_)
 intro y
 refine ac5 (.und) rfl (fun β S w hS hM hs hw hG=>(kx (M2 (ht.to hw) (A8 hS) (H2 (l:=[p]) 0 55 [y] hM (by kernel_rfl) (ao5 hG.1) (show 1 ≤ maxLen by decide)) (bi3 (D4 hm)) (bi3 e2)))) ?_
 refine n7 (p8 u1 60 18 true (fun x0=>.one (.ag 18 x0)) (fun x0=>H0 x0 (k)) (fun β S w hM hw hG=>let ⟨y,e1,e2,e3⟩:=hG.2.2.1; ⟨S,y,e1,e2,e3⟩) ?_)
 intro a
 refine n7 (p8 u2 55 9 true (fun x0=>.one (.ag 9 x0)) (fun x0=>j6 x0 (p)) (fun β S w hM hw hG=>let ⟨y,e1,e2,e3⟩:=hG.2.2.2.2; ⟨S,y,e1,e2,e3⟩) ?_)
 intro b
 refine E9 (fun x0=>.one (.ag 3 x0)) (fun x0=>b8 x0 ((k.val p))) (fun β S w hS hs hw hG=>(kx (cl0 hS hG.2.1 hG.1 hl hm hnm))) ?_
 intro c
 refine z7 (.one (.tp (k.val p = 0))) rfl (fun β S w hS hs hw hG=>(kx (E7 hS hG.1))) ?_
 exact p9 (.bool (tst (k.val p = 0))) rfl (fun S w hs hw hG=>⟨rfl,hw⟩)
theorem b89 {S : Nat → Prop} {w : World} {u1 u2 : Value} {k : C6} {p : T3} {n m : Nat} (ht : Tab w) (hS : Up S w) (o1 : u1.oneCell' = true) (o2 : u2.oneCell' = true) (h1 : (Y4 u1 k).p S w) (h2 : (A4 u2 p).p S w) (hl : cl k n) (hm : tl p m) (hnm : 12 * (n + m) + 40 ≤ 3000) (e0 : ¬ cpE k p = 0) :
  Pan prog 98 [u1,u2] w (J2 (cpE k p)):=by
 refine J8 (E:=env) (S0:=S) (G:=((Y4 u1 k).and (A4 u2 p))) (l:=[.one (.val u1),.one (.val u2)]) func98 rfl rfl rfl ⟨o1,o2,trivial⟩ rfl ⟨h1,h2⟩ ?_
 refine n7 (p8 u1 60 18 true (fun x0=>.one (.ag 18 x0)) (fun x0=>H0 x0 (k)) (fun β S w hM hw hG=>let ⟨y,e1,e2,e3⟩:=hG.1; ⟨S,y,e1,e2,e3⟩) ?_)
 intro x
 by_cases e1 : N2 k = 0
 ·have e : cpE k p = D5 p:=by unfold cpE; rw [if_pos e1]
  have e2 : ¬ D5 p = 0:=by rw [← e]; exact e0
  rw [e]
  refine z7 (.und) rfl (fun β S w hS hs hw hG=>(kx (P9 (ht.to hw) hS hG.1 hl (by omega) e1))) ?_
  refine n7 (p8 u2 55 9 true (fun x0=>.one (.ag 9 x0)) (fun x0=>j6 x0 (p)) (fun β S w hM hw hG=>let ⟨y,e1,e2,e3⟩:=hG.2.2; ⟨S,y,e1,e2,e3⟩) ?_)
  intro y
  exact bk3 ⟨b9,hS,j5⟩ (by kernel_rfl) (by kernel_rfl) (fun β S w hS hM hs hw hG=>(kx (L5 (am9 (ht.to hw) (A8 hS) (H2 (l:=[p]) 0 55 [y] hM (by kernel_rfl) (ao5 hG.1) (show 1 ≤ maxLen by decide)) (D4 hm) e2) hw)))
 have e : cpE k p = N2 k:=by unfold cpE; rw [if_neg e1]
 rw [e]
 exact av8 (fun β S w hS hs hw hG=>(kx (L5 (at5 (ht.to hw) hS hG.1 hl (by omega) e1) hw)))
theorem aa8 {S : Nat → Prop} {w : World} {v vp : Value} {k : C6} {p : T3} {n m : Nat} (ht : Tab w) (hS : Up S w) (h : ConV S w v k) (hp : TripV S w vp p) (hl : cl k n) (hm : tl p m) (hnm : 12 * (n + m) + 40 ≤ 3000) :
  Gives prog 36 [v,vp] w fun v' w'=>v' = .tuple #[.bool (tst (cpE k p = 0 ∧ k.val p = 0)),.int .i64 (cpE k p)] ∧ Ext w w':=by
 refine p7 (E:=env) (S0:=S) (G:=((H0 v (k)).and (j6 vp (p)))) (l:=[.one (.ag 18 v),.one (.ag 9 vp)]) func36 rfl rfl rfl ⟨h.ok,hp.ok,trivial⟩ rfl ⟨h,hp⟩ ?_
 refine n7 (I0 0 60 ([.ag 18 v]) (fun u1=>?_))
 refine n7 (I0 1 55 ([.ag 9 vp]) (fun u2=>?_))
 refine z7 (pr (.tp (cpE k p = 0 ∧ k.val p = 0)) (.int .i64 (cpE k p))) rfl (fun β S w hS hs hw hG=>have h:=hG.2.2.1; (kx (d56 98 [u1,u2] (p:=k.val p = 0) (E:=cpE k p) hS (fun e S' w' hS' k' _ hs'=>b05 (ht.to (hw.trans k')) hS' (G7 hG.2.1) (G7 hG.1) ((Y4 u1 k).at' (ae5 (F:=fun x=>H0 x k) hG.2.1 h.lies h) hs' k') ((A4 u2 p).at' (N4 hG.1 hG.2.2.2) hs' k') hl hm hnm (a87 e).1 (a87 e).2) (fun e S' w' hS' k' _ hs'=>b89 (ht.to (hw.trans k')) hS' (G7 hG.2.1) (G7 hG.1) ((Y4 u1 k).at' (ae5 (F:=fun x=>H0 x k) hG.2.1 h.lies h) hs' k') ((A4 u2 p).at' (N4 hG.1 hG.2.2.2) hs' k') hl hm hnm e)))) ?_
 exact p9 (.tuple #[.bool (tst (cpE k p = 0 ∧ k.val p = 0)),.int .i64 (cpE k p)]) rfl (fun S w hs hw hG=>⟨rfl,hw⟩)
abbrev c93 (k : C6) (c1 c2 c3 c4 c5 c6 : Value) : Gh:=⟨fun S w=>QConC S w k c1 c2 c3 c4 c5 c6,fun h g=>h.keep g,fun h g=>h.mono g⟩
theorem bn7 {S : Nat → Prop} {w : World} {v : Value} {k : C6} {n : Nat} (hS : Up S w) (h : QConV S w v k) (hl : cl k n) (hn : n ≤ 1000000) :
  Gives prog 83 [v] w fun v' w'=>v' = .int .i64 (N2 k) ∧ Ext w w':=by
 obtain ⟨c1,c2,c3,c4,c5,c6,rfl,hk⟩:=h
 refine p7 (E:=env) (S0:=S) (G:=(c93 k c1 c2 c3 c4 c5 c6)) (l:=[.agg [.ag 4 c1,.ag 4 c2,.ag 4 c3,.ag 4 c4,.ag 4 c5,.ag 4 c6]]) func83 rfl rfl rfl ⟨hk.ok _,trivial⟩ rfl hk ?_
 by_cases hn1 : M9 k.list
 ·refine ac5 (.tup [(true,[.bb false,.sl (.slice none 0 0) 0,.bb false,.sl (.slice none 0 0) 0]),(false,[.bb false])]) rfl (fun β S w hS hM hs hw hG=>(kx (dc9 (A8 hS) (H2 (F:=qF) (l:=k.list) 0 36 [c1,c2,c3,c4,c5,c6] hM (by kernel_rfl) hG.els (show 6 ≤ maxLen by decide)) hn1))) ?_
  exact p9 (.int .i64 60) rfl (fun S w hs hw hG=>⟨by unfold N2 at0; rw [if_pos hn1],hw⟩)
 have hn2 : 0 ≤ R6 ap7 k.list 0:=al3.1 (Classical.not_not.1 hn1)
 obtain ⟨j,e1,e2,e3⟩:=a35 hn2
 rw [Nat.zero_add] at e1
 refine fc4 (fun x0=>pr (.ag 4 (R5 x0 0)) (.bb true)) (fun x0=>A7 ((pr (.ag 4 (R5 x0 0)) (.bb true)).Ok 0 ∧ (pr (.ag 4 (R5 x0 0)) (.bb true)).den (fun _=>0) = x0)) ⟨b9,hS,j5⟩ (by kernel_rfl) (by kernel_rfl) (fun _ _ _ h=>h) (fun β S w hS hM hs hw hG=>(kx ((df5 (A8 hS) (H2 (F:=qF) (l:=k.list) 0 36 [c1,c2,c3,c4,c5,c6] hM (by kernel_rfl) hG.els (show 6 ≤ maxLen by decide)) e1 e2 e3).mono fun v' w' h=>⟨h.1,dw0 h.2⟩))) ?_
 intro y
 refine ac5 (.one (.tp (ak8 k.list))) rfl (fun β S w hS hM hs hw hG=>(kx (dn9 (A8 hS) (H2 (F:=qF) (l:=k.list) 0 36 [c1,c2,c3,c4,c5,c6] hM (by kernel_rfl) hG.2.els (show 6 ≤ maxLen by decide)) (fun x hx=>O1 (av0 hl x hx) hn)))) ?_
 refine R8 (p:=ak8 k.list) (fun h1=>?_) (fun h1=>?_)
 ·exact p9 (.int .i64 11) rfl (fun S w hs hw hG=>⟨by unfold N2 at0; rw [if_neg hn1,if_pos h1],hw⟩)
 exact p9 (.int .i64 0) rfl (fun S w hs hw hG=>⟨by unfold N2 at0; rw [if_neg hn1,if_neg h1],hw⟩)
def C6.poly (k : C6) (p : T3) : Rat:=k.a * (p.x * p.x) + k.b * (p.y * p.y) + k.c * (p.z * p.z) + k.f * (p.y * p.z) + k.g * (p.z * p.x) + k.h * (p.x * p.y)
theorem bl0 (k : C6) (p : T3) : k.val p = 2 * k.poly p:=by
 simp only [C6.val,C6.mat,C6.poly,M3.apply,T3.dot]
 grind
theorem da7 {k : C6} {p : T3} : k.val p = 0 ↔ k.poly p = 0:=by
 rw [bl0]
 constructor
 ·intro h; exact (Rat.mul_eq_zero.1 h).resolve_left (by decide)
 intro h; rw [h,Rat.mul_zero]
namespace C6
def bl (k : C6) (p q : T3) : Rat:=(k.mat.apply p).dot q
theorem bl_comm (k : C6) (p q : T3) : k.bl p q = k.bl q p:=by
 simp only [bl,mat,M3.apply,T3.dot]
 grind
end C6
namespace T3
end T3
noncomputable def a50 (k : C6) (p q : T3) : T3:=if k.bl p q = 0 then p.normal else (T3.lin (-(k.bl q q / (2 * k.bl p q))) p 1 q).normal
theorem bj5 {p q q' : T3} (h : T3.Like q q') : p.dot q = 0 ↔ p.dot q' = 0:=T3.Like.dot T3.Like.rfl h
def aa2 (i : Nat) : T3:=match i with | 0=>⟨1,0,0⟩ | 1=>⟨0,1,0⟩ | _=>⟨0,0,1⟩
theorem dp8 (i : Nat) (l : T3) : ((aa2 i).cross l).dot l = 0:=by rw [T3.dot_comm]; exact T3.cross_dot2 _ _
theorem cq7 {l p : T3} (hl : ¬ l.None) (hp : ¬ p.None) : ∃ i,i < 3 ∧ ¬ ((aa2 i).cross l).None ∧ ¬ T3.Same ((aa2 i).cross l) p:=by
 refine Classical.byContradiction fun h=>?_
 have key : ∀ i,i < 3 → T3.Same ((aa2 i).cross l) p:=fun i hi=>by
  refine Classical.byContradiction fun g=>h ⟨i,hi,?_,g⟩
  rintro ⟨a,b,c⟩
  exact g (by refine ⟨?_,?_,?_⟩ <;> simp only [T3.cross] at a b c ⊢ <;> grind)
 have k0:=key 0 (by decide)
 have k1:=key 1 (by decide)
 have k2:=key 2 (by decide)
 obtain ⟨a1,a2,a3⟩:=k0
 obtain ⟨b1,b2,b3⟩:=k1
 obtain ⟨c1,c2,c3⟩:=k2
 simp only [aa2,T3.cross] at a1 a2 a3 b1 b2 b3 c1 c2 c3
 refine hl ?_
 by_cases hx : p.x = 0
 ·by_cases hy : p.y = 0
  ·have hz : p.z ≠ 0:=fun hz=>hp ⟨hx,hy,hz⟩
   refine ⟨?_,?_,?_⟩ <;> grind
  refine ⟨?_,?_,?_⟩ <;> grind
 refine ⟨?_,?_,?_⟩ <;> grind
def bj3 (l p : T3) (i : Nat) : Prop:=¬ ((aa2 i).cross l).None ∧ ¬ T3.Same ((aa2 i).cross l) p
open Classical in
noncomputable def pick (l p : T3) : Nat:=if bj3 l p 0 then 0 else if bj3 l p 1 then 1 else 2
theorem ct7 {l p : T3} (hl : ¬ l.None) (hp : ¬ p.None) : bj3 l p (pick l p):=by
 unfold pick
 split
 ·assumption
 split
 ·assumption
 rename_i h0 h1
 obtain ⟨i,hi,a,b⟩:=cq7 hl hp
 match i,hi,a,b with
 | 0,_,a,b=>exact absurd ⟨a,b⟩ h0
 | 1,_,a,b=>exact absurd ⟨a,b⟩ h1
 | 2,_,a,b=>exact ⟨a,b⟩
noncomputable def l8 (l p : T3) : T3:=(aa2 (pick l p)).cross l
theorem bx7 {k : C6} {p : T3} (hd : k.mat.det ≠ 0) (hp : ¬ p.None) {u : T3} (hu : T3.Like u (k.mat.apply p)) (h0 : k.bl p p = 0) : a50 k p (l8 u p) = p.normal:=by
 unfold a50
 rw [if_pos]
 have h : (l8 u p).dot u = 0:=dp8 _ _
 have h2 : (l8 u p).dot (k.mat.apply p) = 0:=(T3.Like.dot T3.Like.rfl hu).1 h
 show (k.mat.apply p).dot (l8 u p) = 0
 rw [T3.dot_comm]
 exact h2
namespace C6
def prod (l m : T3) : C6:=⟨l.x * m.x,l.y * m.y,l.z * m.z,l.y * m.z + l.z * m.y,l.z * m.x + l.x * m.z,l.x * m.y + l.y * m.x⟩
theorem poly_prod (l m p : T3) : (prod l m).poly p = l.dot p * m.dot p:=by
 simp only [poly,prod,T3.dot]
 grind
def comb (y : Rat) (a : C6) (x : Rat) (b : C6) : C6:=⟨y * a.a + -(x * b.a),y * a.b + -(x * b.b),y * a.c + -(x * b.c),y * a.f + -(x * b.f),y * a.g + -(x * b.g),y * a.h + -(x * b.h)⟩
theorem poly_comb (y : Rat) (a : C6) (x : Rat) (b : C6) (p : T3) : (comb y a x b).poly p = y * a.poly p - x * b.poly p:=by
 simp only [poly,comb]
 grind
end C6
structure P5 where
 p0 : T3
 p1 : T3
 p2 : T3
 p3 : T3
 p4 : T3
namespace P5
def ca (s : P5) : C6:=C6.prod (s.p0.cross s.p1) (s.p2.cross s.p3)
def cb (s : P5) : C6:=C6.prod (s.p0.cross s.p2) (s.p1.cross s.p3)
def con (s : P5) : C6:=C6.comb (s.cb.val s.p4) s.ca (s.ca.val s.p4) s.cb
theorem Y7 (s : P5) (p : T3) : s.con.poly p = 2 * ((s.p0.cross s.p2).dot s.p4 * (s.p1.cross s.p3).dot s.p4) * ((s.p0.cross s.p1).dot p * (s.p2.cross s.p3).dot p) - 2 * ((s.p0.cross s.p1).dot s.p4 * (s.p2.cross s.p3).dot s.p4) * ((s.p0.cross s.p2).dot p * (s.p1.cross s.p3).dot p):=by
 unfold con ca cb
 rw [C6.poly_comb,bl0,bl0,C6.poly_prod,C6.poly_prod,C6.poly_prod,C6.poly_prod]
theorem cd1 (u v : T3) : (u.cross v).dot u = 0:=by rw [T3.dot_comm]; exact T3.cross_dot1 u v
theorem cd2 (u v : T3) : (u.cross v).dot v = 0:=by rw [T3.dot_comm]; exact T3.cross_dot2 u v
theorem on_0 (s : P5) : s.con.poly s.p0 = 0:=by rw [Y7,cd1,cd1]; grind
theorem on_1 (s : P5) : s.con.poly s.p1 = 0:=by rw [Y7,cd2,cd1]; grind
theorem on_2 (s : P5) : s.con.poly s.p2 = 0:=by rw [Y7,cd1,cd2]; grind
theorem on_3 (s : P5) : s.con.poly s.p3 = 0:=by rw [Y7,cd2,cd2]; grind
theorem on_4 (s : P5) : s.con.poly s.p4 = 0:=by rw [Y7]; grind
structure Free (s : P5) : Prop where
 a01 : ¬ (T3.Flat s.p0 s.p1 s.p2 ∧ T3.Flat s.p0 s.p1 s.p3)
 a02 : ¬ (T3.Flat s.p0 s.p2 s.p1 ∧ T3.Flat s.p0 s.p2 s.p3)
 a12 : ¬ (T3.Flat s.p1 s.p2 s.p0 ∧ T3.Flat s.p1 s.p2 s.p3)
 a03 : ¬ (T3.Flat s.p0 s.p3 s.p1 ∧ T3.Flat s.p0 s.p3 s.p2)
 a13 : ¬ (T3.Flat s.p1 s.p3 s.p0 ∧ T3.Flat s.p1 s.p3 s.p2)
 a23 : ¬ (T3.Flat s.p2 s.p3 s.p0 ∧ T3.Flat s.p2 s.p3 s.p1)
 a04 : ¬ (T3.Flat s.p0 s.p4 s.p1 ∧ T3.Flat s.p0 s.p4 s.p2)
 a14 : ¬ (T3.Flat s.p1 s.p4 s.p0 ∧ T3.Flat s.p1 s.p4 s.p3)
 a24 : ¬ (T3.Flat s.p2 s.p4 s.p0 ∧ T3.Flat s.p2 s.p4 s.p3)
 a34 : ¬ (T3.Flat s.p3 s.p4 s.p1 ∧ T3.Flat s.p3 s.p4 s.p2)
def dt (p q r : T3) : Rat:=(p.cross q).dot r
theorem G9 {p q r : T3} : T3.Flat p q r ↔ dt p q r = 0:=Iff.rfl
theorem ah4 (p q r : T3) : dt q r p = dt p q r:=by simp only [dt,T3.cross,T3.dot]; grind
theorem dq5 (p q r : T3) : dt q p r = -dt p q r:=by simp only [dt,T3.cross,T3.dot]; grind
theorem U9 (p q r : T3) : dt p r q = -dt p q r:=by simp only [dt,T3.cross,T3.dot]; grind
theorem O2 (u v l : T3) : (l.dot ⟨u.x + v.x,u.y + v.y,u.z + v.z⟩ : Rat) = l.dot u + l.dot v:=by simp only [T3.dot]; grind
theorem con_some {s : P5} (h : s.Free) : ∃ p,s.con.poly p ≠ 0:=by
 obtain ⟨d012,e012⟩ : ∃ d,d = dt s.p0 s.p1 s.p2:=⟨_,rfl⟩
 obtain ⟨d013,e013⟩ : ∃ d,d = dt s.p0 s.p1 s.p3:=⟨_,rfl⟩
 obtain ⟨d023,e023⟩ : ∃ d,d = dt s.p0 s.p2 s.p3:=⟨_,rfl⟩
 obtain ⟨d123,e123⟩ : ∃ d,d = dt s.p1 s.p2 s.p3:=⟨_,rfl⟩
 have x0 : ¬ (dt s.p0 s.p1 s.p4 * dt s.p2 s.p3 s.p4 = 0 ∧ dt s.p0 s.p2 s.p4 * dt s.p1 s.p3 s.p4 = 0):=by
  rintro ⟨h1,h2⟩
  rcases Rat.mul_eq_zero.1 h1 with h1 | h1 <;> rcases Rat.mul_eq_zero.1 h2 with h2 | h2
  ·exact h.a04 ⟨G9.2 (by rw [U9,h1]; rfl),G9.2 (by rw [U9,h2]; rfl)⟩
  ·refine h.a14 ⟨G9.2 ?_,G9.2 (by rw [U9,h2]; rfl)⟩
   rw [← ah4] at h1
   exact h1
  ·refine h.a24 ⟨G9.2 ?_,G9.2 (by rw [U9,h1]; rfl)⟩
   rw [← ah4] at h2
   exact h2
  refine h.a34 ⟨G9.2 ?_,G9.2 ?_⟩
  ·rw [← ah4] at h2; exact h2
  rw [← ah4] at h1; exact h1
 have n1 : ¬ (d012 = 0 ∧ d013 = 0):=fun g=>h.a01 ⟨G9.2 (e012 ▸ g.1),G9.2 (e013 ▸ g.2)⟩
 have n2 : ¬ (d012 = 0 ∧ d023 = 0):=fun g=>h.a02 ⟨G9.2 (by rw [U9,← e012,g.1]; rfl),G9.2 (e023 ▸ g.2)⟩
 have n3 : ¬ (d012 = 0 ∧ d123 = 0):=fun g=>h.a12 ⟨G9.2 (by rw [ah4,← e012,g.1]),G9.2 (e123 ▸ g.2)⟩
 have n4 : ¬ (d013 = 0 ∧ d023 = 0):=fun g=>h.a03 ⟨G9.2 (by rw [U9,← e013,g.1]; rfl),G9.2 (by rw [U9,← e023,g.2]; rfl)⟩
 have n5 : ¬ (d013 = 0 ∧ d123 = 0):=fun g=>h.a13 ⟨G9.2 (by rw [ah4,← e013,g.1]),G9.2 (by rw [U9,← e123,g.2]; rfl)⟩
 have n6 : ¬ (d023 = 0 ∧ d123 = 0):=fun g=>h.a23 ⟨G9.2 (by rw [ah4,← e023,g.1]),G9.2 (by rw [ah4,← e123,g.2])⟩
 obtain ⟨X,EX⟩ : ∃ x,x = dt s.p0 s.p1 s.p4 * dt s.p2 s.p3 s.p4:=⟨_,rfl⟩
 obtain ⟨Y,EY⟩ : ∃ y,y = dt s.p0 s.p2 s.p4 * dt s.p1 s.p3 s.p4:=⟨_,rfl⟩
 rw [← EX,← EY] at x0
 have c01 : s.con.poly ⟨s.p0.x + s.p1.x,s.p0.y + s.p1.y,s.p0.z + s.p1.z⟩ = 2 * X * (d012 * d013):=by
  have hx : (s.p0.cross s.p1).dot s.p4 * (s.p2.cross s.p3).dot s.p4 = X:=EX.symm
  have hy : (s.p0.cross s.p2).dot s.p4 * (s.p1.cross s.p3).dot s.p4 = Y:=EY.symm
  rw [Y7,hx,hy,O2,O2,O2,O2]
  have h1 : (s.p0.cross s.p2).dot s.p1 = -d012:=(U9 _ _ _).trans (e012 ▸ rfl)
  have h2 : (s.p1.cross s.p3).dot s.p0 = d013:=(ah4 _ _ _).trans e013.symm
  rw [cd1,cd2,cd1,cd1,h1,h2]
  grind
 have c23 : s.con.poly ⟨s.p2.x + s.p3.x,s.p2.y + s.p3.y,s.p2.z + s.p3.z⟩ = 2 * X * (d023 * d123):=by
  have hx : (s.p0.cross s.p1).dot s.p4 * (s.p2.cross s.p3).dot s.p4 = X:=EX.symm
  have hy : (s.p0.cross s.p2).dot s.p4 * (s.p1.cross s.p3).dot s.p4 = Y:=EY.symm
  rw [Y7,hx,hy,O2,O2,O2,O2]
  have h1 : (s.p0.cross s.p2).dot s.p3 = d023:=e023.symm
  have h2 : (s.p1.cross s.p3).dot s.p2 = -d123:=(U9 _ _ _).trans (e123 ▸ rfl)
  rw [cd1,cd2,cd2,cd2,h1,h2]
  grind
 have c02 : s.con.poly ⟨s.p0.x + s.p2.x,s.p0.y + s.p2.y,s.p0.z + s.p2.z⟩ = 2 * Y * (d012 * d023):=by
  have hx : (s.p0.cross s.p1).dot s.p4 * (s.p2.cross s.p3).dot s.p4 = X:=EX.symm
  have hy : (s.p0.cross s.p2).dot s.p4 * (s.p1.cross s.p3).dot s.p4 = Y:=EY.symm
  rw [Y7,hx,hy,O2,O2,O2,O2]
  have h1 : (s.p0.cross s.p1).dot s.p2 = d012:=e012.symm
  have h2 : (s.p2.cross s.p3).dot s.p0 = d023:=(ah4 _ _ _).trans e023.symm
  rw [cd1,cd2,cd1,cd1,h1,h2]
  grind
 have c13 : s.con.poly ⟨s.p1.x + s.p3.x,s.p1.y + s.p3.y,s.p1.z + s.p3.z⟩ = 2 * Y * (d013 * d123):=by
  have hx : (s.p0.cross s.p1).dot s.p4 * (s.p2.cross s.p3).dot s.p4 = X:=EX.symm
  have hy : (s.p0.cross s.p2).dot s.p4 * (s.p1.cross s.p3).dot s.p4 = Y:=EY.symm
  rw [Y7,hx,hy,O2,O2,O2,O2]
  have h1 : (s.p0.cross s.p1).dot s.p3 = d013:=e013.symm
  have h2 : (s.p2.cross s.p3).dot s.p1 = d123:=(ah4 _ _ _).trans e123.symm
  rw [cd1,cd2,cd2,cd2,h1,h2]
  grind
 have t2 : (2 : Rat) ≠ 0:=by decide
 by_cases hX : X = 0
 ·have hY : Y ≠ 0:=fun hY=>x0 ⟨hX,hY⟩
  by_cases g : d012 = 0 ∨ d023 = 0
  ·have g1 : d013 ≠ 0:=fun e=>g.elim (fun a=>n1 ⟨a,e⟩) fun a=>n4 ⟨e,a⟩
   have g2 : d123 ≠ 0:=fun e=>g.elim (fun a=>n3 ⟨a,e⟩) fun a=>n6 ⟨a,e⟩
   exact ⟨_,by rw [c13]; exact Z6 (Z6 t2 hY) (Z6 g1 g2)⟩
  exact ⟨_,by rw [c02]; exact Z6 (Z6 t2 hY) (Z6 (fun e=>g (.inl e)) fun e=>g (.inr e))⟩
 by_cases g : d012 = 0 ∨ d013 = 0
 ·have g1 : d023 ≠ 0:=fun e=>g.elim (fun a=>n2 ⟨a,e⟩) fun a=>n4 ⟨a,e⟩
  have g2 : d123 ≠ 0:=fun e=>g.elim (fun a=>n3 ⟨a,e⟩) fun a=>n5 ⟨a,e⟩
  exact ⟨_,by rw [c23]; exact Z6 (Z6 t2 hX) (Z6 g1 g2)⟩
 exact ⟨_,by rw [c01]; exact Z6 (Z6 t2 hX) (Z6 (fun e=>g (.inl e)) fun e=>g (.inr e))⟩
end P5
namespace P5
def list (s : P5) : List T3:=[s.p0,s.p1,s.p2,s.p3,s.p4]
def at' (s : P5) (i : Nat) : T3:=s.list.getD i ⟨0,0,0⟩
open Classical in
noncomputable def cnt (u v : T3) (l : List T3) : Nat:=l.countP fun p=>decide (T3.Flat u v p)
open Classical in
theorem as4 (u v p : T3) (l : List T3) : cnt u v (p :: l) = cnt u v l + if T3.Flat u v p then 1 else 0:=by
 unfold cnt
 rw [List.countP_cons]
 simp only [decide_eq_true_eq]
open Classical in
theorem c47 (u v p : T3) (l : List T3) : cnt u v (l ++ [p]) = cnt u v l + if T3.Flat u v p then 1 else 0:=by
 unfold cnt
 rw [List.countP_append,List.countP_cons,List.countP_nil]
 simp only [decide_eq_true_eq,Nat.zero_add]
theorem d09 (u v : T3) (l : List T3) : cnt u v l ≤ l.length:=List.countP_le_length
noncomputable def on (s : P5) (u v : T3) : Nat:=cnt u v s.list
def BadP (s : P5) (i j : Nat) : Prop:=T3.Same (s.at' i) (s.at' j) ∨ 3 < s.on (s.at' i) (s.at' j)
def Fine (s : P5) : Prop:=∀ i j,j < i → i < 5 → ¬ s.BadP i j
theorem aj5 (u v : T3) : T3.Flat u v u:=cd1 u v
theorem ak0 (u v : T3) : T3.Flat u v v:=cd2 u v
theorem K3 {u v p : T3} (h : T3.Flat u v p) : T3.Flat v u p:=by
 have e : dt v u p = -dt u v p:=dq5 u v p
 have h' : dt u v p = 0:=h
 show dt v u p = 0
 rw [e,h']
 rfl
open Classical in
theorem d19 (s : P5) (u v : T3) : s.on u v = (if T3.Flat u v s.p4 then 1 else 0) + (if T3.Flat u v s.p3 then 1 else 0) + (if T3.Flat u v s.p2 then 1 else 0) + (if T3.Flat u v s.p1 then 1 else 0) + (if T3.Flat u v s.p0 then 1 else 0):=by
 unfold on list
 rw [as4,as4,as4,as4,as4]
 show 0 + _ + _ + _ + _ + _ = _
 rw [Nat.zero_add]
theorem aw3 {s : P5} {u v : T3} (h : (T3.Flat u v s.p0 ∧ T3.Flat u v s.p1 ∧ T3.Flat u v s.p2 ∧ T3.Flat u v s.p3) ∨ (T3.Flat u v s.p0 ∧ T3.Flat u v s.p1 ∧ T3.Flat u v s.p2 ∧ T3.Flat u v s.p4) ∨ (T3.Flat u v s.p0 ∧ T3.Flat u v s.p1 ∧ T3.Flat u v s.p3 ∧ T3.Flat u v s.p4) ∨ (T3.Flat u v s.p0 ∧ T3.Flat u v s.p2 ∧ T3.Flat u v s.p3 ∧ T3.Flat u v s.p4) ∨ (T3.Flat u v s.p1 ∧ T3.Flat u v s.p2 ∧ T3.Flat u v s.p3 ∧ T3.Flat u v s.p4)) : 3 < s.on u v:=by
 rw [d19]
 rcases h with ⟨a,b,c,d⟩ | ⟨a,b,c,d⟩ | ⟨a,b,c,d⟩ | ⟨a,b,c,d⟩ | ⟨a,b,c,d⟩ <;> rw [if_pos a,if_pos b,if_pos c,if_pos d] <;> split <;> omega
theorem free_of {s : P5} (h : s.Fine) : s.Free where
 a01:=fun ⟨a,b⟩=>h 1 0 (by decide) (by decide) (.inr (aw3 (.inl ⟨ak0 _ _,aj5 _ _,K3 a,K3 b⟩)))
 a02:=fun ⟨a,b⟩=>h 2 0 (by decide) (by decide) (.inr (aw3 (.inl ⟨ak0 _ _,K3 a,aj5 _ _,K3 b⟩)))
 a12:=fun ⟨a,b⟩=>h 2 1 (by decide) (by decide) (.inr (aw3 (.inl ⟨K3 a,ak0 _ _,aj5 _ _,K3 b⟩)))
 a03:=fun ⟨a,b⟩=>h 3 0 (by decide) (by decide) (.inr (aw3 (.inl ⟨ak0 _ _,K3 a,K3 b,aj5 _ _⟩)))
 a13:=fun ⟨a,b⟩=>h 3 1 (by decide) (by decide) (.inr (aw3 (.inl ⟨K3 a,ak0 _ _,K3 b,aj5 _ _⟩)))
 a23:=fun ⟨a,b⟩=>h 3 2 (by decide) (by decide) (.inr (aw3 (.inl ⟨K3 a,K3 b,ak0 _ _,aj5 _ _⟩)))
 a04:=fun ⟨a,b⟩=>h 4 0 (by decide) (by decide) (.inr (aw3 (.inr (.inl ⟨ak0 _ _,K3 a,K3 b,aj5 _ _⟩))))
 a14:=fun ⟨a,b⟩=>h 4 1 (by decide) (by decide) (.inr (aw3 (.inr (.inr (.inl ⟨K3 a,ak0 _ _,K3 b,aj5 _ _⟩)))))
 a24:=fun ⟨a,b⟩=>h 4 2 (by decide) (by decide) (.inr (aw3 (.inr (.inr (.inr (.inl ⟨K3 a,ak0 _ _,K3 b,aj5 _ _⟩))))))
 a34:=fun ⟨a,b⟩=>h 4 3 (by decide) (by decide) (.inr (aw3 (.inr (.inr (.inr (.inr ⟨K3 a,K3 b,ak0 _ _,aj5 _ _⟩))))))
end P5
namespace C6
noncomputable def lead (k : C6) : Rat:=Q8 k.list
def over (k : C6) (x : Rat) : C6:=⟨k.a / x,k.b / x,k.c / x,k.f / x,k.g / x,k.h / x⟩
theorem cz6 (k : C6) (x : Rat) : (k.over x).list = k.list.map (· / x):=rfl
noncomputable def normal (k : C6) : C6:=k.over k.lead
theorem cy4 (k : C6) (x : Rat) (p : T3) : (k.over x).poly p = k.poly p * x⁻¹:=by
 simp only [poly,over,Rat.div_def]
 grind
theorem some_of {k : C6} {p : T3} (h : k.poly p ≠ 0) : ¬ M9 k.list:=by
 intro g
 have z : ∀ x ∈ k.list,x = 0:=fun x hx=>Classical.byContradiction fun e=>g ⟨x,hx,e⟩
 have ha:=z k.a (by simp [list])
 have hb:=z k.b (by simp [list])
 have hc:=z k.c (by simp [list])
 have hf:=z k.f (by simp [list])
 have hg:=z k.g (by simp [list])
 have hh:=z k.h (by simp [list])
 refine h ?_
 simp only [poly,ha,hb,hc,hf,hg,hh]
 grind
theorem fpos_c {k : C6} (h : ¬ M9 k.list) : 0 ≤ R6 ap7 k.list 0:=al3.1 (Classical.not_not.1 h)
theorem lead_ne {k : C6} (h : ¬ M9 k.list) : k.lead ≠ 0:=by
 obtain ⟨j,e1,e2,e3⟩:=a35 (fpos_c h)
 unfold lead Q8
 rw [e1]
 simpa using e3
theorem dd2 {k : C6} (h : ¬ M9 k.list) : k.lead ∈ k.list:=by
 obtain ⟨j,e1,e2,e3⟩:=a35 (fpos_c h)
 unfold lead Q8
 rw [e1,List.getD_eq_getElem?_getD,show ((0 + j : Nat) : Int).toNat = j by simp,List.getElem?_eq_getElem e2]
 exact List.getElem_mem _
theorem normal_poly {k : C6} (h : ¬ M9 k.list) (p : T3) : k.normal.poly p = 0 ↔ k.poly p = 0:=by
 unfold normal
 rw [cy4]
 exact ⟨fun e=>(Rat.mul_eq_zero.1 e).resolve_right (M3.inv_ne (lead_ne h)),fun e=>by rw [e,Rat.zero_mul]⟩
theorem normal_some {k : C6} {p : T3} (h : k.poly p ≠ 0) : ¬ M9 k.normal.list:=some_of (p:=p) fun e=>h ((normal_poly (some_of h) p).1 e)
def ci (k : C6) (B : Nat) : Prop:=∃ a b c f g h : Int,k = ⟨(a : Rat),(b : Rat),(c : Rat),(f : Rat),(g : Rat),(h : Rat)⟩ ∧ a.natAbs ≤ B ∧ b.natAbs ≤ B ∧ c.natAbs ≤ B ∧ f.natAbs ≤ B ∧ g.natAbs ≤ B ∧ h.natAbs ≤ B
theorem ci_list {k : C6} {B : Nat} (h : ci k B) : ∀ x ∈ k.list,∃ z : Int,x = (z : Rat) ∧ z.natAbs ≤ B:=by
 obtain ⟨a,b,c,f,g,h,rfl,h1,h2,h3,h4,h5,h6⟩:=h
 intro x hx
 simp only [list,List.mem_cons,List.not_mem_nil,or_false] at hx
 rcases hx with rfl | rfl | rfl | rfl | rfl | rfl
 ·exact ⟨_,rfl,h1⟩
 ·exact ⟨_,rfl,h2⟩
 ·exact ⟨_,rfl,h3⟩
 ·exact ⟨_,rfl,h4⟩
 ·exact ⟨_,rfl,h5⟩
 exact ⟨_,rfl,h6⟩
theorem cl_of {k : C6} {n : Nat} (h : ∀ x ∈ k.list,rl x n) : cl k n:=⟨h _ (by simp [list]),h _ (by simp [list]),h _ (by simp [list]),h _ (by simp [list]),h _ (by simp [list]),h _ (by simp [list])⟩
theorem dz6 {B : Nat} (hB : B < 1000000000000000000) {z : Int} (h : z.natAbs ≤ B) : zl z ≤ 2:=M7 (k:=2) (by show Int.natAbs _ < _; omega)
theorem ci_cl {k : C6} {B : Nat} (h : ci k B) (hB : B < 1000000000000000000) : cl k 2:=cl_of fun x hx=>by
 obtain ⟨z,rfl,hz⟩:=ci_list h x hx
 exact ⟨dz6 hB hz,Nat.le_trans (M7 (k:=1) (show 1 < 1000000000 ^ 1 by decide)) (by omega)⟩
theorem cl_normal {k : C6} {B : Nat} (h : ci k B) (hB : B < 1000000000000000000) (hn : ¬ M9 k.list) : cl k.normal 2:=by
 obtain ⟨l,el,hl⟩:=ci_list h _ (dd2 hn)
 refine cl_of fun x hx=>?_
 unfold normal at hx
 rw [cz6,List.mem_map] at hx
 obtain ⟨y,hy,rfl⟩:=hx
 obtain ⟨z,rfl,hz⟩:=ci_list h y hy
 rw [el]
 exact az6 (dz6 hB hz) (dz6 hB hl) (by decide)
theorem ci_prod {l m : T3} {B C : Nat} (hl : si l B) (hm : si m C) : ci (prod l m) (2 * (B * C)):=by
 obtain ⟨a,b,c,rfl,h1,h2,h3⟩:=hl
 obtain ⟨a',b',c',rfl,g1,g2,g3⟩:=hm
 have one : ∀ {x y : Int},x.natAbs ≤ B → y.natAbs ≤ C → (x * y).natAbs ≤ 2 * (B * C):=fun e1 e2=>by
  have:=W4 e1 e2
  omega
 have two : ∀ {x y z u : Int},x.natAbs ≤ B → y.natAbs ≤ C → z.natAbs ≤ B → u.natAbs ≤ C → (x * y + z * u).natAbs ≤ 2 * (B * C):=fun e1 e2 e3 e4=>by
  have q1:=W4 e1 e2
  have q2:=W4 e3 e4
  omega
 exact ⟨a * a',b * b',c * c',b * c' + c * b',c * a' + a * c',a * b' + b * a',by simp only [prod,Rat.intCast_add,Rat.intCast_mul],one h1 g1,one h2 g2,one h3 g3,two h2 g3 h3 g2,two h3 g1 h1 g3,two h1 g2 h2 g1⟩
theorem mi_mat {k : C6} {B : Nat} (h : ci k B) : mi k.mat (2 * B):=by
 obtain ⟨a,b,c,f,g,h,rfl,h1,h2,h3,h4,h5,h6⟩:=h
 exact ⟨⟨2 * a,h,g,by simp only [mat,Rat.intCast_mul]; rfl,by omega,by omega,by omega⟩,⟨h,2 * b,f,by simp only [mat,Rat.intCast_mul]; rfl,by omega,by omega,by omega⟩,⟨g,f,2 * c,by simp only [mat,Rat.intCast_mul]; rfl,by omega,by omega,by omega⟩⟩
theorem ci_val {k : C6} {p : T3} {B C : Nat} (h : ci k B) (hp : si p C) : ∃ z : Int,k.val p = (z : Rat) ∧ z.natAbs ≤ 3 * (3 * (2 * B * C) * C):=bw5 (bf7 (mi_mat h) hp) hp
theorem ci_comb {a b : C6} {x y : Rat} {B C : Nat} (ha : ci a B) (hb : ci b B) (hy : ∃ z : Int,y = (z : Rat) ∧ z.natAbs ≤ C) (hx : ∃ z : Int,x = (z : Rat) ∧ z.natAbs ≤ C) : ci (comb y a x b) (2 * (C * B)):=by
 obtain ⟨a1,a2,a3,a4,a5,a6,rfl,h1,h2,h3,h4,h5,h6⟩:=ha
 obtain ⟨b1,b2,b3,b4,b5,b6,rfl,g1,g2,g3,g4,g5,g6⟩:=hb
 obtain ⟨y,rfl,hy⟩:=hy
 obtain ⟨x,rfl,hx⟩:=hx
 have two : ∀ {u v : Int},u.natAbs ≤ B → v.natAbs ≤ B → (y * u + -(x * v)).natAbs ≤ 2 * (C * B):=fun e1 e2=>by
  have q1:=W4 hy e1
  have q2:=W4 hx e2
  omega
 exact ⟨_,_,_,_,_,_,by simp only [comb,← Rat.intCast_mul,← Rat.intCast_neg,← Rat.intCast_add],two h1 g1,two h2 g2,two h3 g3,two h4 g4,two h5 g5,two h6 g6⟩
end C6
theorem P5.ci_con {s : P5} (h0 : si s.p0 4) (h1 : si s.p1 4) (h2 : si s.p2 4) (h3 : si s.p3 4) (h4 : si s.p4 4) : C6.ci s.con 2415919104:=by
 have a : C6.ci s.ca 2048:=C6.ci_prod (a62 h0 h1) (a62 h2 h3)
 have b : C6.ci s.cb 2048:=C6.ci_prod (a62 h0 h2) (a62 h1 h3)
 exact C6.ci_comb (C:=589824) a b (C6.ci_val b h4) (C6.ci_val a h4)
theorem b78 {k : C6} {n : Nat} (h : cl k n) (hn : n ≤ 4) (hs : ¬ M9 k.list) : N2 k = 0:=by
 have hL : ¬ ak8 k.list:=by
  rintro ⟨x,hx,hl⟩
  exact b67 (av0 h x hx) hn hl
 unfold N2 at0
 rw [if_neg hs,if_neg hL]
theorem fb5 {s : P5} {P : T3 → Prop} (h0 : P s.p0) (h1 : P s.p1) (h2 : P s.p2) (h3 : P s.p3) (h4 : P s.p4) : ∀ t ∈ s.list,P t:=by
 intro t ht
 simp only [P5.list,List.mem_cons,List.not_mem_nil,or_false] at ht
 rcases ht with rfl | rfl | rfl | rfl | rfl
 ·exact h0
 ·exact h1
 ·exact h2
 ·exact h3
 exact h4
theorem dq1 {s : P5} (h : s.Fine) (z : ∀ p ∈ s.list,si p 4) : ¬ M9 s.con.list ∧ cl s.con 2 ∧ cl s.con.normal 2 ∧ N2 s.con.normal = 0 ∧ ∀ p ∈ s.list,s.con.normal.val p = 0:=by
 obtain ⟨q,hq⟩:=P5.con_some (P5.free_of h)
 have hc : C6.ci s.con 2415919104:=P5.ci_con (z _ (by simp [P5.list])) (z _ (by simp [P5.list])) (z _ (by simp [P5.list])) (z _ (by simp [P5.list])) (z _ (by simp [P5.list]))
 have hn : ¬ M9 s.con.list:=C6.some_of hq
 have hcl:=C6.cl_normal hc (by decide) hn
 have on : ∀ p ∈ s.list,s.con.poly p = 0:=fb5 (P5.on_0 s) (P5.on_1 s) (P5.on_2 s) (P5.on_3 s) (P5.on_4 s)
 exact ⟨hn,C6.ci_cl hc (by decide),hcl,b78 hcl (by decide) (C6.normal_some hq),fun p hp=>da7.2 ((C6.normal_poly hn p).2 (on p hp))⟩
theorem c43 {k : C6} {p q u v : T3} (hu : T3.Like u (k.mat.apply p)) (hv : T3.Like v (k.mat.apply q)) : q.dot u = 0 ↔ p.dot v = 0:=by
 rw [bj5 hu,bj5 hv,T3.dot_comm q,T3.dot_comm p]
 show k.bl p q = 0 ↔ k.bl q p = 0
 rw [C6.bl_comm]
theorem ba9 {k : C6} {p u : T3} (hu : T3.Like u (k.mat.apply p)) : p.dot u = 0 ↔ k.val p = 0:=by
 rw [bj5 hu,T3.dot_comm p]
 rfl
theorem ci1 {k : C6} {p : T3} (hd : k.mat.det ≠ 0) (hp : ¬ p.None) : ¬ (k.mat.apply p).None:=fun h=>hp ((M3.apply_none hd).1 h)
theorem cv2 {k : C6} {p u : T3} (hd : k.mat.det ≠ 0) (hp : ¬ p.None) (hu : T3.Like u (k.mat.apply p)) : (k.mat.adj.apply u).normal = p.normal:=by
 refine T3.normal_like ((M3.apply_like hu).trans ?_)
 rw [M3.adj_apply]
 exact T3.smul_like hd
noncomputable def bd2 (f : Nat → Int) : C6:=⟨((M5 (f 0) : Int) : Rat),((M5 (f 1) : Int) : Rat),((M5 (f 2) : Int) : Rat),((M5 (f 3) : Int) : Rat),((M5 (f 4) : Int) : Rat),((M5 (f 5) : Int) : Rat)⟩
open Classical in
noncomputable def N9 (f : Nat → Int) : C6:=if N2 (bd2 f) = 0 then bd2 f else { bd2 f with a:=1 }
theorem bw8 (f : Nat → Int) : C6.ci (bd2 f) 3:=by
 have h:=fun i=>b00 (f i)
 have h0:=h 0
 have h1:=h 1
 have h2:=h 2
 have h3:=h 3
 have h4:=h 4
 have h5:=h 5
 exact ⟨_,_,_,_,_,_,rfl,by omega,by omega,by omega,by omega,by omega,by omega⟩
theorem b48 (f : Nat → Int) : C6.ci (N9 f) 3:=by
 unfold N9
 split
 ·exact bw8 f
 obtain ⟨a,b,c,g,h,i,e,h1,h2,h3,h4,h5,h6⟩:=bw8 f
 exact ⟨1,b,c,g,h,i,by rw [e]; rfl,by decide,h2,h3,h4,h5,h6⟩
theorem cj5 {k : C6} {B : Nat} (h : C6.ci k B) (hB : B < 1000000000) : cl k 1:=C6.cl_of fun x hx=>by
 obtain ⟨z,rfl,hz⟩:=C6.ci_list h x hx
 have e : zl z ≤ 1:=M7 (k:=1) (by show Int.natAbs _ < _; omega)
 exact ⟨e,Nat.le_trans (M7 (k:=1) (show 1 < 1000000000 ^ 1 by decide)) (by omega)⟩
theorem c29 (f : Nat → Int) : N2 (N9 f) = 0:=by
 unfold N9
 split
 ·assumption
 rename_i h
 refine b78 (n:=1) (cj5 (B:=3) ?_ (by decide)) (by decide) fun g=>g ⟨1,by simp [C6.list],by decide⟩
 obtain ⟨a,b,c,g,h,i,e,h1,h2,h3,h4,h5,h6⟩:=bw8 f
 exact ⟨1,b,c,g,h,i,by rw [e]; rfl,by decide,h2,h3,h4,h5,h6⟩
theorem c88 (f : Nat → Int) : cl (N9 f) 1:=cj5 (b48 f) (by decide)
theorem at6 {S : Nat → Prop} {w : World} {v : Value} {k : C6} {n : Nat} (hS : Up S w) (h : ConV S w v k) (hl : cl k n) (hn : 40 * n + 80 ≤ 3000) :
  Gives prog 57 [v] w fun v' w'=>v' = .bool (tst (¬ k.mat.det = 0)) ∧ Ext w w':=by
 refine p7 (E:=env) (S0:=S) (G:=(H0 v (k))) (l:=[.one (.ag 18 v)]) func57 rfl rfl rfl ⟨h.ok,trivial⟩ rfl h ?_
 refine E9 (fun x0=>.one (.ag 27 x0)) (fun x0=>av6 x0 (k.mat)) (fun β S w hS hs hw hG=>(kx (a96 hS hG hl (by omega)))) ?_
 intro a
 refine E9 (fun x0=>.one (.ag 3 x0)) (fun x0=>b8 x0 (k.mat.det)) (fun β S w hS hs hw hG=>(kx (d36 hS hG.1 (U4 hl) (by omega)))) ?_
 intro d
 refine z7 (.one (.tp (k.mat.det = 0))) rfl (fun β S w hS hs hw hG=>(kx (E7 hS hG.1))) ?_
 exact p9 (.bool (tst (¬ k.mat.det = 0))) rfl (fun S w hs hw hG=>⟨rfl,hw⟩)
theorem cg1 {S : Nat → Prop} {w : World} {u : Value} {k : C6} {n : Nat} (ht : Tab w) (hS : Up S w) (o : u.oneCell' = true) (h : (Y4 u k).p S w) (hl : cl k n) (hn : 40 * n + 80 ≤ 3000) (e1 : N2 k = 0) :
  Gives prog 93 [u] w fun v' w'=>v' = .bool (tst (¬ k.mat.det = 0)) ∧ Ext w w':=by
 refine p7 (E:=env) (S0:=S) (G:=(Y4 u k)) (l:=[.one (.val u)]) func93 rfl rfl rfl ⟨o,trivial⟩ rfl h ?_
 refine n7 (p8 u 60 18 true (fun x0=>.one (.ag 18 x0)) (fun x0=>H0 x0 (k)) (fun β S w hM hw hG=>let ⟨y,e1,e2,e3⟩:=hG; ⟨S,y,e1,e2,e3⟩) ?_)
 intro x
 refine z7 (.und) rfl (fun β S w hS hs hw hG=>(kx (P9 (ht.to hw) hS hG.1 hl (by omega) e1))) ?_
 refine n7 (p8 u 60 18 true (fun x0=>.one (.ag 18 x0)) (fun x0=>H0 x0 (k)) (fun β S w hM hw hG=>let ⟨y,e1,e2,e3⟩:=hG.2; ⟨S,y,e1,e2,e3⟩) ?_)
 intro a
 refine z7 (.one (.tp (¬ k.mat.det = 0))) rfl (fun β S w hS hs hw hG=>(kx (at6 hS hG.1 hl hn))) ?_
 exact p9 (.bool (tst (¬ k.mat.det = 0))) rfl (fun S w hs hw hG=>⟨rfl,hw⟩)
theorem ca8 {S : Nat → Prop} {w : World} {u : Value} {k : C6} {n : Nat} (ht : Tab w) (hS : Up S w) (o : u.oneCell' = true) (h : (Y4 u k).p S w) (hl : cl k n) (hn : n ≤ 1000000) (e1 : ¬ N2 k = 0) :
  Pan prog 93 [u] w (J2 (N2 k)):=by
 refine J8 (E:=env) (S0:=S) (G:=(Y4 u k)) (l:=[.one (.val u)]) func93 rfl rfl rfl ⟨o,trivial⟩ rfl h ?_
 refine n7 (p8 u 60 18 true (fun x0=>.one (.ag 18 x0)) (fun x0=>H0 x0 (k)) (fun β S w hM hw hG=>let ⟨y,e1,e2,e3⟩:=hG; ⟨S,y,e1,e2,e3⟩) ?_)
 intro x
 exact av8 (fun β S w hS hs hw hG=>(kx (L5 (at5 (ht.to hw) hS hG.1 hl hn e1) hw)))
theorem cx6 {S : Nat → Prop} {w : World} {v : Value} {k : C6} {n : Nat} (ht : Tab w) (hS : Up S w) (h : ConV S w v k) (hl : cl k n) (hn : 40 * n + 80 ≤ 3000) :
  Gives prog 32 [v] w fun v' w'=>v' = .tuple #[.bool (tst (N2 k = 0 ∧ ¬ k.mat.det = 0)),.int .i64 (N2 k)] ∧ Ext w w':=by
 refine p7 (E:=env) (S0:=S) (G:=(H0 v (k))) (l:=[.one (.ag 18 v)]) func32 rfl rfl rfl ⟨h.ok,trivial⟩ rfl h ?_
 refine n7 (I0 0 60 ([.ag 18 v]) (fun u=>?_))
 refine z7 (pr (.tp (N2 k = 0 ∧ ¬ k.mat.det = 0)) (.int .i64 (N2 k))) rfl (fun β S w hS hs hw hG=>(kx (d56 93 [u] (p:=¬ k.mat.det = 0) (E:=N2 k) hS (fun e S' w' hS' k' _ hs'=>cg1 (ht.to (hw.trans k')) hS' (G7 hG.1) ((Y4 u k).at' (ae5 (F:=fun x=>H0 x k) hG.1 hG.2.lies hG.2) hs' k') hl hn e) (fun e S' w' hS' k' _ hs'=>ca8 (ht.to (hw.trans k')) hS' (G7 hG.1) ((Y4 u k).at' (ae5 (F:=fun x=>H0 x k) hG.1 hG.2.lies hG.2) hs' k') hl (by omega) e)))) ?_
 exact p9 (.tuple #[.bool (tst (N2 k = 0 ∧ ¬ k.mat.det = 0)),.int .i64 (N2 k)]) rfl (fun S w hs hw hG=>⟨rfl,hw⟩)
open Classical in
noncomputable def F2 (k : C6) (p : T3) : Int:=if cpE k p = 0 then (if (k.mat.apply p).None then 61 else 0) else cpE k p
theorem be0 {k : C6} {p : T3} (h : F2 k p = 0) : cpE k p = 0 ∧ ¬ (k.mat.apply p).None:=by
 unfold F2 at h
 split at h
 ·split at h
  ·omega
  exact ⟨‹_›,‹_›⟩
 exact absurd h ‹_›
theorem cw3 {S : Nat → Prop} {w : World} {u1 u2 : Value} {k : C6} {p : T3} {n m q : Nat} (ht : Tab w) (hS : Up S w) (o1 : u1.oneCell' = true) (o2 : u2.oneCell' = true) (h1 : (Y4 u1 k).p S w) (h2 : (A4 u2 p).p S w) (hl : cl k n) (hm : tl p m) (hnm : 12 * (n + m) + 40 ≤ 3000) (hq : tl (k.mat.apply p).normal q) (hq2 : q ≤ 3344) (e1 : N2 k = 0) (e2 : D5 p = 0) (e3 : ¬ (k.mat.apply p).None) :
  Gives prog 90 [u1,u2] w fun v' w'=>Ext w w' ∧ TripV S w' v' (k.mat.apply p).normal:=by
 refine p7 (E:=env) (S0:=S) (G:=((Y4 u1 k).and (A4 u2 p))) (l:=[.one (.val u1),.one (.val u2)]) func90 rfl rfl rfl ⟨o1,o2,trivial⟩ rfl ⟨h1,h2⟩ ?_
 refine n7 (p8 u1 60 18 true (fun x0=>.one (.ag 18 x0)) (fun x0=>H0 x0 (k)) (fun β S w hM hw hG=>let ⟨y,e1,e2,e3⟩:=hG.1; ⟨S,y,e1,e2,e3⟩) ?_)
 intro x
 refine z7 (.und) rfl (fun β S w hS hs hw hG=>(kx (P9 (ht.to hw) hS hG.1 hl (by omega) e1))) ?_
 refine n7 (p8 u2 55 9 true (fun x0=>.one (.ag 9 x0)) (fun x0=>j6 x0 (p)) (fun β S w hM hw hG=>let ⟨y,e1,e2,e3⟩:=hG.2.2; ⟨S,y,e1,e2,e3⟩) ?_)
 intro y
 refine ac5 (.und) rfl (fun β S w hS hM hs hw hG=>(kx (M2 (ht.to hw) (A8 hS) (H2 (l:=[p]) 1 55 [y] hM (by kernel_rfl) (ao5 hG.1) (show 1 ≤ maxLen by decide)) (bi3 (D4 hm)) (bi3 e2)))) ?_
 refine q6 5 ?_
 refine B8 (fun η=>u1) 60 18 true (fun x0=>.one (.ag 18 x0)) (fun x0=>H0 x0 (k)) ⟨b9,hS,j5⟩ (fun β η S w hM hw hG hd=>let ⟨y,e1,e2,e3⟩:=hG.2.2.1; ⟨S,y,e1,e2,e3⟩) ?_
 refine q9 (fun x0=>.one (.ag 27 x0)) (fun x0=>av6 x0 (k.mat)) (fun β η S w hS hs hw hG hd=>(kx (a96 hS (n9 hd 0 : (H0 (η 0) (k)).p S w) hl (by omega)))) ?_
 refine B8 (fun η=>u2) 55 9 true (fun x0=>.one (.ag 9 x0)) (fun x0=>j6 x0 (p)) ⟨b9,hS,j5⟩ (fun β η S w hM hw hG hd=>let ⟨y,e1,e2,e3⟩:=hG.2.2.2; ⟨S,y,e1,e2,e3⟩) ?_
 refine q9 (fun x0=>.one (.ag 9 x0)) (fun x0=>j6 x0 ((k.mat.apply p))) (fun β η S w hS hs hw hG hd=>(kx (al2 hS (n9 hd 1 : (av6 (η 1) (k.mat)).p S w) (n9 hd 2 : (j6 (η 2) (p)).p S w) (U4 hl) hm (by omega)))) ?_
 refine d9 1 ?_
 refine o6 [true,false,false,false] (Gh.nil) (by exact fun _ _ h=>trivial) (fun g η=>(j6 (η 3) ((k.mat.apply p))).and g) (fun g η=>(by kernel_rfl)) ?_
 intro η_1
 refine z7 (.one (.tp (k.mat.apply p).None)) rfl (fun β S w hS hs hw hG=>(kx (P8 hS hG.1))) ?_
 refine ai1 (p:=(k.mat.apply p).None) (e3) ?_
 refine E9 (fun x0=>.one (.ag 9 x0)) (fun x0=>j6 x0 ((k.mat.apply p).normal)) (fun β S w hS hs hw hG=>(kx (af1 hS hG.1 e3 (D4 (ad0 (U4 hl) hm)) (au2 hq hq2)))) ?_
 intro z
 exact p9 (z) rfl (fun S w hs hw hG=>⟨hw,hG.1.mono fun k _ hk=>hs k hk⟩)
theorem cs6 {S : Nat → Prop} {w : World} {u1 u2 : Value} {k : C6} {p : T3} {n m : Nat} (ht : Tab w) (hS : Up S w) (o1 : u1.oneCell' = true) (o2 : u2.oneCell' = true) (h1 : (Y4 u1 k).p S w) (h2 : (A4 u2 p).p S w) (hl : cl k n) (hm : tl p m) (hnm : 12 * (n + m) + 40 ≤ 3000) (e0 : ¬ F2 k p = 0) :
  Pan prog 90 [u1,u2] w (J2 (F2 k p)):=by
 refine J8 (E:=env) (S0:=S) (G:=((Y4 u1 k).and (A4 u2 p))) (l:=[.one (.val u1),.one (.val u2)]) func90 rfl rfl rfl ⟨o1,o2,trivial⟩ rfl ⟨h1,h2⟩ ?_
 refine n7 (p8 u1 60 18 true (fun x0=>.one (.ag 18 x0)) (fun x0=>H0 x0 (k)) (fun β S w hM hw hG=>let ⟨y,e1,e2,e3⟩:=hG.1; ⟨S,y,e1,e2,e3⟩) ?_)
 intro x
 by_cases e1 : N2 k = 0
 ·by_cases e2 : D5 p = 0
  ·have e3 : cpE k p = 0:=by unfold cpE; rw [if_pos e1,e2]
   have e4 : (k.mat.apply p).None:=Classical.byContradiction fun g=>e0 (by unfold F2; rw [if_pos e3,if_neg g])
   have e5 : F2 k p = 61:=by unfold F2; rw [if_pos e3,if_pos e4]
   rw [e5]
   refine z7 (.und) rfl (fun β S w hS hs hw hG=>(kx (P9 (ht.to hw) hS hG.1 hl (by omega) e1))) ?_
   refine n7 (p8 u2 55 9 true (fun x0=>.one (.ag 9 x0)) (fun x0=>j6 x0 (p)) (fun β S w hM hw hG=>let ⟨y,e1,e2,e3⟩:=hG.2.2; ⟨S,y,e1,e2,e3⟩) ?_)
   intro y
   refine ac5 (.und) rfl (fun β S w hS hM hs hw hG=>(kx (M2 (ht.to hw) (A8 hS) (H2 (l:=[p]) 1 55 [y] hM (by kernel_rfl) (ao5 hG.1) (show 1 ≤ maxLen by decide)) (bi3 (D4 hm)) (bi3 e2)))) ?_
   refine q6 5 ?_
   refine B8 (fun η=>u1) 60 18 true (fun x0=>.one (.ag 18 x0)) (fun x0=>H0 x0 (k)) ⟨b9,hS,j5⟩ (fun β η S w hM hw hG hd=>let ⟨y,e1,e2,e3⟩:=hG.2.2.1; ⟨S,y,e1,e2,e3⟩) ?_
   refine q9 (fun x0=>.one (.ag 27 x0)) (fun x0=>av6 x0 (k.mat)) (fun β η S w hS hs hw hG hd=>(kx (a96 hS (n9 hd 0 : (H0 (η 0) (k)).p S w) hl (by omega)))) ?_
   refine B8 (fun η=>u2) 55 9 true (fun x0=>.one (.ag 9 x0)) (fun x0=>j6 x0 (p)) ⟨b9,hS,j5⟩ (fun β η S w hM hw hG hd=>let ⟨y,e1,e2,e3⟩:=hG.2.2.2; ⟨S,y,e1,e2,e3⟩) ?_
   refine q9 (fun x0=>.one (.ag 9 x0)) (fun x0=>j6 x0 ((k.mat.apply p))) (fun β η S w hS hs hw hG hd=>(kx (al2 hS (n9 hd 1 : (av6 (η 1) (k.mat)).p S w) (n9 hd 2 : (j6 (η 2) (p)).p S w) (U4 hl) hm (by omega)))) ?_
   refine d9 1 ?_
   refine o6 [true,false,false,false] (Gh.nil) (by exact fun _ _ h=>trivial) (fun g η=>(j6 (η 3) ((k.mat.apply p))).and g) (fun g η=>(by kernel_rfl)) ?_
   intro η_1
   refine z7 (.one (.tp (k.mat.apply p).None)) rfl (fun β S w hS hs hw hG=>(kx (P8 hS hG.1))) ?_
   refine ad3 (p:=(k.mat.apply p).None) (e4) ?_
   exact av8 (fun β S w hS hs hw hG=>(kx (L5 (X4 (e:=61)) hw)))
  have e3 : cpE k p = D5 p:=by unfold cpE; rw [if_pos e1]
  have e4 : F2 k p = D5 p:=by unfold F2; rw [if_neg (by rw [e3]; exact e2),e3]
  rw [e4]
  refine z7 (.und) rfl (fun β S w hS hs hw hG=>(kx (P9 (ht.to hw) hS hG.1 hl (by omega) e1))) ?_
  refine n7 (p8 u2 55 9 true (fun x0=>.one (.ag 9 x0)) (fun x0=>j6 x0 (p)) (fun β S w hM hw hG=>let ⟨y,e1,e2,e3⟩:=hG.2.2; ⟨S,y,e1,e2,e3⟩) ?_)
  intro y
  exact bk3 ⟨b9,hS,j5⟩ (by kernel_rfl) (by kernel_rfl) (fun β S w hS hM hs hw hG=>(kx (L5 (am9 (ht.to hw) (A8 hS) (H2 (l:=[p]) 1 55 [y] hM (by kernel_rfl) (ao5 hG.1) (show 1 ≤ maxLen by decide)) (D4 hm) e2) hw)))
 have e3 : cpE k p = N2 k:=by unfold cpE; rw [if_neg e1]
 have e4 : F2 k p = N2 k:=by unfold F2; rw [if_neg (by rw [e3]; exact e1),e3]
 rw [e4]
 exact av8 (fun β S w hS hs hw hG=>(kx (L5 (at5 (ht.to hw) hS hG.1 hl (by omega) e1) hw)))
theorem b44 {S : Nat → Prop} {w : World} {v vp : Value} {k : C6} {p : T3} {n m q : Nat} (ht : Tab w) (hS : Up S w) (h : ConV S w v k) (hp : TripV S w vp p) (hl : cl k n) (hm : tl p m) (hnm : 12 * (n + m) + 40 ≤ 3000) (hq : tl (k.mat.apply p).normal q) (hq2 : q ≤ 3344) :
  Gives prog 30 [v,vp] w fun v' w'=>Ext w w' ∧ (J9 v' (if F2 k p = 0 then (k.mat.apply p).normal else ⟨0,0,0⟩) (F2 k p)).p S w':=by
 refine p7 (E:=env) (S0:=S) (G:=((H0 v (k)).and (j6 vp (p)))) (l:=[.one (.ag 18 v),.one (.ag 9 vp)]) func30 rfl rfl rfl ⟨h.ok,hp.ok,trivial⟩ rfl ⟨h,hp⟩ ?_
 refine n7 (I0 0 60 ([.ag 18 v]) (fun u1=>?_))
 refine n7 (I0 1 55 ([.ag 9 vp]) (fun u2=>?_))
 refine O3 (fun x0=>pr (.ag 9 (F4 x0)) (.int .i64 ((F2 k p)))) (fun x0=>J9 x0 ((if F2 k p = 0 then (k.mat.apply p).normal else ⟨0,0,0⟩)) ((F2 k p))) (fun _ _ _ h=>af8 h) (fun β S w hS hs hw hG=>have h:=hG.2.2.1; (kx (dk1 90 [u1,u2] (t:=(k.mat.apply p).normal) (E:=F2 k p) hS (fun e S' w' hS' k' _ hs'=>cw3 (ht.to (hw.trans k')) hS' (G7 hG.2.1) (G7 hG.1) ((Y4 u1 k).at' (ae5 (F:=fun x=>H0 x k) hG.2.1 h.lies h) hs' k') ((A4 u2 p).at' (N4 hG.1 hG.2.2.2) hs' k') hl hm hnm hq hq2 (a87 (be0 e).1).1 (a87 (be0 e).1).2 (be0 e).2) (fun e S' w' hS' k' _ hs'=>cs6 (ht.to (hw.trans k')) hS' (G7 hG.2.1) (G7 hG.1) ((Y4 u1 k).at' (ae5 (F:=fun x=>H0 x k) hG.2.1 h.lies h) hs' k') ((A4 u2 p).at' (N4 hG.1 hG.2.2.2) hs' k') hl hm hnm e)))) ?_
 intro r
 exact p9 (.tuple #[F4 r,.int .i64 (F2 k p)]) rfl (fun S w hs hw hG=>⟨hw,rfl,hG.1.2.mono fun k _ hk=>hs k hk⟩)
open Classical in
noncomputable def Y2 (k : C6) (p : T3) : Int:=if cpE k p = 0 then (if k.mat.det = 0 then 61 else 0) else cpE k p
theorem bg2 {k : C6} {p : T3} (h : Y2 k p = 0) : cpE k p = 0 ∧ ¬ k.mat.det = 0:=by
 unfold Y2 at h
 split at h
 ·split at h
  ·omega
  exact ⟨‹_›,‹_›⟩
 exact absurd h ‹_›
theorem dc8 {S : Nat → Prop} {w : World} {u1 u2 : Value} {k : C6} {p : T3} {n m q : Nat} (ht : Tab w) (hS : Up S w) (o1 : u1.oneCell' = true) (o2 : u2.oneCell' = true) (h1 : (Y4 u1 k).p S w) (h2 : (A4 u2 p).p S w) (hl : cl k n) (hm : tl p m) (hnm : 40 * n + 12 * m + 80 ≤ 3000) (hq : tl (k.mat.adj.apply p).normal q) (hq2 : q ≤ 3344) (e1 : N2 k = 0) (e2 : D5 p = 0) (e3 : ¬ k.mat.det = 0) :
  Gives prog 94 [u1,u2] w fun v' w'=>Ext w w' ∧ TripV S w' v' (k.mat.adj.apply p).normal:=by
 refine p7 (E:=env) (S0:=S) (G:=((Y4 u1 k).and (A4 u2 p))) (l:=[.one (.val u1),.one (.val u2)]) func94 rfl rfl rfl ⟨o1,o2,trivial⟩ rfl ⟨h1,h2⟩ ?_
 refine n7 (p8 u1 60 18 true (fun x0=>.one (.ag 18 x0)) (fun x0=>H0 x0 (k)) (fun β S w hM hw hG=>let ⟨y,e1,e2,e3⟩:=hG.1; ⟨S,y,e1,e2,e3⟩) ?_)
 intro x
 refine z7 (.und) rfl (fun β S w hS hs hw hG=>(kx (P9 (ht.to hw) hS hG.1 hl (by omega) e1))) ?_
 refine n7 (p8 u2 55 9 true (fun x0=>.one (.ag 9 x0)) (fun x0=>j6 x0 (p)) (fun β S w hM hw hG=>let ⟨y,e1,e2,e3⟩:=hG.2.2; ⟨S,y,e1,e2,e3⟩) ?_)
 intro y
 refine ac5 (.und) rfl (fun β S w hS hM hs hw hG=>(kx (M2 (ht.to hw) (A8 hS) (H2 (l:=[p]) 1 55 [y] hM (by kernel_rfl) (ao5 hG.1) (show 1 ≤ maxLen by decide)) (bi3 (D4 hm)) (bi3 e2)))) ?_
 refine n7 (p8 u1 60 18 true (fun x0=>.one (.ag 18 x0)) (fun x0=>H0 x0 (k)) (fun β S w hM hw hG=>let ⟨y,e1,e2,e3⟩:=hG.2.2.1; ⟨S,y,e1,e2,e3⟩) ?_)
 intro a0
 refine z7 (.one (.tp (¬ k.mat.det = 0))) rfl (fun β S w hS hs hw hG=>(kx (at6 hS hG.1 hl (by omega)))) ?_
 refine ai1 (p:=¬ ¬ k.mat.det = 0) (fun g=>g e3) ?_
 refine q6 4 ?_
 refine B8 (fun η=>u1) 60 18 true (fun x0=>.one (.ag 18 x0)) (fun x0=>H0 x0 (k)) ⟨b9,hS,j5⟩ (fun β η S w hM hw hG hd=>let ⟨y,e1,e2,e3⟩:=hG.2.2.2.1; ⟨S,y,e1,e2,e3⟩) ?_
 refine q9 (fun x0=>.one (.ag 27 x0)) (fun x0=>av6 x0 (k.mat)) (fun β η S w hS hs hw hG hd=>(kx (a96 hS (n9 hd 0 : (H0 (η 0) (k)).p S w) hl (by omega)))) ?_
 refine q9 (fun x0=>.one (.ag 27 x0)) (fun x0=>av6 x0 (k.mat.adj)) (fun β η S w hS hs hw hG hd=>(kx (do8 hS (n9 hd 1 : (av6 (η 1) (k.mat)).p S w) (U4 hl) (by omega)))) ?_
 refine B8 (fun η=>u2) 55 9 true (fun x0=>.one (.ag 9 x0)) (fun x0=>j6 x0 (p)) ⟨b9,hS,j5⟩ (fun β η S w hM hw hG hd=>let ⟨y,e1,e2,e3⟩:=hG.2.2.2.2; ⟨S,y,e1,e2,e3⟩) ?_
 refine o6 [true,true,false,false] (Gh.nil) (by exact fun _ _ h=>trivial) (fun g η=>(j6 (η 3) (p)).and ((av6 (η 2) (k.mat.adj)).and g)) (fun g η=>(by kernel_rfl)) ?_
 intro η_1
 refine E9 (fun x0=>.one (.ag 9 x0)) (fun x0=>j6 x0 ((k.mat.adj.apply p))) (fun β S w hS hs hw hG=>(kx (al2 hS hG.2.1 hG.1 (c50 (U4 hl)) hm (by omega)))) ?_
 intro r
 refine E9 (fun x0=>.one (.ag 9 x0)) (fun x0=>j6 x0 ((k.mat.adj.apply p).normal)) (fun β S w hS hs hw hG=>(kx (af1 hS hG.1 (ch3 (m:=k.mat.adj) (by rw [M3.det_adj]; exact Z6 e3 e3) e2) (D4 (ad0 (c50 (U4 hl)) hm)) (au2 hq hq2)))) ?_
 intro z
 exact p9 (z) rfl (fun S w hs hw hG=>⟨hw,hG.1.mono fun k _ hk=>hs k hk⟩)
theorem c07 {S : Nat → Prop} {w : World} {u1 u2 : Value} {k : C6} {p : T3} {n m : Nat} (ht : Tab w) (hS : Up S w) (o1 : u1.oneCell' = true) (o2 : u2.oneCell' = true) (h1 : (Y4 u1 k).p S w) (h2 : (A4 u2 p).p S w) (hl : cl k n) (hm : tl p m) (hnm : 40 * n + 12 * m + 80 ≤ 3000) (e0 : ¬ Y2 k p = 0) :
  Pan prog 94 [u1,u2] w (J2 (Y2 k p)):=by
 refine J8 (E:=env) (S0:=S) (G:=((Y4 u1 k).and (A4 u2 p))) (l:=[.one (.val u1),.one (.val u2)]) func94 rfl rfl rfl ⟨o1,o2,trivial⟩ rfl ⟨h1,h2⟩ ?_
 refine n7 (p8 u1 60 18 true (fun x0=>.one (.ag 18 x0)) (fun x0=>H0 x0 (k)) (fun β S w hM hw hG=>let ⟨y,e1,e2,e3⟩:=hG.1; ⟨S,y,e1,e2,e3⟩) ?_)
 intro x
 by_cases e1 : N2 k = 0
 ·by_cases e2 : D5 p = 0
  ·have e3 : cpE k p = 0:=by unfold cpE; rw [if_pos e1,e2]
   have e4 : k.mat.det = 0:=Classical.byContradiction fun g=>e0 (by unfold Y2; rw [if_pos e3,if_neg g])
   have e5 : Y2 k p = 61:=by unfold Y2; rw [if_pos e3,if_pos e4]
   rw [e5]
   refine z7 (.und) rfl (fun β S w hS hs hw hG=>(kx (P9 (ht.to hw) hS hG.1 hl (by omega) e1))) ?_
   refine n7 (p8 u2 55 9 true (fun x0=>.one (.ag 9 x0)) (fun x0=>j6 x0 (p)) (fun β S w hM hw hG=>let ⟨y,e1,e2,e3⟩:=hG.2.2; ⟨S,y,e1,e2,e3⟩) ?_)
   intro y
   refine ac5 (.und) rfl (fun β S w hS hM hs hw hG=>(kx (M2 (ht.to hw) (A8 hS) (H2 (l:=[p]) 1 55 [y] hM (by kernel_rfl) (ao5 hG.1) (show 1 ≤ maxLen by decide)) (bi3 (D4 hm)) (bi3 e2)))) ?_
   refine n7 (p8 u1 60 18 true (fun x0=>.one (.ag 18 x0)) (fun x0=>H0 x0 (k)) (fun β S w hM hw hG=>let ⟨y,e1,e2,e3⟩:=hG.2.2.1; ⟨S,y,e1,e2,e3⟩) ?_)
   intro a0
   refine z7 (.one (.tp (¬ k.mat.det = 0))) rfl (fun β S w hS hs hw hG=>(kx (at6 hS hG.1 hl (by omega)))) ?_
   refine ad3 (p:=¬ ¬ k.mat.det = 0) (fun g=>g e4) ?_
   exact av8 (fun β S w hS hs hw hG=>(kx (L5 (X4 (e:=61)) hw)))
  have e3 : cpE k p = D5 p:=by unfold cpE; rw [if_pos e1]
  have e4 : Y2 k p = D5 p:=by unfold Y2; rw [if_neg (by rw [e3]; exact e2),e3]
  rw [e4]
  refine z7 (.und) rfl (fun β S w hS hs hw hG=>(kx (P9 (ht.to hw) hS hG.1 hl (by omega) e1))) ?_
  refine n7 (p8 u2 55 9 true (fun x0=>.one (.ag 9 x0)) (fun x0=>j6 x0 (p)) (fun β S w hM hw hG=>let ⟨y,e1,e2,e3⟩:=hG.2.2; ⟨S,y,e1,e2,e3⟩) ?_)
  intro y
  exact bk3 ⟨b9,hS,j5⟩ (by kernel_rfl) (by kernel_rfl) (fun β S w hS hM hs hw hG=>(kx (L5 (am9 (ht.to hw) (A8 hS) (H2 (l:=[p]) 1 55 [y] hM (by kernel_rfl) (ao5 hG.1) (show 1 ≤ maxLen by decide)) (D4 hm) e2) hw)))
 have e3 : cpE k p = N2 k:=by unfold cpE; rw [if_neg e1]
 have e4 : Y2 k p = N2 k:=by unfold Y2; rw [if_neg (by rw [e3]; exact e1),e3]
 rw [e4]
 exact av8 (fun β S w hS hs hw hG=>(kx (L5 (at5 (ht.to hw) hS hG.1 hl (by omega) e1) hw)))
theorem dq3 {S : Nat → Prop} {w : World} {v vp : Value} {k : C6} {p : T3} {n m q : Nat} (ht : Tab w) (hS : Up S w) (h : ConV S w v k) (hp : TripV S w vp p) (hl : cl k n) (hm : tl p m) (hnm : 40 * n + 12 * m + 80 ≤ 3000) (hq : tl (k.mat.adj.apply p).normal q) (hq2 : q ≤ 3344) :
  Gives prog 33 [v,vp] w fun v' w'=>Ext w w' ∧ (J9 v' (if Y2 k p = 0 then (k.mat.adj.apply p).normal else ⟨0,0,0⟩) (Y2 k p)).p S w':=by
 refine p7 (E:=env) (S0:=S) (G:=((H0 v (k)).and (j6 vp (p)))) (l:=[.one (.ag 18 v),.one (.ag 9 vp)]) func33 rfl rfl rfl ⟨h.ok,hp.ok,trivial⟩ rfl ⟨h,hp⟩ ?_
 refine n7 (I0 0 60 ([.ag 18 v]) (fun u1=>?_))
 refine n7 (I0 1 55 ([.ag 9 vp]) (fun u2=>?_))
 refine O3 (fun x0=>pr (.ag 9 (F4 x0)) (.int .i64 ((Y2 k p)))) (fun x0=>J9 x0 ((if Y2 k p = 0 then (k.mat.adj.apply p).normal else ⟨0,0,0⟩)) ((Y2 k p))) (fun _ _ _ h=>af8 h) (fun β S w hS hs hw hG=>have h:=hG.2.2.1; (kx (dk1 94 [u1,u2] (t:=(k.mat.adj.apply p).normal) (E:=Y2 k p) hS (fun e S' w' hS' k' _ hs'=>dc8 (ht.to (hw.trans k')) hS' (G7 hG.2.1) (G7 hG.1) ((Y4 u1 k).at' (ae5 (F:=fun x=>H0 x k) hG.2.1 h.lies h) hs' k') ((A4 u2 p).at' (N4 hG.1 hG.2.2.2) hs' k') hl hm hnm hq hq2 (a87 (bg2 e).1).1 (a87 (bg2 e).1).2 (bg2 e).2) (fun e S' w' hS' k' _ hs'=>c07 (ht.to (hw.trans k')) hS' (G7 hG.2.1) (G7 hG.1) ((Y4 u1 k).at' (ae5 (F:=fun x=>H0 x k) hG.2.1 h.lies h) hs' k') ((A4 u2 p).at' (N4 hG.1 hG.2.2.2) hs' k') hl hm hnm e)))) ?_
 intro r
 exact p9 (.tuple #[F4 r,.int .i64 (Y2 k p)]) rfl (fun S w hs hw hG=>⟨hw,rfl,hG.1.2.mono fun k _ hk=>hs k hk⟩)
theorem ba8 (a : Nat → Int) : ¬ (M8 a).None:=by
 rintro ⟨h1,h2,h3⟩
 have z : ∀ {x : Int},(x : Rat) = 0 → x = 0:=fun h=>by exact_mod_cast h
 have h3':=z h3
 unfold as5 at h3'
 split at h3'
 ·cases h3'
 rename_i g
 exact g ⟨z h1,z h2,h3'⟩
theorem a18 {k : C6} {p : T3} (h : N2 k = 0) (g : D5 p = 0) : cpE k p = 0:=by unfold cpE; rw [if_pos h,g]
theorem a91 {p q : T3} (h : D5 p = 0) (g : D5 q = 0) : X6 p q = 0:=by unfold X6; rw [if_pos h,g]
structure PolD (k : C6) (P Q : T3) : Prop where
 lk : cl k 1
 ck : N2 k = 0
 tP : tl P 1
 tQ : tl Q 1
 bP : D5 P = 0
 tU : tl (k.mat.apply P).normal 1
 tV : tl (k.mat.apply Q).normal 1
 tn : tl P.normal 1
 bU : F2 k P = 0 → D5 (k.mat.apply P).normal = 0
 o1 : F2 k P = 0 → X6 Q (k.mat.apply P).normal = 0
 o2 : F2 k Q = 0 → X6 P (k.mat.apply Q).normal = 0
 o3 : F2 k P = 0 → X6 P (k.mat.apply P).normal = 0
 pp : F2 k P = 0 → F2 k Q = 0 → (OnP Q (k.mat.apply P).normal ↔ OnP P (k.mat.apply Q).normal)
 s1 : ¬ k.mat.det = 0 → F2 k P = 0
 s2 : ¬ k.mat.det = 0 → Y2 k (k.mat.apply P).normal = 0
 s3 : ¬ k.mat.det = 0 → (k.mat.adj.apply (k.mat.apply P).normal).normal = P.normal
 s4 : F2 k P = 0 → (OnP P (k.mat.apply P).normal ↔ k.val P = 0)
 s5 : ¬ k.mat.det = 0 → k.val P = 0 → a50 k P (l8 (k.mat.apply P).normal P) = P.normal ∧ P.dot (k.mat.apply P).normal = 0
theorem a98 {k : C6} {p : T3} (h : F2 k p = 0) : ¬ (k.mat.apply p).None:=(be0 h).2
theorem d46 {k : C6} {p : T3} (h : cpE k p = 0) (g : ¬ (k.mat.apply p).None) : F2 k p = 0:=by unfold F2; rw [if_pos h,if_neg g]
theorem di9 {f a b : Nat → Int} : PolD (N9 f) (M8 a) (M8 b):=by
 have lk:=c88 f
 have ck:=c29 f
 have sP:=a38 a
 have sQ:=a38 b
 have nP:=ba8 a
 have bP:=ch2 sP (by decide) nP
 have bQ:=ch2 sQ (by decide) (ba8 b)
 have mk:=C6.mi_mat (b48 f)
 have tU:=bu3 (bf7 mk sP).sm (by decide)
 have tV:=bu3 (bf7 mk sQ).sm (by decide)
 have lU : ∀ {p : T3},F2 (N9 f) p = 0 → T3.Like ((N9 f).mat.apply p).normal ((N9 f).mat.apply p):=fun e=>T3.like_normal (a98 e)
 have bU : F2 (N9 f) (M8 a) = 0 → D5 ((N9 f).mat.apply (M8 a)).normal = 0:=fun e=>ai6 tU (by decide) fun g=>a98 e (T3.normal_none.1 g)
 have bV : F2 (N9 f) (M8 b) = 0 → D5 ((N9 f).mat.apply (M8 b)).normal = 0:=fun e=>ai6 tV (by decide) fun g=>a98 e (T3.normal_none.1 g)
 have s1 : ¬ (N9 f).mat.det = 0 → F2 (N9 f) (M8 a) = 0:=fun d=>d46 (a18 ck bP) (ci1 d nP)
 exact {
  lk:=lk
  ck:=ck
  tP:=sP.tl (by decide)
  tQ:=sQ.tl (by decide)
  bP:=bP
  tU:=tU
  tV:=tV
  tn:=bu3 sP.sm (by decide)
  bU:=bU
  o1:=fun e=>a91 bQ (bU e)
  o2:=fun e=>a91 bP (bV e)
  o3:=fun e=>a91 bP (bU e)
  pp:=fun e1 e2=>⟨fun h=>⟨a91 bP (bV e2),(c43 (lU e1) (lU e2)).1 h.2⟩,fun h=>⟨a91 bQ (bU e1),(c43 (lU e1) (lU e2)).2 h.2⟩⟩
  s1:=s1
  s2:=fun d=>by unfold Y2; rw [if_pos (a18 ck (bU (s1 d))),if_neg d]
  s3:=fun d=>cv2 d nP (lU (s1 d))
  s4:=fun e=>⟨fun h=>(ba9 (lU e)).1 h.2,fun h=>⟨a91 bP (bU e),(ba9 (lU e)).2 h⟩⟩
  s5:=fun d h0=>⟨bx7 d nP (lU (s1 d)) h0,(ba9 (lU (s1 d))).2 h0⟩ }
theorem dd0 {s : P5} {g : Nat → Nat → Int} (h : s.list = [M8 (g 0),M8 (g 1),M8 (g 2),M8 (g 3),M8 (g 4)]) : (∀ t ∈ s.list,tl t 1 ∧ D5 t = 0) ∧ (s.Fine → ¬ M9 s.con.list ∧ cl s.con.normal 2 ∧ N2 s.con.normal = 0 ∧ ∀ t ∈ s.list,s.con.normal.val t = 0):=by
 have a : ∀ t ∈ s.list,∃ f,t = M8 f:=by
  intro t ht
  rw [h] at ht
  simp only [List.mem_cons,List.not_mem_nil,or_false] at ht
  rcases ht with rfl | rfl | rfl | rfl | rfl <;> exact ⟨_,rfl⟩
 refine ⟨fun t ht=>?_,fun F=>?_⟩
 ·obtain ⟨f,rfl⟩:=a t ht
  exact ⟨(a38 f).tl (by decide),ch2 (a38 f) (by decide) (ba8 f)⟩
 have z:=dq1 F fun t ht=>by
  obtain ⟨f,rfl⟩:=a t ht
  exact a38 f
 exact ⟨z.1,z.2.2.1,z.2.2.2.1,z.2.2.2.2⟩
theorem db8 {S : Nat → Prop} {w : World} {v : Value} {k : C6} {n : Nat} (hS : Up S w) (h : QConV S w v k) (hl : cl k n) (hn : n ≤ 700) :
  Gives prog 17 [v] w fun v' w'=>Ext w w' ∧ ConV S w' v' k:=by
 obtain ⟨c1,c2,c3,c4,c5,c6,rfl,hk⟩:=h
 refine p7 (E:=env) (S0:=S) (G:=(c93 k c1 c2 c3 c4 c5 c6)) (l:=[.agg [.ag 4 c1,.ag 4 c2,.ag 4 c3,.ag 4 c4,.ag 4 c5,.ag 4 c6]]) func17 rfl rfl rfl ⟨hk.ok _,trivial⟩ rfl hk ?_
 refine s7 ?_
 refine E9 (fun x0=>.one (.ag 3 x0)) (fun x0=>b8 x0 (k.a)) (fun β S w hS hs hw hG=>(kx (ao6 hS hG.c1 hl.1 hn))) ?_
 intro x0
 refine s7 ?_
 refine E9 (fun x0=>.one (.ag 3 x0)) (fun x0=>b8 x0 (k.b)) (fun β S w hS hs hw hG=>(kx (ao6 hS hG.2.c2 hl.2.1 hn))) ?_
 intro x1
 refine s7 ?_
 refine E9 (fun x0=>.one (.ag 3 x0)) (fun x0=>b8 x0 (k.c)) (fun β S w hS hs hw hG=>(kx (ao6 hS hG.2.2.c3 hl.2.2.1 hn))) ?_
 intro x2
 refine s7 ?_
 refine E9 (fun x0=>.one (.ag 3 x0)) (fun x0=>b8 x0 (k.f)) (fun β S w hS hs hw hG=>(kx (ao6 hS hG.2.2.2.c4 hl.2.2.2.1 hn))) ?_
 intro x3
 refine s7 ?_
 refine E9 (fun x0=>.one (.ag 3 x0)) (fun x0=>b8 x0 (k.g)) (fun β S w hS hs hw hG=>(kx (ao6 hS hG.2.2.2.2.c5 hl.2.2.2.2.1 hn))) ?_
 intro x4
 refine s7 ?_
 refine E9 (fun x0=>.one (.ag 3 x0)) (fun x0=>b8 x0 (k.h)) (fun β S w hS hs hw hG=>(kx (ao6 hS hG.2.2.2.2.2.c6 hl.2.2.2.2.2 hn))) ?_
 intro x5
 refine s7 ?_
 exact p9 (ci6 x0 x1 x2 x3 x4 x5) rfl (fun S w hs hw hG=>have hk:=hG.2.2.2.2.2.2; ⟨hw,(ConC.mono (k:=k) ⟨hG.2.2.2.2.2.1,hG.2.2.2.2.1,hG.2.2.2.1,hG.2.2.1,hG.2.1,hG.1⟩ fun k _ hk=>hs k hk).con⟩)
theorem cg7 {S : Nat → Prop} {w : World} {u : Value} {p : T3} {m : Nat} (ht : Tab w) (hS : Up S w) (o : u.oneCell' = true) (h : (A4 u p).p S w) (hm : tl p m) (hmm : m ≤ 1000000) (hp0 : ¬ D5 p = 0) : Pan prog 96 [u] w (J2 (D5 p)):=by
 refine J8 (E:=env) (S0:=S) (G:=(A4 u p)) (l:=[.one (.val u)]) func96 rfl rfl rfl ⟨o,trivial⟩ rfl h ?_
 refine n7 (p8 u 55 9 true (fun x0=>.one (.ag 9 x0)) (fun x0=>j6 x0 (p)) (fun β S w hM hw hG=>let ⟨y,e1,e2,e3⟩:=hG; ⟨S,y,e1,e2,e3⟩) ?_)
 intro x
 exact bk3 ⟨b9,hS,j5⟩ (by kernel_rfl) (by kernel_rfl) (fun β S w hS hM hs hw hG=>(kx (L5 (am9 (ht.to hw) (A8 hS) (H2 (l:=[p]) 1 55 [x] hM (by kernel_rfl) (ao5 hG.1) (show 1 ≤ maxLen by decide)) (cp1 hm hmm) hp0) hw)))
theorem bh8 {p : T3} (h : D5 p = 0) : ¬ p.None:=fun g=>(bm0 h).1 (a99.2 g)
theorem ct4 {S : Nat → Prop} {w : World} {vp : Value} {p : T3} {m k : Nat} (ht : Tab w) (hS : Up S w) (hp : TripV S w vp p) (hm : tl p m) (hmm : m ≤ 1000000) (hk : tl p.normal k) (hk2 : k ≤ 3344) :
  Gives prog 34 [vp] w fun v' w'=>Ext w w' ∧ (J9 v' (if D5 p = 0 then p.normal else ⟨0,0,0⟩) (D5 p)).p S w':=by
 refine p7 (E:=env) (S0:=S) (G:=(j6 vp (p))) (l:=[.one (.ag 9 vp)]) func34 rfl rfl rfl ⟨hp.ok,trivial⟩ rfl hp ?_
 refine n7 (I0 0 55 ([.ag 9 vp]) (fun u=>?_))
 refine O3 (fun x0=>pr (.ag 9 (F4 x0)) (.int .i64 ((D5 p)))) (fun x0=>J9 x0 ((if D5 p = 0 then p.normal else ⟨0,0,0⟩)) ((D5 p))) (fun _ _ _ h=>af8 h) (fun β S w hS hs hw hG=>(kx (dk1 96 [u] (t:=p.normal) (E:=D5 p) hS (fun e S' w' hS' k' _ hs'=>cf4 (ht.to (hw.trans k')) hS' (G7 hG.1) ((A4 u p).at' (N4 hG.1 hG.2) hs' k') hm hmm hk hk2 e (bh8 e)) (fun e S' w' hS' k' _ hs'=>cg7 (ht.to (hw.trans k')) hS' (G7 hG.1) ((A4 u p).at' (N4 hG.1 hG.2) hs' k') hm hmm e)))) ?_
 intro r
 exact p9 (.tuple #[F4 r,.int .i64 (D5 p)]) rfl (fun S w hs hw hG=>⟨hw,rfl,hG.1.2.mono fun k _ hk=>hs k hk⟩)
section
variable {c : Cx} {st : St} {G : Gh} {all : List Oper} {K : List HRec → Prop} {acc : List HRec} {ops : List Oper}
def d59 (c : Cx) (st : St) (acc : List HRec) (ops : List Oper) (η : Nat → Value) : Option (Value × Nat × Int × Nat):=match (opH ops).op with
 | .indexAddr T x ix=>match opd (frH st acc η) x,opd (frH st acc η) ix,F3 c.E T with
  | some (.one (.val v)),some (.one (.int _ z)),.array n e=>(c.E.get e).map fun te=>(v,n,z,te.size)
  | _,_,_=>none
 | _=>none
theorem bv8 (u : Value) (n : Nat) (i : Int) (sz : Nat) (hc : c.Ok) (hok : ∀ η,ap1 all st acc ops η = true) (hq : ∀ η,d59 c st acc ops η = some (u,n,i,sz)) (h0 : 0 ≤ i) (h1 : i < n)
  (h : ∀ β η S w,Mem c.bs st.hp β w → Keeps c.K c.w0 w → G.p S w → depsH acc (opH ops).after.toList η S w → ∃ b k,u = .pointer (some ⟨b,k,none⟩))
  (k : Hd c st G all K (.spec ((opH ops).dst.getD 0) (fun x=>.one (.val x)) (fun x=>A7 (x = o8 u (i.toNat * sz))) :: acc) (ops.drop 1)) : Hd c st G all K acc ops:=by
 refine a69 (fun x=>.one (.val x)) (fun x=>A7 (x = o8 u (i.toNat * sz))) hok (fun β η S w F m ty hkn hup hM hS hw hG hd=>?_) k
 have hq:=hq η
 unfold d59 at hq
 split at hq <;> first | (cases hq; done) | skip
 rename_i T x ix hop
 split at hq <;> first | (cases hq; done) | skip
 rename_i v kd z n' e hx hix hk
 cases hte : c.E.get e with
 | none=>rw [hte] at hq; cases hq
 | some te=>
  rw [hte] at hq
  simp only [Option.map_some,Option.some.injEq,Prod.mk.injEq] at hq
  obtain ⟨rfl,rfl,rfl,rfl⟩:=hq
  have hkd:=E8 (t:=T) hc.env
  rw [hk] at hkd
  have hkd' : c.P.underlying T = some (.array n' e):=hkd
  obtain ⟨zz,hty,_⟩:=(hc.env.get hte).ty
  obtain ⟨b,k',hu⟩:=h β η S w hM hw hG hd
  rw [hop] at hkn ⊢
  have g1 : ev F x = .pointer (some ⟨b,k',none⟩):=by rw [(hkn x (by simp [Op.operands]) _ hx).1]; exact hu
  have g2:=(hkn ix (by simp [Op.operands]) _ hix).1
  refine ⟨o8 v (z.toNat * te.size),?_,rfl,an4 _ _,rfl⟩
  rw [hu]
  intro d pos aft g
  simp [execOp,g1,g2,SV.den,Ch.den,Instr.indexAt,asIntOf,run_underlying hkd',Instr.sureAddr,h0,h1,hty.runSize w,Z8,o8]
end
section
variable {c : Cx} {o : Out} {G : Gh}
def d85 (E : Env) (o : Out) : Option (Value × Nat × Int × Nat):=match bu8 o with
 | some (_,.index T x ix)=>match opd o.st.fr x,opd o.st.fr ix,F3 E T with
  | some (.one (.ag _ v)),some (.one (.int _ z)),.array n e=>(E.get e).bind fun te=>bif te.agg then some (v,n,z,te.size) else none
  | _,_,_=>none
 | _=>none
theorem d68 [Rd] (v : Value) (n : Nat) (i : Int) (sz : Nat) (Δ : Value → Gh) (hq : d85 c.E o = some (v,n,i,sz)) (hc : c.Ok) (h0 : 0 ≤ i) (h1 : i < n)
  (hok : ∀ a S w,(Δ a).p S w → (SV.one (.ag sz a)).Ok 0) (h : ∀ S w,Keeps c.K c.w0 w → G.p S w → (∃ a,v = .agg a) ∧ (Δ (cel v (i.toNat * sz) sz)).p S w)
  (hn : ∀ a,Run c (ah1 o (.one (.ag sz a)) o.st.hp) ((Δ a).and G)) : Run c o G:=by
 unfold d85 at hq
 split at hq <;> first | (cases hq; done) | skip
 rename_i d T x ix hop
 split at hq <;> first | (cases hq; done) | skip
 rename_i ng v' kd z n' e hx hix hk
 cases hte : c.E.get e with
 | none=>rw [hte] at hq; cases hq
 | some te=>
  rw [hte] at hq
  simp only [Option.bind_some] at hq
  cases hag : te.agg with
  | false=>rw [hag] at hq; cases hq
  | true=>
   rw [hag] at hq
   simp only [cond_true,Option.some.injEq,Prod.mk.injEq] at hq
   obtain ⟨rfl,rfl,rfl,rfl⟩:=hq
   have hkd:=E8 (t:=T) hc.env
   rw [hk] at hkd
   have hkd' : c.P.underlying T = some (.array n' e):=hkd
   obtain ⟨zz,hty,_⟩:=(hc.env.get hte).ty
   refine bj8 (fun a=>.one (.ag te.size a)) Δ hop (fun β S w F ty hkn hM hup hS hw hG=>?_) hc hn
   obtain ⟨⟨a,ha⟩,h3⟩:=h S w hw hG
   have h4:=hok _ S w h3
   have g1 : ev F x = v':=(hkn x (by simp [Op.operands]) _ hx).1
   have g2:=(hkn ix (by simp [Op.operands]) _ hix).1
   refine ⟨cel v' (z.toNat * te.size) te.size,w,.refl,h4.le (Nat.zero_le _),h3,?_,rfl⟩
   obtain ⟨i,hi,hi2,_⟩:=hty.ex
   have hg:=hty.aggp
   rw [hag] at hg
   intro d pos aft g
   have e7 : a.extract (z.toNat * te.size) (z.toNat * te.size + te.size) = ((a.toList.drop (z.toNat * te.size)).take te.size).toArray:=by
    apply Array.toList_inj.1
    simp [List.extract_eq_take_drop]
   simp [execOp,g1,g2,ha,SV.den,Ch.den,Instr.index,asIntOf,run_underlying hkd',h0,h1,hty.runSize w,part,bw0 hg,Result.andThen,b06 hi,hi2,e7,cel,Value.cells]
end
def TrAP (S : Nat → Prop) (w : World) (u : Value) (l : List T3) : Prop:=∃ vs,At S w u (H7 vs) ∧ ElsV true 9 ad5 S w vs l
abbrev ap9 (u : Value) (l : List T3) : Gh:=⟨fun S w=>TrAP S w u l,fun ⟨vs,h1,h2⟩ k=>⟨vs,h1.keep k,(a67 true 9 ad5 vs l).keep h2 k⟩,fun ⟨vs,h1,h2⟩ k=>⟨vs,h1.mono k,(a67 true 9 ad5 vs l).mono h2 k⟩⟩
def TrAV (n : Nat) (S : Nat → Prop) (w : World) (v : Value) (l : List T3) : Prop:=(SV.one (.ag n v)).Ok 0 ∧ ∃ vs,v.cells.toList = H7 vs ∧ ElsV true 9 ad5 S w vs l
abbrev cu0 (n : Nat) (v : Value) (l : List T3) : Gh:=⟨fun S w=>TrAV n S w v l,fun ⟨o,vs,h1,h2⟩ k=>⟨o,vs,h1,(a67 true 9 ad5 vs l).keep h2 k⟩,fun ⟨o,vs,h1,h2⟩ k=>⟨o,vs,h1,(a67 true 9 ad5 vs l).mono h2 k⟩⟩
section
variable {S : Nat → Prop} {w : World} {u v : Value} {l : List T3} {n : Nat}
theorem TrAP.ptr (h : TrAP S w u l) : ∃ b k,u = .pointer (some ⟨b,k,none⟩):=by
 obtain ⟨vs,⟨b,o,_,_,_,h1,_⟩,_⟩:=h
 exact ⟨b,o,h1⟩
theorem TrAP.el (h : TrAP S w u l) {i : Nat} {t : T3} {p : Value} (hi : l[i]? = some t) (hp : p = o8 u (i * 9)) : ∃ S' x,U2 true 9 x ∧ At S' w p x.cells.toList ∧ (j6 x t).p S w:=by
 subst hp
 obtain ⟨vs,h1,h2⟩:=h
 have hl : i < vs.length:=by rw [h2.len]; exact (List.getElem?_eq_some_iff.1 hi).1
 have hx : vs[i]? = some vs[i]:=List.getElem?_eq_getElem hl
 exact ⟨S,vs[i],h2.lies _ (List.getElem_mem _),h1.part h2.lies hx,h2.el i t _ hi hx⟩
theorem TrAP.seq (h : TrAP S w u l) (hn : l.length = n) (hm : n ≤ maxLen) : ∃ b k,u = .pointer (some ⟨b,k,none⟩) ∧ (ap3 (.slice (some ⟨b,k,none⟩) n n) l).p S w:=by
 subst hn
 obtain ⟨vs,h1,h2⟩:=h
 exact dx0 h2 h1 hm
theorem TrAV.ok (h : TrAV n S w v l) : (SV.one (.ag n v)).Ok 0:=h.1
theorem TrAV.agg (h : TrAV n S w v l) : ∃ a,v = .agg a:=let ⟨us,h1,_⟩:=h.1; ⟨_,h1⟩
theorem TrAV.at_ (h : TrAV n S w v l) {i : Nat} {t : T3} (hi : l[i]? = some t) : (j6 (cel v (i * 9) 9) t).p S w:=by
 obtain ⟨_,vs,h1,h2⟩:=h
 have hl : i < vs.length:=by rw [h2.len]; exact (List.getElem?_eq_some_iff.1 hi).1
 have hx : vs[i]? = some vs[i]:=List.getElem?_eq_getElem hl
 rw [ak3 (g:=true) h1 h2.lies hx]
 exact h2.el i t _ hi hx
theorem dl6 {vs : List Value} (h : ElsV true 9 ad5 S w vs l) : ∀ u ∈ H7 vs,u.oneCell' = true:=by
 intro u hu
 obtain ⟨x,hx,hu⟩:=List.mem_flatMap.1 hu
 obtain ⟨i,hi,rfl⟩:=List.getElem_of_mem hx
 have hl : i < l.length:=by rw [← h.len]; exact hi
 obtain ⟨cs,h1,h2,h3⟩:=TripV.ok (h.el i _ _ (List.getElem?_eq_getElem hl) (List.getElem?_eq_getElem hi))
 rw [h1] at hu
 exact h3 u (by simpa [Value.cells] using hu)
theorem TrAP.whole (h : TrAP S w u l) (hn : l.length * 9 = n) : ∃ S' x,U2 true n x ∧ At S' w u x.cells.toList ∧ (cu0 n x l).p S w:=by
 obtain ⟨vs,h1,h2⟩:=h
 have hc:=ac1 h2.lies
 have hlen : (H7 vs).length = n:=by rw [hc,h2.len,hn]
 refine ⟨S,.agg (H7 vs).toArray,?_,by simpa [Value.cells] using h1,?_⟩
 ·have:=a44 (H7 vs)
  rwa [hlen] at this
 exact ⟨⟨H7 vs,rfl,hlen,dl6 h2⟩,vs,by simp [Value.cells],h2⟩
theorem c76 {T : TypeId} (h : (ca3 u T (d8 (fun _=>0) [.ag n v])).p S w) (hv : TrAV n S w v l) : TrAP S w u l:=by
 obtain ⟨b,rfl,hs,hB⟩:=h
 rw [U6] at hB
 obtain ⟨_,vs,e1,e2⟩:=hv
 refine ⟨vs,?_,e2⟩
 rw [← e1]
 exact ⟨b,0,v.cells.toList.toArray,T,(0,0),rfl,hs,hB,by simp,by rw [List.drop_zero]; exact List.take_of_length_le (Nat.le_refl _)⟩
end
theorem da0 {S : Nat → Prop} {w : World} {f : Nat → Int} (hS : Up S w) :
  Gives prog 25 [.agg #[.int .i64 (f 0),.int .i64 (f 1),.int .i64 (f 2),.int .i64 (f 3),.int .i64 (f 4),.int .i64 (f 5)]] w fun v' w'=>Ext w w' ∧ QConV S w' v' (N9 f):=by
 have hi : ∀ i,I63 (M5 (f i)):=fun i=>dj6 (by have:=b00 (f i); omega)
 have hc : cl (bd2 f) 1:=cj5 (bw8 f) (by decide)
 refine p7 (E:=env) (S0:=S) (G:=Gh.nil) (l:=[.agg [.int .i64 (f 0),.int .i64 (f 1),.int .i64 (f 2),.int .i64 (f 3),.int .i64 (f 4),.int .i64 (f 5)]]) func25 rfl rfl rfl ⟨cc7,trivial⟩ rfl trivial ?_
 refine s7 ?_
 refine z7 (.one (.int .i64 (M5 (f 0)))) rfl (fun β S w hS hs hw hG=>(kx (af3 hS))) ?_
 refine E9 (fun x0=>.one (.ag 4 x0)) (fun x0=>qG x0 (((M5 (f 0) : Int) : Rat))) (fun β S w hS hs hw hG=>(kx (ad8 hS (hi 0).1 (hi 0).2))) ?_
 intro x0
 refine s7 ?_
 refine z7 (.one (.int .i64 (M5 (f 1)))) rfl (fun β S w hS hs hw hG=>(kx (af3 hS))) ?_
 refine E9 (fun x0=>.one (.ag 4 x0)) (fun x0=>qG x0 (((M5 (f 1) : Int) : Rat))) (fun β S w hS hs hw hG=>(kx (ad8 hS (hi 1).1 (hi 1).2))) ?_
 intro x1
 refine s7 ?_
 refine z7 (.one (.int .i64 (M5 (f 2)))) rfl (fun β S w hS hs hw hG=>(kx (af3 hS))) ?_
 refine E9 (fun x0=>.one (.ag 4 x0)) (fun x0=>qG x0 (((M5 (f 2) : Int) : Rat))) (fun β S w hS hs hw hG=>(kx (ad8 hS (hi 2).1 (hi 2).2))) ?_
 intro x2
 refine s7 ?_
 refine z7 (.one (.int .i64 (M5 (f 3)))) rfl (fun β S w hS hs hw hG=>(kx (af3 hS))) ?_
 refine E9 (fun x0=>.one (.ag 4 x0)) (fun x0=>qG x0 (((M5 (f 3) : Int) : Rat))) (fun β S w hS hs hw hG=>(kx (ad8 hS (hi 3).1 (hi 3).2))) ?_
 intro x3
 refine s7 ?_
 refine z7 (.one (.int .i64 (M5 (f 4)))) rfl (fun β S w hS hs hw hG=>(kx (af3 hS))) ?_
 refine E9 (fun x0=>.one (.ag 4 x0)) (fun x0=>qG x0 (((M5 (f 4) : Int) : Rat))) (fun β S w hS hs hw hG=>(kx (ad8 hS (hi 4).1 (hi 4).2))) ?_
 intro x4
 refine s7 ?_
 refine z7 (.one (.int .i64 (M5 (f 5)))) rfl (fun β S w hS hs hw hG=>(kx (af3 hS))) ?_
 refine E9 (fun x0=>.one (.ag 4 x0)) (fun x0=>qG x0 (((M5 (f 5) : Int) : Rat))) (fun β S w hS hs hw hG=>(kx (ad8 hS (hi 5).1 (hi 5).2))) ?_
 intro x5
 refine s7 ?_
 refine z7 (.one (.int .i64 (N2 (bd2 f)))) rfl (fun β S w hS hs hw hG=>(kx (bn7 (k:=bd2 f) hS ⟨_,_,_,_,_,_,rfl,⟨hG.2.2.2.2.2.1,hG.2.2.2.2.1,hG.2.2.2.1,hG.2.2.1,hG.2.1,hG.1⟩⟩ hc (by decide)))) ?_
 refine R8 (p:=¬ N2 (bd2 f) = 0) (fun e=>?_) (fun e=>?_)
 ·refine E9 (fun x0=>.one (.ag 4 x0)) (fun x0=>qG x0 ((1 : Rat))) (fun β S w hS hs hw hG=>(kx (b81 hS))) ?_
  intro x6
  have E : N9 f = { bd2 f with a:=1 }:=by unfold N9; rw [if_neg e]
  exact p9 (dx4 x6 x1 x2 x3 x4 x5) rfl (fun S w hs hw hG=>⟨hw,by rw [E]; exact ⟨_,_,_,_,_,_,rfl,QConC.mono (k:={ bd2 f with a:=1 }) ⟨hG.1,hG.2.2.2.2.2.1,hG.2.2.2.2.1,hG.2.2.2.1,hG.2.2.1,hG.2.1⟩ fun k _ hk=>hs k hk⟩⟩)
 have E : N9 f = bd2 f:=by unfold N9; rw [if_pos (Classical.not_not.1 e)]
 exact p9 (dx4 x0 x1 x2 x3 x4 x5) rfl (fun S w hs hw hG=>⟨hw,by rw [E]; exact ⟨_,_,_,_,_,_,rfl,QConC.mono (k:=bd2 f) ⟨hG.2.2.2.2.2.1,hG.2.2.2.2.1,hG.2.2.2.1,hG.2.2.1,hG.2.1,hG.1⟩ fun k _ hk=>hs k hk⟩⟩)
theorem c82 {S : Nat → Prop} {w : World} {a0 a1 a2 a3 a4 : Value} {t0 t1 t2 t3 t4 : T3} (h0 : TripV S w a0 t0) (h1 : TripV S w a1 t1) (h2 : TripV S w a2 t2) (h3 : TripV S w a3 t3) (h4 : TripV S w a4 t4) :
  TrAV 45 S w ((SV.agg [.ag 9 a0,.ag 9 a1,.ag 9 a2,.ag 9 a3,.ag 9 a4]).den fun _=>0) [t0,t1,t2,t3,t4]:=by
 refine ⟨ax9 (l:=[.ag 9 a0,.ag 9 a1,.ag 9 a2,.ag 9 a3,.ag 9 a4]) (K0 (m:=0) ⟨h0.ok,h1.ok,h2.ok,h3.ok,h4.ok,trivial⟩) rfl,[a0,a1,a2,a3,a4],?_,b52 h0 (b52 h1 (b52 h2 (b52 h3 (b52 h4 d62))))⟩
 simp only [SV.den,Value.cells]
 exact bo4 (n:=9) (vs:=[a0,a1,a2,a3,a4])
end Go.Proofs.YtmkhgjccoolfjaaGreatDoor
end

/- Part 4. -/
import Derived.Test.YtmkhgjccoolfjaaGreatDoorPoles3
import Derived.Test.YtmkhgjccoolfjaaGreatDoorPoles1
import Derived.KernelRfl
import Derived.Test.YtmkhgjccoolfjaaGreatDoorPoles2
set_option linter.unusedSimpArgs false
set_option linter.unusedVariables false
set_option maxRecDepth 100000
set_option maxHeartbeats 8000000
section
namespace Go.Proofs.YtmkhgjccoolfjaaGreatDoor
open Go Go.RowKit Tryz
inductive Cur where
 | code (c : Code)
 | ops (all rest : List Oper)
 | ex (e : Exit)
inductive Kt where
 | code (c : Code)
 | blk (i : Nat)
 | lp (c : Code)
structure Out where
 cur : Cur
 k : List Kt
 st : St
 vc : List Prop
def kQ [Rd] (P : Program) (n : Nat) (Q : G3) : List Kt → G3
 | []=>Q
 | .code c :: k=>L9 (fun ρ w=>WqC P n c (kQ P n Q k) ρ w) (kQ P n Q k)
 | .blk i :: k=>K5 i (kQ P n Q k)
 | .lp c :: k=>L9 (fun ρ w=>LH P n c (kQ P n Q k) ρ w) (kQ P n Q k)
def dv9 [Rd] (P : Program) (n : Nat) (Q : G3) : Cur → Fr → World → Prop
 | .code c=>WqC P n c Q
 | .ops all rest=>WqR P n all Q rest
 | .ex e=>Q e
noncomputable def bs4 (E : Env) (all : List Oper) (o1 : Oper) (r : List Oper) (o : Out) : Option Out:=
 match bx2 E o.st o1 with
 | some (st',vc)=>some ⟨.ops all r,o.k,st',vc ++ o.vc⟩
 | none=>none
def a78 (st : St) (d : Option Tmp) : St:=match d with | some d=>⟨(d,.und) :: st.fr,st.hp⟩ | none=>st
noncomputable def bf9 (E : Env) (un : Bool) (o : Out) : Option Out:=
 match o.cur with
 | .code c=>match c with
  | .skip=>some ⟨.ex .normal,o.k,o.st,o.vc⟩
  | .label _=>some ⟨.ex .normal,o.k,o.st,o.vc⟩
  | .seq a b=>some ⟨.code a,.code b :: o.k,o.st,o.vc⟩
  | .block i c=>some ⟨.code c,.blk i :: o.k,o.st,o.vc⟩
  | .exit i=>some ⟨.ex (.exit i),o.k,o.st,o.vc⟩
  | .ret=>some ⟨.ex .ret,o.k,o.st,o.vc⟩
  | .region _ ops d=>bif d then none else some ⟨.ops ops.toList ops.toList,o.k,o.st,o.vc⟩
  | .cond x a b=>match opd o.st.fr x with
   | some (.one (.bb true))=>some ⟨.code a,o.k,o.st,o.vc⟩
   | some (.one (.bb false))=>some ⟨.code b,o.k,o.st,o.vc⟩
   | _=>none
  | .loop c=>bif un then some ⟨.code c,.lp c :: o.k,o.st,o.vc⟩ else none
  | _=>none
 | .ops all []=>some ⟨.ex .normal,o.k,o.st,o.vc⟩
 | .ops all (o1 :: r)=>match o1.guard with
  | none=>bs4 E all o1 r o
  | some (j,want)=>match H6 all j with
   | none=>none
   | some d=>match L7 o.st.fr d with
    | some (.one (.bb x))=>bif x == want then some ⟨.ops all (⟨o1.dst,o1.op,o1.type,o1.pos,o1.after,none⟩ :: r),o.k,o.st,o.vc⟩ else some ⟨.ops all r,o.k,a78 o.st o1.dst,o.vc⟩
    | some .und=>some ⟨.ops all r,o.k,a78 o.st o1.dst,o.vc⟩
    | _=>none
 | .ex e=>match e,o.k with
  | .normal,.code c :: k=>some ⟨.code c,k,o.st,o.vc⟩
  | .normal,.blk i :: k=>some ⟨.ex .normal,k,o.st,o.vc⟩
  | .normal,.lp c :: k=>some ⟨.code c,.lp c :: k,o.st,o.vc⟩
  | .exit i,.code _ :: k=>some ⟨.ex (.exit i),k,o.st,o.vc⟩
  | .exit i,.lp _ :: k=>some ⟨.ex (.exit i),k,o.st,o.vc⟩
  | .exit i,.blk j :: k=>bif Nat.beq i j then some ⟨.ex .normal,k,o.st,o.vc⟩ else some ⟨.ex (.exit i),k,o.st,o.vc⟩
  | .ret,_ :: k=>some ⟨.ex .ret,k,o.st,o.vc⟩
  | _,_=>none
noncomputable def exec (E : Env) (un : Bool) : Nat → Out → Out
 | 0,o=>o
 | n + 1,o=>match bf9 E un o with
  | some o'=>exec E un n o'
  | none=>o
structure Cx where
 P : Program
 n : Nat
 E : Env
 w0 : World
 S0 : Nat → Prop
 K : Nat → Prop
 Q : G3
 m : Nat
 b : Nat → Nat
abbrev Cx.bs (c : Cx) : Bs:=⟨c.w0.heap.size,c.K,c.m,c.b⟩
structure Cx.Ok (c : Cx) : Prop where
 env : EnvOk c.P c.E
 up : Up c.S0 c.w0
 lent : ∀ k,¬ c.K k → c.S0 k
theorem j5 {S : Nat → Prop} : ∀ k,¬ All k → S k:=fun _ h=>absurd trivial h
theorem Sat.up0 {c : Cx} {st : St} {β : Nat → Nat} {ρ : Fr} {w : World} (h : Sat c.bs st β ρ w) (hc : c.Ok) (b k : Nat) (hm : m7 β st.hp b k) : c.S0 k:=by
 rcases (h.mem.low b k hm).1 with h1 | h1
 ·exact hc.up k h1
 exact hc.lent k h1
def d95 (c : Cx) (st : St) (G : Gh) (X : Fr → World → Prop) : Prop:=∀ β ρ w,Sat c.bs st β ρ w → Keeps c.K c.w0 w → G.p (Sof c.S0 β st.hp) w → X ρ w
structure Run [Rd] (c : Cx) (o : Out) (G : Gh) : Prop where
 run : d95 c o.st G (dv9 c.P c.n (kQ c.P c.n c.Q o.k) o.cur)
structure VcOk (l : List Prop) : Prop where
 all : O0 l
section
variable {c : Cx} {o o' : Out} {G : Gh} {un : Bool}
theorem b10 {base : Bs} {st : St} {β : Nat → Nat} {ρ : Fr} {w : World} (h : Sat base st β ρ w) (d : Option Tmp) : Sat base (a78 st d) β (ap4 ρ d undef) w:=by
 cases d with
 | none=>exact h
 | some d=>exact h.put rfl trivial
theorem ck3 {st : St} {d : Option Tmp} : (a78 st d).hp = st.hp:=by cases d <;> rfl
theorem cz7 [Rd] {all : List Oper} {o1 : Oper} {r : List Oper} (hc : c.Ok) (hg : o1.guard = none) (hcur : o.cur = .ops all (o1 :: r)) (h : bs4 c.E all o1 r o = some o') (hv : O0 o'.vc) (hr : Run c o' G) : Run c o G:=by
 unfold bs4 at h
 cases hs : bx2 c.E o.st o1 with
 | none=>rw [hs] at h; cases h
 | some x=>
  obtain ⟨st',vc⟩:=x
  rw [hs] at h
  simp only [Option.some.injEq] at h
  subst h
  refine ⟨fun β ρ w hS hw hG=>?_⟩
  rw [hcur]
  have h1:=ct5 (S0:=c.S0) (K:=c.K) hc.env hS hw hs (bd0.1 hv).1
  refine a28 hg (h1.mono fun v w' ⟨β',hS',hw',hG'⟩=>?_)
  exact hr.run β' _ w' hS' hw' (hG' G hG)
theorem a47 {b : Bool} {x y z : Out} (h : (bif b then some x else some y) = some z) : (b = true ∧ x = z) ∨ (b = false ∧ y = z):=by
 cases b
 ·exact .inr ⟨rfl,Option.some.inj h⟩
 exact .inl ⟨rfl,Option.some.inj h⟩
theorem c10 (h : bf9 c.E un o = some o') : O0 o'.vc → O0 o.vc:=by
 intro hv
 unfold bf9 at h
 split at h
 ·split at h <;> first | (simp only [Option.some.injEq] at h; subst h; exact hv) | (cases h; done) | skip
  ·rename_i d _
   cases d <;> simp only [cond_true,cond_false,Option.some.injEq] at h
   ·subst h; exact hv
   cases h
  ·split at h <;> first | (simp only [Option.some.injEq] at h; subst h; exact hv) | (cases h; done)
  cases un <;> simp only [cond_true,cond_false,Option.some.injEq] at h
  ·cases h
  subst h; exact hv
 ·simp only [Option.some.injEq] at h; subst h; exact hv
 ·split at h
  ·unfold bs4 at h
   split at h
   ·simp only [Option.some.injEq] at h
    subst h
    exact (bd0.1 hv).2
   cases h
  split at h
  ·cases h
  split at h <;> first | (simp only [Option.some.injEq] at h; subst h; exact hv) | (cases h; done) | skip
  rcases a47 h with ⟨_,rfl⟩ | ⟨_,rfl⟩ <;> exact hv
 split at h <;> first | (simp only [Option.some.injEq] at h; subst h; exact hv) | (cases h; done) | skip
 rcases a47 h with ⟨_,rfl⟩ | ⟨_,rfl⟩ <;> exact hv
theorem cu7 [Rd] {all r : List Oper} {o1 : Oper} {k : List Kt} {st : St} {vc : List Prop} {j d : Nat} {want x : Bool} (hg : o1.guard = some (j,want)) (hd : H6 all j = some d) (hx : L7 st.fr d = some (.one (.bb x))) (hb : (x == want) = true)
  (hr : Run c ⟨.ops all (⟨o1.dst,o1.op,o1.type,o1.pos,o1.after,none⟩ :: r),k,st,vc⟩ G) : Run c ⟨.ops all (o1 :: r),k,st,vc⟩ G:=by
 obtain ⟨dst,op,ty,pos,aft,g⟩:=o1
 simp only at hg
 subst hg
 refine ⟨fun β ρ w hS hw hG=>?_⟩
 refine bt0 hd ?_ (hr.run β ρ w hS hw hG)
 rw [((hS.fr d) _ hx).1,← eq_of_beq hb]
 rfl
theorem ci3 [Rd] {all r : List Oper} {o1 : Oper} {k : List Kt} {st : St} {vc : List Prop} {j d : Nat} {want x : Bool} (hg : o1.guard = some (j,want)) (hd : H6 all j = some d) (hx : L7 st.fr d = some (.one (.bb x))) (hb : (x == want) = false)
  (hr : Run c ⟨.ops all r,k,a78 st o1.dst,vc⟩ G) : Run c ⟨.ops all (o1 :: r),k,st,vc⟩ G:=by
 obtain ⟨dst,op,ty,pos,aft,g⟩:=o1
 simp only at hg
 subst hg
 refine ⟨fun β ρ w hS hw hG=>?_⟩
 refine bn1 hd ((hS.fr d) _ hx).1 hb ?_
 exact hr.run β _ w (b10 hS dst) hw (by rw [ck3]; exact hG)
theorem cy1 [Rd] {all r : List Oper} {o1 : Oper} {k : List Kt} {st : St} {vc : List Prop} {j d : Nat} {want : Bool} (hg : o1.guard = some (j,want)) (hd : H6 all j = some d) (hx : L7 st.fr d = some .und)
  (hr : Run c ⟨.ops all r,k,a78 st o1.dst,vc⟩ G) : Run c ⟨.ops all (o1 :: r),k,st,vc⟩ G:=by
 obtain ⟨dst,op,ty,pos,aft,g⟩:=o1
 simp only at hg
 subst hg
 refine ⟨fun β ρ w hS hw hG=>?_⟩
 refine bk1 hd ((hS.fr d) _ hx).1 ?_
 exact hr.run β _ w (b10 hS dst) hw (by rw [ck3]; exact hG)
theorem c20 [Rd] (hc : c.Ok) (h : bf9 c.E un o = some o') (hv : O0 o'.vc) (hr : Run c o' G) : Run c o G:=by
 obtain ⟨cur,k,st,vc⟩:=o
 unfold bf9 at h
 simp only at h
 split at h
 ·split at h <;> first | (cases h; done) | skip
  ·simp only [Option.some.injEq] at h; subst h
   exact ⟨fun β ρ w hS hw hG=>dm8 (hr.run β ρ w hS hw hG)⟩
  ·simp only [Option.some.injEq] at h; subst h
   exact ⟨fun β ρ w hS hw hG=>c87 (hr.run β ρ w hS hw hG)⟩
  ·simp only [Option.some.injEq] at h; subst h
   exact ⟨fun β ρ w hS hw hG=>c19 (hr.run β ρ w hS hw hG)⟩
  ·simp only [Option.some.injEq] at h; subst h
   exact ⟨fun β ρ w hS hw hG=>c09 (hr.run β ρ w hS hw hG)⟩
  ·simp only [Option.some.injEq] at h; subst h
   exact ⟨fun β ρ w hS hw hG=>di3 (hr.run β ρ w hS hw hG)⟩
  ·simp only [Option.some.injEq] at h; subst h
   exact ⟨fun β ρ w hS hw hG=>dy8 (hr.run β ρ w hS hw hG)⟩
  ·rename_i id ops d
   cases d with
   | true=>cases h
   | false=>
    simp only [cond_false,Option.some.injEq] at h
    subst h
    refine ⟨fun β ρ w hS hw hG=>?_⟩
    have h1:=cs4 (id:=id) (hr.run β ρ w hS hw hG)
    rwa [Array.toArray_toList] at h1
  ·split at h <;> first | (cases h; done) | skip
   ·rename_i e
    simp only [Option.some.injEq] at h; subst h
    exact ⟨fun β ρ w hS hw hG=>a49 ((ah0 (fun t _=>hS.fr t)) _ e).1 (hr.run β ρ w hS hw hG)⟩
   rename_i e
   simp only [Option.some.injEq] at h; subst h
   exact ⟨fun β ρ w hS hw hG=>aw5 ((ah0 (fun t _=>hS.fr t)) _ e).1 (hr.run β ρ w hS hw hG)⟩
  cases un with
  | false=>cases h
  | true=>
   simp only [cond_true,Option.some.injEq] at h
   subst h
   exact ⟨fun β ρ w hS hw hG=>b36 (df0 (hr.run β ρ w hS hw hG))⟩
 ·simp only [Option.some.injEq] at h; subst h
  exact ⟨fun β ρ w hS hw hG=>du7 (hr.run β ρ w hS hw hG)⟩
 ·split at h
  ·rename_i hg
   exact cz7 hc hg rfl h hv hr
  rename_i j want hg
  split at h
  ·cases h
  rename_i d hd
  split at h <;> first | (cases h; done) | skip
  ·rename_i x hx
   rcases a47 h with ⟨hb,rfl⟩ | ⟨hb,rfl⟩
   ·exact cu7 hg hd hx hb hr
   exact ci3 hg hd hx hb hr
  rename_i hx
  simp only [Option.some.injEq] at h; subst h
  exact cy1 hg hd hx hr
 split at h <;> first | (cases h; done) | skip
 ·simp only [Option.some.injEq] at h; subst h
  exact ⟨fun β ρ w hS hw hG=>hr.run β ρ w hS hw hG⟩
 ·simp only [Option.some.injEq] at h; subst h
  exact ⟨fun β ρ w hS hw hG=>hr.run β ρ w hS hw hG⟩
 ·simp only [Option.some.injEq] at h; subst h
  exact ⟨fun β ρ w hS hw hG=>df0 (hr.run β ρ w hS hw hG)⟩
 ·simp only [Option.some.injEq] at h; subst h
  exact ⟨fun β ρ w hS hw hG=>hr.run β ρ w hS hw hG⟩
 ·simp only [Option.some.injEq] at h; subst h
  exact ⟨fun β ρ w hS hw hG=>hr.run β ρ w hS hw hG⟩
 ·rcases a47 h with ⟨hb,rfl⟩ | ⟨hb,rfl⟩
  ·exact ⟨fun β ρ w hS hw hG=>Y1 hb (hr.run β ρ w hS hw hG)⟩
  exact ⟨fun β ρ w hS hw hG=>bs6 hb (hr.run β ρ w hS hw hG)⟩
 rename_i x k
 simp only [Option.some.injEq] at h; subst h
 cases x with
 | code c=>exact ⟨fun β ρ w hS hw hG=>hr.run β ρ w hS hw hG⟩
 | blk i=>exact ⟨fun β ρ w hS hw hG=>hr.run β ρ w hS hw hG⟩
 | lp c=>exact ⟨fun β ρ w hS hw hG=>hr.run β ρ w hS hw hG⟩
theorem dl2 : ∀ {N : Nat} {o : Out},O0 (exec c.E un N o).vc → O0 o.vc:=by
 intro N
 induction N with
 | zero=>intro o h; exact h
 | succ N ih=>
  intro o h
  simp only [exec] at h
  cases hn : bf9 c.E un o with
  | none=>rw [hn] at h; exact h
  | some o'=>rw [hn] at h; exact c10 hn (ih h)
theorem cq1 [Rd] (hc : c.Ok) : ∀ {N : Nat} {o : Out},O0 (exec c.E un N o).vc → Run c (exec c.E un N o) G → Run c o G:=by
 intro N
 induction N with
 | zero=>intro o _ h; exact h
 | succ N ih=>
  intro o hv h
  simp only [exec] at h hv
  cases hn : bf9 c.E un o with
  | none=>rw [hn] at h; exact h
  | some o'=>
   rw [hn] at h hv
   exact c20 hc hn (dl2 hv) (ih hv h)
end
section
variable {c : Cx} {o : Out} {G : Gh} {un : Bool}
theorem c84 [Rd] (hc : c.Ok) (un : Bool) (N : Nat) (hv : VcOk (exec c.E un N o).vc) (h : Run c (exec c.E un N o) G) : Run c o G:=cq1 hc hv.all h
theorem vc0 {l : List Prop} (h : l = []) : VcOk l:=by subst h; exact ⟨trivial⟩
theorem vcs {l ps : List Prop} (h : l = ps) (hp : O0 ps) : VcOk l:=by subst h; exact ⟨hp⟩
theorem Sof.up {base : Bs} {hp : List HE} {β : Nat → Nat} {w : World} {S0 : Nat → Prop} (hS : Up S0 w) (hm : Mem base hp β w) : Up (Sof S0 β hp) w:=
 fun k hk=>⟨hS k hk,fun i hi=>by have:=(hm.low i k hi).2; omega⟩
theorem au5 [Rd] {G' : Gh} (h : ∀ S w,Keeps c.K c.w0 w → G.p S w → G'.p S w) (k : Run c o G') : Run c o G:=
 ⟨fun β ρ w hS hw hG=>k.run β ρ w hS hw (h _ w hw hG)⟩
def a41 : List (Option SV) → Option (List SV)
 | []=>some []
 | x :: r=>match x,a41 r with | some s,some l=>some (s :: l) | _,_=>none
def ds8 : Nat ⊕ Value → SV
 | .inl b=>.one (.ptr b 0)
 | .inr x=>.one (.val x)
def ak2 (st : St) : Cur → Option (FuncId × List SV × Nat)
 | .ops _ (o1 :: _)=>match o1.guard,o1.dst,o1.op with
  | none,some d,.call cl=>match cl.callee with
   | .value x=>match opd st.fr x with
    | some (.one (.fn f cap))=>match a41 (cl.args.toList.map (opd st.fr)) with
     | some l=>some (f,l ++ cap.map ds8,d)
     | none=>none
    | _=>none
   | _=>none
  | _,_,_=>none
 | _=>none
def J0 (f : FuncId) (o : Out) : Bool:=match ak2 o.st o.cur with | some (g,_,_)=>Nat.beq g f | none=>false
def C0 (o : Out) : List SV:=match ak2 o.st o.cur with | some (_,l,_)=>l | none=>[]
def I1 (o : Out) (s : SV) : Out:=match o.cur with | .ops all (o1 :: r)=>⟨.ops all r,o.k,⟨(o1.dst.getD 0,s) :: o.st.fr,o.st.hp⟩,[]⟩ | _=>o
theorem b76 {β : Nat → Nat} {m : Nat} {fr : List (Nat × SV)} {ρ : Fr} (hk : ∀ d,Kn β m (L7 fr d) (ρ d)) : ∀ {xs : List Operand} {l : List SV},a41 (xs.map (opd fr)) = some l → xs.map (ev ρ) = l.map (SV.den β):=by
 intro xs
 induction xs with
 | nil=>intro l h; simp only [List.map_nil,a41,Option.some.injEq] at h; subst h; rfl
 | cons x r ih=>
  intro l h
  simp only [List.map_cons,a41] at h
  split at h <;> first | (cases h; done) | skip
  rename_i s l' e1 e2
  simp only [Option.some.injEq] at h
  subst h
  rw [List.map_cons,List.map_cons,ih e2,(ah0 (fun t _=>hk t) _ e1).1]
theorem bo1 {β : Nat → Nat} (l : List (Nat ⊕ Value)) : (l.map ds8).map (SV.den β) = l.map (ax1 β):=by
 rw [List.map_map]
 refine List.map_congr_left fun x _=>?_
 cases x <;> rfl
theorem ak6 [Rd] {P : Program} {n : Nat} {Q : G3} {ch : List PanicEntry} {ρ : Fr} {w : World} : ∀ {k : List Kt},Q (.panic ch) ρ w → kQ P n Q k (.panic ch) ρ w:=by
 intro k
 induction k with
 | nil=>exact id
 | cons x k ih=>intro h; cases x <;> exact ih h
theorem bi9 {f : FuncId} [ci : CallI c.P f] {β : Nat → Nat} {ρ : Fr} {w : World} (hf : J0 f o = true) (hS : Sat c.bs o.st β ρ w) :
  ∃ all o1 r d,o.cur = .ops all (o1 :: r) ∧ o1.guard = none ∧ o1.dst = some d ∧ (∀ s,I1 o s = ⟨.ops all r,o.k,⟨(d,s) :: o.st.fr,o.st.hp⟩,[]⟩) ∧
   (execOp (ev ρ) o1).run c.P w = .ok (.enter f ((C0 o).map (SV.den β)).toArray) w:=by
 unfold J0 at hf
 cases hco : ak2 o.st o.cur with
 | none=>rw [hco] at hf; cases hf
 | some x=>
  obtain ⟨g,l,d⟩:=x
  rw [hco] at hf
  obtain rfl : g = f:=Nat.eq_of_beq_eq_true hf
  have hargs : C0 o = l:=by unfold C0; rw [hco]
  unfold ak2 at hco
  split at hco <;> first | (cases hco; done) | skip
  rename_i all o1 r hcur
  split at hco <;> first | (cases hco; done) | skip
  rename_i d' cl hg hd hop
  split at hco <;> first | (cases hco; done) | skip
  rename_i x hcl
  split at hco <;> first | (cases hco; done) | skip
  rename_i f' cap hx
  split at hco <;> first | (cases hco; done) | skip
  rename_i l' hl
  simp only [Option.some.injEq,Prod.mk.injEq] at hco
  obtain ⟨rfl,rfl,rfl⟩:=hco
  refine ⟨all,o1,r,d',hcur,hg,hd,fun s=>by unfold I1; rw [hcur]; simp only [hd,Option.getD_some],?_⟩
  have h1:=(ah0 (ρ:=ρ) (fun t _=>hS.fr t) _ hx).1
  have h2:=b76 hS.fr hl
  rw [hargs,List.map_append,bo1,← h2]
  obtain ⟨dst,op,ty,pos,aft,g⟩:=o1
  simp only at hop hg hd
  subst hop
  obtain ⟨callee,args,ts⟩:=cl
  simp only at hcl
  subst hcl
  simp [execOp,resolve,Deferred.ofValue,h1,SV.den,Ch.den,invoke,ci.run]
theorem be9 [Rd] {α : Type} (f : FuncId) [ci : CallI c.P f] (hc : c.Ok) (pat : α → SV) (pre : α → Prop) (Δ : α → Gh) (hf : J0 f o = true)
  (h : ∀ β S w,Up S w → Mem c.bs o.st.hp β w → (∀ k,S k → c.S0 k) → Keeps c.K c.w0 w → G.p S w → ∃ args,(C0 o).map (SV.den β) = args ∧ Gives c.P f args w fun v w'=>Ext w w' ∧ ∃ a,v = (pat a).den β ∧ (pat a).Ok o.st.hp.length ∧ pre a ∧ (Δ a).p S w')
  (hn : ∀ a,pre a → Run c (I1 o (pat a)) ((Δ a).and G)) : Run c o G:=by
 refine ⟨fun β ρ w hS hw hG=>?_⟩
 obtain ⟨all,o1,r,d,hcur,hg,hd,hnx,hr⟩:=bi9 hf hS
 obtain ⟨args,ha,hgv⟩:=h β _ w (Sof.up (hc.up.to hw) hS.mem) hS.mem (fun k hk=>hk.1) hw hG
 rw [hcur]
 show WqR c.P c.n all (kQ c.P c.n c.Q o.k) (o1 :: r) ρ w
 refine a28 hg ?_
 unfold Stp
 rw [hr,ha]
 refine hgv.mono ?_
 rintro v w' ⟨hk,a,rfl,hok,hp,hΔ⟩
 have h1:=hn a hp
 rw [hnx] at h1
 have h2:=h1.run β _ w' ((hS.to hk).put rfl hok) (hw.trans (.of hk)) ⟨hΔ,G.keep hG (.of hk)⟩
 rw [hd]
 exact h2
theorem dc7 [Rd] {α : Type} (f : FuncId) [ci : CallI c.P f] (hc : c.Ok) (pat : α → SV) (pre : α → Prop) (Δ : α → Gh) (hf : J0 f o = true)
  (h : ∀ β S w,Up S w → (∀ k,S k → c.S0 k) → Keeps c.K c.w0 w → G.p S w → ∃ args,(C0 o).map (SV.den β) = args ∧ Gives c.P f args w fun v w'=>Ext w w' ∧ ∃ a,v = (pat a).den β ∧ (pat a).Ok 0 ∧ pre a ∧ (Δ a).p S w')
  (hn : ∀ a,pre a → Run c (I1 o (pat a)) ((Δ a).and G)) : Run c o G:=
 be9 f hc pat pre Δ hf (fun β S w h1 _ h2 h3 h4=>let ⟨args,ha,hg⟩:=h β S w h1 h2 h3 h4; ⟨args,ha,hg.mono fun v w' ⟨k,a,e1,e2,e3,e4⟩=>⟨k,a,e1,e2.le (Nat.zero_le _),e3,e4⟩⟩) hn
theorem b60 [Rd] {α : Type} (f : FuncId) [ci : CallI c.P f] (hc : c.Ok) (pat : α → SV) (pre : α → Prop) (Δ : α → Gh) (hf : J0 f o = true)
  (h : ∀ β S w,Up S w → Mem c.bs o.st.hp β w → (∀ k,S k → c.S0 k) → Keeps c.K c.w0 w → G.p S w → ∃ args,(C0 o).map (SV.den β) = args ∧ GivesE c.P f args w (fun v w'=>Ext w w' ∧ ∃ a,v = (pat a).den β ∧ (pat a).Ok 0 ∧ pre a ∧ (Δ a).p S w') fun ch w'=>∀ ρ,c.Q (.panic ch) ρ w')
  (hn : ∀ a,pre a → Run c (I1 o (pat a)) ((Δ a).and G)) : Run c o G:=by
 refine ⟨fun β ρ w hS hw hG=>?_⟩
 obtain ⟨all,o1,r,d,hcur,hg,hd,hnx,hr⟩:=bi9 hf hS
 obtain ⟨args,ha,hgv⟩:=h β _ w (Sof.up (hc.up.to hw) hS.mem) hS.mem (fun k hk=>hk.1) hw hG
 rw [hcur]
 show WqR c.P c.n all (kQ c.P c.n c.Q o.k) (o1 :: r) ρ w
 rw [ha] at hr
 refine ct0 hg hd hr hgv ?_ fun ch w' hp=>ak6 (hp ρ)
 rintro v w' ⟨hk,a,rfl,hok,hp,hΔ⟩
 have h1:=hn a hp
 rw [hnx] at h1
 exact h1.run β _ w' ((hS.to hk).put rfl (hok.le (Nat.zero_le _))) (hw.trans (.of hk)) ⟨hΔ,G.keep hG (.of hk)⟩
theorem dr6 [Rd] {α : Type} (f : FuncId) [ci : CallI c.P f] (hc : c.Ok) (pat : α → SV) (pre : α → Prop) (Δ : α → Gh) (hf : J0 f o = true)
  (h : ∀ β S w,Up S w → (∀ k,S k → c.S0 k) → Keeps c.K c.w0 w → G.p S w → ∃ args,(C0 o).map (SV.den β) = args ∧ GivesE c.P f args w (fun v w'=>Ext w w' ∧ ∃ a,v = (pat a).den β ∧ (pat a).Ok 0 ∧ pre a ∧ (Δ a).p S w') fun ch w'=>∀ ρ,c.Q (.panic ch) ρ w')
  (hn : ∀ a,pre a → Run c (I1 o (pat a)) ((Δ a).and G)) : Run c o G:=
 b60 f hc pat pre Δ hf (fun β S w h1 _ h2 h3 h4=>h β S w h1 h2 h3 h4) hn
def bj2 (st : St) : Cur → Option (Prop × Code × Code)
 | .code (.cond x a b)=>match opd st.fr x with | some (.one (.tp p))=>some (p,a,b) | _=>none
 | _=>none
def aj6 (o : Out) : Bool:=(bj2 o.st o.cur).isSome
def at1 (o : Out) : Prop:=match bj2 o.st o.cur with | some (p,_,_)=>p | none=>False
def K8 (o : Out) (b : Bool) : Out:=match bj2 o.st o.cur with | some (_,x,y)=>⟨.code (bif b then x else y),o.k,o.st,[]⟩ | none=>o
theorem dv3 [Rd] {p : Prop} (hc : aj6 o = true) (hp : at1 o = p) (ht : p → Run c (K8 o true) G) (hf : ¬ p → Run c (K8 o false) G) : Run c o G:=by
 refine ⟨fun β ρ w hS hw hG=>?_⟩
 unfold aj6 at hc
 cases hco : bj2 o.st o.cur with
 | none=>rw [hco] at hc; cases hc
 | some x=>
  obtain ⟨q,a,b⟩:=x
  have e1 : at1 o = q:=by unfold at1; rw [hco]
  have e2 : K8 o true = ⟨.code a,o.k,o.st,[]⟩:=by unfold K8; rw [hco]; rfl
  have e3 : K8 o false = ⟨.code b,o.k,o.st,[]⟩:=by unfold K8; rw [hco]; rfl
  rw [e1] at hp
  subst hp
  rw [e2] at ht
  rw [e3] at hf
  unfold bj2 at hco
  split at hco <;> first | (cases hco; done) | skip
  rename_i x a' b' hcur
  split at hco <;> first | (cases hco; done) | skip
  rename_i p' hx
  simp only [Option.some.injEq,Prod.mk.injEq] at hco
  obtain ⟨rfl,rfl,rfl⟩:=hco
  rw [hcur]
  exact b45 ((ah0 (fun t _=>hS.fr t) _ hx).1) (fun h=>(ht h).run β ρ w hS hw hG) (fun h=>(hf h).run β ρ w hS hw hG)
theorem d53 [Rd] {p : Prop} (hc : aj6 o = true) (hp : at1 o = p) (h : p) (ht : Run c (K8 o true) G) : Run c o G:=dv3 hc hp (fun _=>ht) fun n=>absurd h n
theorem fa5 [Rd] {p : Prop} (hc : aj6 o = true) (hp : at1 o = p) (h : ¬ p) (ht : Run c (K8 o false) G) : Run c o G:=dv3 hc hp (fun n=>absurd n h) fun _=>ht
def ai7 (st : St) (d : Nat) : Option Prop:=match L7 st.fr d with | some (.one (.tp p))=>some p | _=>none
def ab8 (o : Out) (d : Nat) (s : SV) : Out:=⟨o.cur,o.k,⟨(d,s) :: o.st.fr,o.st.hp⟩,[]⟩
theorem cg6 [Rd] {p : Prop} (d : Nat) (hp : ai7 o.st d = some p) (ht : p → Run c (ab8 o d (.one (.bb true))) G) (hf : ¬ p → Run c (ab8 o d (.one (.bb false))) G) : Run c o G:=by
 refine ⟨fun β ρ w hS hw hG=>?_⟩
 unfold ai7 at hp
 split at hp <;> first | (cases hp; done) | skip
 rename_i q hq
 simp only [Option.some.injEq] at hp
 subst hp
 have h1:=((hS.fr d) _ hq).1
 by_cases h : q
 ·have h2 : ρ d = .bool true:=by rw [h1]; exact congrArg Value.bool (l9 h)
  have h3:=(ht h).run β (upd ρ d (.bool true)) w (hS.put rfl trivial) hw hG
  rwa [a58 h2] at h3
 have h2 : ρ d = .bool false:=by rw [h1]; exact congrArg Value.bool (j8 h)
 have h3:=(hf h).run β (upd ρ d (.bool false)) w (hS.put rfl trivial) hw hG
 rwa [a58 h2] at h3
theorem cd5 [Rd] {p : Prop} (d : Nat) (hp : ai7 o.st d = some p) (h : p) (ht : Run c (ab8 o d (.one (.bb true))) G) : Run c o G:=cg6 d hp (fun _=>ht) fun n=>absurd h n
theorem cq8 [Rd] {p : Prop} (d : Nat) (hp : ai7 o.st d = some p) (h : ¬ p) (ht : Run c (ab8 o d (.one (.bb false))) G) : Run c o G:=cg6 d hp (fun n=>absurd n h) fun _=>ht
noncomputable def aq7 (E : Env) (st : St) : List ResultVar → Option (List SV)
 | []=>some []
 | .tmp t :: r=>match L7 st.fr t,aq7 E st r with | some s,some l=>some (s :: l) | _,_=>none
 | .cell a T :: r=>match a52 E st.hp T (L7 st.fr a),aq7 E st r with | some (.put s _),some l=>some (s :: l) | _,_=>none
theorem a32 {base : Bs} {β : Nat → Nat} {ρ : Fr} {w : World} {st : St} (hE : EnvOk c.P c.E) (hS : Sat base st β ρ w) : ∀ {rs : List ResultVar} {l : List SV},aq7 c.E st rs = some l → R1 c.P ρ w rs (l.map (SV.den β)):=by
 intro rs
 induction rs with
 | nil=>intro l h; simp only [aq7,Option.some.injEq] at h; subst h; rfl
 | cons r rs ih=>
  intro l h
  cases r with
  | tmp t=>
   simp only [aq7] at h
   split at h <;> first | (cases h; done) | skip
   rename_i s l' e1 e2
   simp only [Option.some.injEq] at h
   subst h
   exact ⟨_,_,((hS.fr t) _ e1).1.symm,ih e2,rfl⟩
  | cell a T=>
   simp only [aq7] at h
   split at h <;> first | (cases h; done) | skip
   rename_i s vc l' e1 e2
   simp only [Option.some.injEq] at h
   subst h
   refine ⟨_,_,?_,ih e2,rfl⟩
   obtain ⟨h1,h2⟩:=az3 (P:=c.P) (ty:=0) (x:=.tmp a) hE hS.mem (ah0 (fun t _=>hS.fr t)) e1
   have h3 := h1 none "" #[] none
   unfold a52 at e1
   split at e1 <;> first | (cases e1; done) | skip
   rename_i b o ha
   have h4 : ρ a = .pointer (some ⟨β b,o,none⟩):=((hS.fr a) _ ha).1
   refine ⟨_,h4,?_⟩
   have h5 : ev ρ (.tmp a) = .pointer (some ⟨β b,o,none⟩):=h4
   simp only [execOp,h5,Instr.loadAt,Instr.sureAddr,Sem.run_bind,Sem.run_pure,Result.andThen] at h3
   cases hl : (loadVar T ⟨β b,o,none⟩).run c.P w with
   | ok v w2=>rw [hl] at h3; simp only [Result.ok.injEq,Next.value.injEq] at h3; rw [h3.1,h3.2]
   | halt x w2=>rw [hl] at h3; cases h3
def ag2 (o : Out) : Bool:=match o.cur,o.k with
 | .ex .ret,[]=>true
 | .ex .normal,[]=>true
 | _,_=>false
noncomputable def af5 (E : Env) (rs : List ResultVar) (st : St) (β : Nat → Nat) : Option Value:=(aq7 E st rs).map fun l=>bd3 (l.map (SV.den β))
theorem d44 [Rd] {fn : Func} {Ψ : Value → World → Prop} {rs : List ResultVar} (v : Value) (hc : c.Ok) (hQ : c.Q = ax4 c.P fn Ψ) (hrs : fn.results.toList = rs) (he : ag2 o = true) (hv : ∀ β,af5 c.E rs o.st β = some v)
  (h : ∀ S w,(∀ k,S k → c.S0 k) → Keeps c.K c.w0 w → G.p S w → Ψ v w) : Run c o G:=by
 refine ⟨fun β ρ w hS hw hG=>?_⟩
 have h1:=hv β
 unfold af5 at h1
 cases hl : aq7 c.E o.st rs with
 | none=>rw [hl] at h1; cases h1
 | some l=>
  rw [hl] at h1
  simp only [Option.map_some,Option.some.injEq] at h1
  have h2:=a32 hc.env hS hl
  have h3:=h _ w (fun k hk=>hk.1) hw hG
  have hend : ∀ e,e = Exit.ret ∨ e = Exit.normal → ax4 c.P fn Ψ e ρ w:=by
   rintro e (rfl | rfl) <;> exact ⟨_,hrs ▸ h2,h1 ▸ h3⟩
  unfold ag2 at he
  split at he <;> first | (cases he; done) | skip
  ·rename_i e1 e2
   rw [e1,e2]
   show c.Q .ret ρ w
   rw [hQ]
   exact hend _ (.inl rfl)
  rename_i e1 e2
  rw [e1,e2]
  show c.Q .normal ρ w
  rw [hQ]
  exact hend _ (.inr rfl)
theorem dp0 [Rd] {fn : Func} {Ψ : Value → World → Prop} {Φ : List PanicEntry → World → Prop} {rs : List ResultVar} (v : Value) (hc : c.Ok) (hQ : c.Q = cy9 c.P fn Ψ Φ) (hrs : fn.results.toList = rs) (he : ag2 o = true) (hv : ∀ β,af5 c.E rs o.st β = some v)
  (h : ∀ S w,(∀ k,S k → c.S0 k) → Keeps c.K c.w0 w → G.p S w → Ψ v w) : Run c o G:=by
 refine ⟨fun β ρ w hS hw hG=>?_⟩
 have h1:=hv β
 unfold af5 at h1
 cases hl : aq7 c.E o.st rs with
 | none=>rw [hl] at h1; cases h1
 | some l=>
  rw [hl] at h1
  simp only [Option.map_some,Option.some.injEq] at h1
  have h2:=a32 hc.env hS hl
  have h3:=h _ w (fun k hk=>hk.1) hw hG
  unfold ag2 at he
  split at he <;> first | (cases he; done) | skip
  ·rename_i e1 e2
   rw [e1,e2]
   show c.Q .ret ρ w
   rw [hQ]
   exact ⟨_,hrs ▸ h2,h1 ▸ h3⟩
  rename_i e1 e2
  rw [e1,e2]
  show c.Q .normal ρ w
  rw [hQ]
  exact ⟨_,hrs ▸ h2,h1 ▸ h3⟩
end
abbrev Cx.fn (P : Program) (fn : Func) (E : Env) (w0 : World) (S0 : Nat → Prop) (Ψ : Value → World → Prop) : Cx:=⟨P,fn.ntmps,E,w0,S0,All,ax4 P fn Ψ,0,fun _=>0⟩
abbrev Cx.fnE (P : Program) (fn : Func) (E : Env) (w0 : World) (S0 : Nat → Prop) (Ψ : Value → World → Prop) (Φ : List PanicEntry → World → Prop) : Cx:=⟨P,fn.ntmps,E,w0,S0,All,cy9 P fn Ψ Φ,0,fun _=>0⟩
theorem d50 [Rd] {P : Program} {fn : Func} {E : Env} {w0 : World} {S0 : Nat → Prop} {Ψ : Value → World → Prop} {rs : List ResultVar} {o : Out} {G : Gh} (v : Value) (hc : (Cx.fn P fn E w0 S0 Ψ).Ok) (hrs : fn.results.toList = rs) (he : ag2 o = true) (hv : ∀ β,af5 E rs o.st β = some v)
  (h : ∀ S w,(∀ k,S k → S0 k) → Ext w0 w → G.p S w → Ψ v w) : Run (Cx.fn P fn E w0 S0 Ψ) o G:=d44 v hc rfl hrs he hv h
theorem dv6 [Rd] {P : Program} {fn : Func} {E : Env} {w0 : World} {S0 : Nat → Prop} {Ψ : Value → World → Prop} {Φ : List PanicEntry → World → Prop} {rs : List ResultVar} {o : Out} {G : Gh} (v : Value) (hc : (Cx.fnE P fn E w0 S0 Ψ Φ).Ok) (hrs : fn.results.toList = rs) (he : ag2 o = true) (hv : ∀ β,af5 E rs o.st β = some v)
  (h : ∀ S w,(∀ k,S k → S0 k) → Ext w0 w → G.p S w → Ψ v w) : Run (Cx.fnE P fn E w0 S0 Ψ Φ) o G:=dp0 v hc rfl hrs he hv h
def bj9 : Nat → List SV → List (Nat × SV)
 | _,[]=>[]
 | i,s :: r=>(i,s) :: bj9 (i + 1) r
theorem br4 {β : Nat → Nat} {m : Nat} : ∀ {l : List SV} {i d : Nat},(∀ s ∈ l,s.Ok m) → Kn β m (L7 (bj9 i l) d) (if i ≤ d then (l.map (SV.den β)).getD (d - i) undef else undef):=by
 intro l
 induction l with
 | nil=>intro i d _ s hs; cases hs
 | cons x r ih=>
  intro i d hok s hs
  simp only [bj9] at hs
  rw [I2] at hs
  split at hs
  ·rename_i e
   subst e
   simp only [Option.some.injEq] at hs
   subst hs
   refine ⟨by simp,hok _ (List.mem_cons_self ..)⟩
  rename_i e
  have h1:=ih (i:=i + 1) (d:=d) (fun s hs=>hok s (List.mem_cons_of_mem _ hs)) s hs
  refine ⟨?_,h1.2⟩
  rw [← h1.1]
  by_cases hd : i + 1 ≤ d
  ·rw [if_pos hd,if_pos (by omega),List.map_cons,show d - i = (d - (i + 1)) + 1 by omega]
   rfl
  rw [if_neg hd,if_neg (by omega)]
def SVsOk : List SV → Prop
 | []=>True
 | s :: r=>s.Ok 0 ∧ SVsOk r
theorem SVsOk.all : ∀ {l : List SV},SVsOk l → ∀ s ∈ l,s.Ok 0:=by
 intro l
 induction l with
 | nil=>intro _ s hs; cases hs
 | cons x r ih=>
  intro h s hs
  rcases List.mem_cons.1 hs with rfl | hs
  ·exact h.1
  exact ih h.2 s hs
theorem a83 {base : Bs} {w : World} {l : List SV} (hok : SVsOk l) (hb : base.m = 0) : Sat base ⟨bj9 0 l,[]⟩ (fun _=>0) (fun i=>(l.map (SV.den fun _=>0)).getD i undef) w:=by
 refine ⟨fun d s hs=>?_,⟨fun i T l hi=>by simp at hi,fun i T s v n cs hi=>by simp at hi,fun i A hi=>by simp at hi,fun i k hk=>by simp [m7] at hk,fun i j k hk=>by simp [m7] at hk⟩,by rw [hb]; exact Nat.zero_le _,fun i hi=>by omega⟩
 have h:=br4 (β:=fun _=>0) (m:=0) (i:=0) (d:=d) hok.all s hs
 simpa using h
theorem p7 {P : Program} {E : Env} {S0 : Nat → Prop} {f : FuncId} {fn : Func} {code : Code} {l : List SV} {args : List Value} {w : World} {Ψ : Value → World → Prop} {G : Gh} (hf : P.funcs[f]? = some fn) (hb : fn.body = some code) (hok : bd5 fn code = true)
  (hn : Nat.ble args.length fn.ntmps = true) (hl : SVsOk l) (ha : l.map (SV.den fun _=>0) = args) (hG : G.p S0 w)
  (h : Run (Cx.fn P fn E w S0 Ψ) ⟨.code code,[],⟨bj9 0 l,[]⟩,[]⟩ G) : Gives P f args w Ψ:=by
 refine bq4 hf hb hok hn ?_
 subst ha
 exact h.run _ _ w (a83 hl rfl) .refl (G.mono hG fun k _ hk=>⟨hk,fun i hi=>by simp [m7] at hi⟩)
theorem J8 {P : Program} {E : Env} {S0 : Nat → Prop} {f : FuncId} {fn : Func} {code : Code} {l : List SV} {args : List Value} {w : World} {Ψ : Value → World → Prop} {Φ : List PanicEntry → World → Prop} {G : Gh} (hf : P.funcs[f]? = some fn) (hb : fn.body = some code) (hok : bd5 fn code = true)
  (hn : Nat.ble args.length fn.ntmps = true) (hl : SVsOk l) (ha : l.map (SV.den fun _=>0) = args) (hG : G.p S0 w)
  (h : Run (Cx.fnE P fn E w S0 Ψ Φ) ⟨.code code,[],⟨bj9 0 l,[]⟩,[]⟩ G) : GivesE P f args w Ψ Φ:=by
 refine cc9 hf hb hok hn ?_
 subst ha
 exact h.run _ _ w (a83 hl rfl) .refl (G.mono hG fun k _ hk=>⟨hk,fun i hi=>by simp [m7] at hi⟩)
inductive HV where
 | blk (T : TypeId) (cs : List Value)
 | row (T : TypeId) (s : Nat) (v : Value) (n : Nat) (cs : List Value)
 | gone
 | abs (A : AbsE)
 | hid (T : TypeId) (cs : List Value)
noncomputable def HE.den (β : Nat → Nat) : HE → HV
 | .blk T l=>.blk T (d8 β l)
 | .row T s v n cs=>.row T s v n cs
 | .gone=>.gone
 | .abs A=>.abs A
 | .hid T l=>.hid T (d8 β l)
noncomputable def Y6 (β : Nat → Nat) : List HE → List HE → List HV
 | _,[]=>[]
 | [],_ :: r=>.gone :: Y6 β [] r
 | _ :: q,.gone :: r=>.gone :: Y6 β q r
 | h :: q,.blk _ _ :: r=>h.den β :: Y6 β q r
 | h :: q,.row _ _ _ _ _ :: r=>h.den β :: Y6 β q r
 | h :: q,.abs _ :: r=>h.den β :: Y6 β q r
 | h :: q,.hid _ _ :: r=>h.den β :: Y6 β q r
noncomputable def frV (β : Nat → Nat) (fr : List (Nat × SV)) : List (Nat × SV) → List (Option Value)
 | []=>[]
 | (d,_) :: r=>(L7 fr d).map (SV.den β) :: frV β fr r
noncomputable def bn5 (β : Nat → Nat) : List (Nat × SV) → List (Option Value)
 | []=>[]
 | (_,s) :: r=>some (s.den β) :: bn5 β r
def bn2 (st st' : St) : Prop:=∀ β,frV β st.fr st'.fr = bn5 β st'.fr ∧ Y6 β st.hp st'.hp = st'.hp.map (HE.den β) ∧ st'.hp.length ≤ st.hp.length
theorem cr9 {st st' : St} (h1 : ∀ β,frV β st.fr st'.fr = bn5 β st'.fr) (h2 : ∀ β,Y6 β st.hp st'.hp = st'.hp.map (HE.den β)) (h3 : Nat.ble st'.hp.length st.hp.length = true) : bn2 st st':=fun β=>⟨h1 β,h2 β,Nat.le_of_ble_eq_true h3⟩
theorem al6 {st st' : St} (h1 : ∀ β,frV β st.fr st'.fr = bn5 β st'.fr:=by intros; kernel_rfl) (h2 : ∀ β,Y6 β st.hp st'.hp = st'.hp.map (HE.den β):=by intros; kernel_rfl) (h3 : Nat.ble st'.hp.length st.hp.length = true:=by kernel_rfl) : bn2 st st':=
 cr9 h1 h2 h3
def HE.Ok (m : Nat) : HE → Prop
 | .blk _ l=>∀ c ∈ l,c.Ok m
 | _=>True
def ap8 (st : St) : Prop:=(∀ d s,L7 st.fr d = some s → s.Ok st.hp.length) ∧ ∀ h ∈ st.hp,h.Ok st.hp.length
theorem c97 {β : Nat → Nat} {fr : List (Nat × SV)} : ∀ {fr' : List (Nat × SV)},frV β fr fr' = bn5 β fr' → ∀ d s',L7 fr' d = some s' → ∃ s,L7 fr d = some s ∧ s.den β = s'.den β:=by
 intro fr'
 induction fr' with
 | nil=>intro _ d s' h; cases h
 | cons p r ih=>
  obtain ⟨i,x⟩:=p
  intro h d s' hs
  simp only [frV,bn5,List.cons.injEq] at h
  rw [I2] at hs
  split at hs
  ·rename_i e
   subst e
   simp only [Option.some.injEq] at hs
   subst hs
   cases hl : L7 fr i with
   | none=>rw [hl] at h; cases h.1
   | some s=>rw [hl] at h; exact ⟨s,rfl,by simpa using h.1⟩
  exact ih h.2 d s' hs
theorem c65 {fr : List (Nat × SV)} : ∀ {d : Nat} {s : SV},L7 fr d = some s → (d,s) ∈ fr:=by
 induction fr with
 | nil=>intro d s h; cases h
 | cons p r ih=>
  obtain ⟨i,x⟩:=p
  intro d s h
  rw [I2] at h
  split at h
  ·rename_i e
   subst e
   simp only [Option.some.injEq] at h
   subst h
   exact List.mem_cons_self ..
  exact List.mem_cons_of_mem _ (ih h)
theorem au3 {β : Nat → Nat} : ∀ {hp hp' : List HE},Y6 β hp hp' = hp'.map (HE.den β) → hp'.length ≤ hp.length → ∀ (i : Nat) (h' : HE),hp'[i]? = some h' → h' = .gone ∨ ∃ h,hp[i]? = some h ∧ h.den β = h'.den β:=by
 intro hp hp'
 induction hp' generalizing hp with
 | nil=>intro _ _ i h' hi; simp at hi
 | cons x r ih=>
  intro h hl i h' hi
  cases hp with
  | nil=>simp at hl
  | cons y q=>
   have hl' : r.length ≤ q.length:=by simpa using hl
   cases i with
   | zero=>
    simp only [List.getElem?_cons_zero,Option.some.injEq] at hi
    subst hi
    cases x with
    | gone=>exact .inl rfl
    | blk T l=>simp only [Y6,List.map_cons,List.cons.injEq] at h; exact .inr ⟨y,rfl,h.1⟩
    | row T s v n cs=>simp only [Y6,List.map_cons,List.cons.injEq] at h; exact .inr ⟨y,rfl,h.1⟩
    | abs A=>simp only [Y6,List.map_cons,List.cons.injEq] at h; exact .inr ⟨y,rfl,h.1⟩
    | hid T l=>simp only [Y6,List.map_cons,List.cons.injEq] at h; exact .inr ⟨y,rfl,h.1⟩
   | succ i=>
    simp only [List.getElem?_cons_succ] at hi ⊢
    cases x <;> simp only [Y6,List.map_cons,List.cons.injEq] at h <;> exact ih h.2 hl' i h' hi
theorem dg5 {β : Nat → Nat} {h h' : HE} {b : Nat} (e : h.den β = h'.den β) : h.mine b = h'.mine b:=by
 cases h <;> cases h' <;> simp only [HE.den,HV.row.injEq,HV.abs.injEq,reduceCtorEq] at e <;> first | rfl | (subst e; rfl) | (obtain ⟨rfl,rfl,rfl,rfl,rfl⟩:=e; rfl)
theorem Sat.sub {base : Bs} {st st' : St} {β : Nat → Nat} {ρ : Fr} {w : World} (h : Sat base st β ρ w) (hs : bn2 st st') (hok : ap8 st') : Sat ⟨base.n,base.K,0,base.b⟩ st' β ρ w ∧ ∀ S0 k,Sof S0 β st.hp k → Sof S0 β st'.hp k:=by
 obtain ⟨h1,h2,h3⟩:=hs β
 have hm : ∀ i k,m7 β st'.hp i k → m7 β st.hp i k:=by
  rintro i k ⟨h',hi,hk⟩
  rcases au3 h2 h3 i h' hi with rfl | ⟨x,hx,hd⟩
  ·cases hk
  exact ⟨x,hx,by rw [dg5 hd]; exact hk⟩
 refine ⟨⟨fun d s' hs'=>?_,⟨?_,?_,?_,?_,?_⟩,Nat.zero_le _,fun i hi=>absurd hi (Nat.not_lt_zero i)⟩,fun S0 k hk=>⟨hk.1,fun i hi=>hk.2 i (hm i k hi)⟩⟩
 ·obtain ⟨s,hl,hd⟩:=c97 h1 d s' hs'
  exact ⟨((h.fr d) s hl).1.trans hd,hok.1 _ _ hs'⟩
 ·intro i T l hi
  rcases au3 h2 h3 i _ hi with e | ⟨x,hx,hd⟩
  ·cases e
  cases x with
  | blk T' l'=>
   simp only [HE.den,HV.blk.injEq] at hd
   obtain ⟨rfl,hd⟩:=hd
   rw [← hd]
   exact ⟨(h.mem.blk i T' l' hx).1,hok.2 _ (List.mem_of_getElem? hi)⟩
  | row T s v n cs=>cases hd
  | gone=>cases hd
  | abs A=>cases hd
  | hid T2 l2=>cases hd
 ·intro i T s v n cs hi
  rcases au3 h2 h3 i _ hi with e | ⟨x,hx,hd⟩
  ·cases e
  cases x with
  | blk T' l'=>cases hd
  | row T' s' v' n' cs'=>
   simp only [HE.den,HV.row.injEq] at hd
   obtain ⟨rfl,rfl,rfl,rfl,rfl⟩:=hd
   exact h.mem.row i _ _ _ _ _ hx
  | gone=>cases hd
  | abs A=>cases hd
  | hid T2 l2=>cases hd
 ·intro i A hi
  rcases au3 h2 h3 i _ hi with e | ⟨x,hx,hd⟩
  ·cases e
  cases x with
  | blk T' l'=>cases hd
  | row T' s' v' n' cs'=>cases hd
  | gone=>cases hd
  | abs A'=>
   simp only [HE.den,HV.abs.injEq] at hd
   subst hd
   exact h.mem.abs i _ hx
  | hid T2 l2=>cases hd
 ·exact fun i k hk=>h.mem.low i k (hm i k hk)
 exact fun i j k hi hj=>h.mem.apart i j k (hm i k hi) (hm j k hj)
section
variable {c : Cx} {o : Out} {G : Gh} {ι : Type}
def RelI (c : Cx) (st' : ι → St) (GI : ι → Gh) (i : ι) (ρ : Fr) (w : World) : Prop:=∃ β,(Sat ⟨c.w0.heap.size,c.K,0,c.b⟩ (st' i) β ρ w ∧ ∀ j,j < c.m → β j = c.b j) ∧ Keeps c.K c.w0 w ∧ (GI i).p (Sof c.S0 β (st' i).hp) w
theorem RelI.sat {st' : ι → St} {GI : ι → Gh} {i : ι} {ρ : Fr} {w : World} (h : RelI c st' GI i ρ w) (hl : c.m ≤ (st' i).hp.length) : ∃ β,Sat c.bs (st' i) β ρ w ∧ Keeps c.K c.w0 w ∧ (GI i).p (Sof c.S0 β (st' i).hp) w:=
 let ⟨β,⟨h1,h2⟩,h3,h4⟩:=h; ⟨β,⟨h1.fr,⟨h1.mem.blk,h1.mem.row,h1.mem.abs,h1.mem.low,h1.mem.apart⟩,hl,h2⟩,h3,h4⟩
def ar2 (c : Cx) (st' : ι → St) (GI : ι → Gh) (pre : ι → Prop) : Fr → World → Prop:=fun ρ w=>∃ i,pre i ∧ RelI c st' GI i ρ w
def a27 (c : Cx) (st' : ι → St) (GI : ι → Gh) (pre : ι → Prop) (m : ι → Nat) (i : ι) : Fr → World → Prop:=fun ρ w=>∃ i',pre i' ∧ m i' < m i ∧ RelI c st' GI i' ρ w
abbrev Cx.sub [Rd] (c : Cx) (R : Fr → World → Prop) (k : List Kt) : Cx:=⟨c.P,c.n,c.E,c.w0,c.S0,c.K,L9 R (kQ c.P c.n c.Q k),c.m,c.b⟩
theorem Cx.Ok.sub [Rd] {R : Fr → World → Prop} {k : List Kt} (h : c.Ok) : (c.sub R k).Ok:=⟨h.env,h.up,h.lent⟩
theorem bk8 {st' : ι → St} {GI : ι → Gh} {β : Nat → Nat} {ρ : Fr} {w : World} (i : ι) (hS : Sat c.bs o.st β ρ w) (hw : Keeps c.K c.w0 w) (hG : G.p (Sof c.S0 β o.st.hp) w) (hsub : bn2 o.st (st' i)) (hok : ∀ S w,Keeps c.K c.w0 w → G.p S w → ap8 (st' i)) (hg : ∀ S w,Keeps c.K c.w0 w → G.p S w → (GI i).p S w) :
  RelI c st' GI i ρ w:=by
 obtain ⟨h1,h2⟩:=hS.sub hsub (hok _ _ hw hG)
 exact ⟨β,⟨h1,hS.agr.2⟩,hw,(GI i).mono (hg _ _ hw hG) fun k _ hk=>h2 c.S0 k hk⟩
def ar7 (o : Out) : Bool:=match o.cur,o.k with | .ex .normal,[]=>true | _,_=>false
theorem ba5 (h : ar7 o = true) : o.cur = .ex .normal ∧ o.k = []:=by
 unfold ar7 at h
 split at h
 ·rename_i h1 h2; exact ⟨h1,h2⟩
 cases h
theorem dz8 [Rd] {st' : ι → St} {GI : ι → Gh} {pre : ι → Prop} {k : List Kt} (i : ι) (he : ar7 o = true) (hp : pre i) (hsub : bn2 o.st (st' i)) (hok : ∀ S w,Keeps c.K c.w0 w → G.p S w → ap8 (st' i)) (hg : ∀ S w,Keeps c.K c.w0 w → G.p S w → (GI i).p S w) :
  Run (c.sub (ar2 c st' GI pre) k) o G:=by
 refine ⟨fun β ρ w hS hw hG=>?_⟩
 obtain ⟨h1,h2⟩:=ba5 he
 rw [h1,h2]
 exact ⟨i,hp,bk8 i hS hw hG hsub hok hg⟩
theorem dm6 [Rd] {st' : ι → St} {GI : ι → Gh} {pre : ι → Prop} {m : ι → Nat} {j : ι} {k : List Kt} (i : ι) (he : ar7 o = true) (hp : pre i) (hlt : m i < m j) (hsub : bn2 o.st (st' i)) (hok : ∀ S w,Keeps c.K c.w0 w → G.p S w → ap8 (st' i)) (hg : ∀ S w,Keeps c.K c.w0 w → G.p S w → (GI i).p S w) :
  Run (c.sub (a27 c st' GI pre m j) k) o G:=by
 refine ⟨fun β ρ w hS hw hG=>?_⟩
 obtain ⟨h1,h2⟩:=ba5 he
 rw [h1,h2]
 exact ⟨i,hp,hlt,bk8 i hS hw hG hsub hok hg⟩
def cp2 (o : Out) : Bool:=match o.cur,o.k with | .ex .normal,_=>false | .ex _,[]=>true | _,_=>false
theorem d64 [Rd] {R : Fr → World → Prop} {k : List Kt} (he : cp2 o = true) (h : Run c ⟨o.cur,k,o.st,[]⟩ G) : Run (c.sub R k) o G:=by
 refine ⟨fun β ρ w hS hw hG=>?_⟩
 have h1:=h.run β ρ w hS hw hG
 unfold cp2 at he
 cases hc : o.cur with
 | code x=>rw [hc] at he; cases he
 | ops all r=>rw [hc] at he; cases he
 | ex e=>
  cases hk : o.k with
  | cons x r=>rw [hc,hk] at he; cases e <;> cases he
  | nil=>
   rw [hc,hk] at he
   rw [hc] at h1
   cases e with
   | normal=>cases he
   | _=>exact h1
theorem a90 [Rd] {P : Program} {n : Nat} {Q Q' : G3} (hq : ∀ e ρ w,Q e ρ w → Q' e ρ w) {ρ : Fr} {w : World} : ∀ {cur : Cur},dv9 P n Q cur ρ w → dv9 P n Q' cur ρ w:=by
 intro cur h
 cases cur with
 | code x=>exact bf1 h hq
 | ops all rest=>
  show WqR P n all Q' rest ρ w
  exact de4 h hq
 | ex e=>exact hq _ _ _ h
theorem d87 [Rd] (st' : ι → St) (GI : ι → Gh) (pre : ι → Prop) (hl : ∀ i,o.st.hp.length ≤ (st' i).hp.length) (h1 : Run (c.sub (ar2 c st' GI pre) o.k) ⟨o.cur,[],o.st,[]⟩ G) (h2 : ∀ i,pre i → Run c ⟨.ex .normal,o.k,st' i,[]⟩ (GI i)) : Run c o G:=by
 refine ⟨fun β ρ w hS hw hG=>?_⟩
 refine a90 ?_ (h1.run β ρ w hS hw hG)
 intro e ρ' w' hq
 cases e with
 | normal=>
  obtain ⟨i,hp,hr⟩:=hq
  obtain ⟨β',hS',hw',hG'⟩:=hr.sat (Nat.le_trans hS.agr.1 (hl i))
  exact (h2 i hp).run β' ρ' w' hS' hw' hG'
 | _=>exact hq
def cf3 (o : Out) : Bool:=match o.cur with | .code (.loop _)=>true | _=>false
def az7 (o : Out) : Code:=match o.cur with | .code (.loop c)=>c | _=>.skip
theorem d08 [Rd] (st' : ι → St) (GI : ι → Gh) (pre : ι → Prop) (m : ι → Nat) (i : ι) (hl : ∀ i,o.st.hp.length ≤ (st' i).hp.length) (he : cf3 o = true) (hp : pre i) (hsub : bn2 o.st (st' i)) (hok : ∀ S w,Keeps c.K c.w0 w → G.p S w → ap8 (st' i)) (hg : ∀ S w,Keeps c.K c.w0 w → G.p S w → (GI i).p S w)
  (hb : ∀ i,pre i → Run (c.sub (a27 c st' GI pre m i) o.k) ⟨.code (az7 o),[],st' i,[]⟩ (GI i)) : Run c o G:=by
 refine ⟨fun β ρ w hS hw hG=>?_⟩
 have hrel:=bk8 i hS hw hG hsub hok hg
 unfold cf3 at he
 split at he <;> first | (cases he; done) | skip
 rename_i x hx
 have hbd : az7 o = x:=by unfold az7; rw [hx]
 rw [hx]
 show WqC c.P c.n (.loop x) (kQ c.P c.n c.Q o.k) ρ w
 have key : ∀ N i ρ w,m i = N → pre i → RelI c st' GI i ρ w → LH c.P c.n x (kQ c.P c.n c.Q o.k) ρ w:=by
  intro N
  induction N using Nat.strongRecOn with
  | _ N ih=>
   intro i ρ w hm hp hrel
   obtain ⟨β,hS,hw,hG⟩:=hrel.sat (Nat.le_trans hS.agr.1 (hl i))
   have h1:=(hb i hp).run β ρ w hS hw hG
   rw [hbd] at h1
   refine df0 (bf1 h1 ?_)
   intro e ρ' w' hq
   cases e with
   | normal=>
    obtain ⟨i',hp',hlt,hr⟩:=hq
    exact ih (m i') (by omega) i' ρ' w' rfl hp' hr
   | _=>exact hq
 exact b36 (key _ i ρ w rfl hp hrel)
end
end Go.Proofs.YtmkhgjccoolfjaaGreatDoor
end
section
namespace Go.Proofs.YtmkhgjccoolfjaaGreatDoor
open Go Tryz
theorem ty2 : TyOk prog 2 ⟨1,8,false,x9 (.int .i64 0),.int .i64⟩:=B7 (inferInstance : TyI prog 2 1 8 (.int .i64 0) false) rfl (underlying2)
theorem ty3 : TyOk prog 3 ⟨1,8,false,x9 (.int .i64 0),.int .i64⟩:=B7 (inferInstance : TyI prog 3 1 8 (.int .i64 0) false) rfl (underlying3)
theorem ty4 : TyOk prog 4 ⟨1,1,false,x9 (.bool false),.bool⟩:=B7 (inferInstance : TyI prog 4 1 1 (.bool false) false) rfl (underlying4)
theorem ty9 : TyOk prog 9 ⟨1,16,false,x9 (.string { data:=#[] }),.str⟩:=B7 (inferInstance : TyI prog 9 1 16 (.string { data:=#[] }) false) rfl (underlying9)
theorem fd4 : TyOk prog 23 ⟨6,48,true,x9 (.agg #[.int .i64 0,.int .i64 0,.int .i64 0,.int .i64 0,.int .i64 0,.int .i64 0]),.array 6 3⟩:=B7 (inferInstance : TyI prog 23 6 48 (.agg #[.int .i64 0,.int .i64 0,.int .i64 0,.int .i64 0,.int .i64 0,.int .i64 0]) true) rfl (underlying23)
theorem fb6 : TyOk prog 24 ⟨9,72,true,x9 (.agg #[.int .i64 0,.int .i64 0,.int .i64 0,.int .i64 0,.int .i64 0,.int .i64 0,.int .i64 0,.int .i64 0,.int .i64 0]),.array 9 3⟩:=B7 (inferInstance : TyI prog 24 9 72 (.agg #[.int .i64 0,.int .i64 0,.int .i64 0,.int .i64 0,.int .i64 0,.int .i64 0,.int .i64 0,.int .i64 0,.int .i64 0]) true) rfl (underlying24)
theorem fa6 : TyOk prog 26 ⟨1,24,false,x9 (.slice none 0 0),.slice 3⟩:=B7 (inferInstance : TyI prog 26 1 24 (.slice none 0 0) false) rfl (underlying26)
theorem fa2 : TyOk prog 28 ⟨2,32,true,x9 (.agg #[.bool false,.slice none 0 0]),.struct [(0,1,false),(1,1,false)]⟩:=B7 (inferInstance : TyI prog 28 2 32 (.agg #[.bool false,.slice none 0 0]) true) rfl (⟨_,underlying28,by kernel_rfl,fun w=>by kernel_rfl⟩)
theorem fb9 : TyOk prog 30 ⟨4,64,true,x9 (.agg #[.bool false,.slice none 0 0,.bool false,.slice none 0 0]),.struct [(0,2,true),(2,2,true)]⟩:=B7 (inferInstance : TyI prog 30 4 64 (.agg #[.bool false,.slice none 0 0,.bool false,.slice none 0 0]) true) rfl (⟨_,underlying30,by kernel_rfl,fun w=>by kernel_rfl⟩)
theorem fc0 : TyOk prog 31 ⟨12,192,true,x9 (.agg #[.bool false,.slice none 0 0,.bool false,.slice none 0 0,.bool false,.slice none 0 0,.bool false,.slice none 0 0,.bool false,.slice none 0 0,.bool false,.slice none 0 0]),.array 3 30⟩:=B7 (inferInstance : TyI prog 31 12 192 (.agg #[.bool false,.slice none 0 0,.bool false,.slice none 0 0,.bool false,.slice none 0 0,.bool false,.slice none 0 0,.bool false,.slice none 0 0,.bool false,.slice none 0 0]) true) rfl (underlying31)
theorem fc1 : TyOk prog 33 ⟨36,576,true,x9 (.agg #[.bool false,.slice none 0 0,.bool false,.slice none 0 0,.bool false,.slice none 0 0,.bool false,.slice none 0 0,.bool false,.slice none 0 0,.bool false,.slice none 0 0,.bool false,.slice none 0 0,.bool false,.slice none 0 0,.bool false,.slice none 0 0,.bool false,.slice none 0 0,.bool false,.slice none 0 0,.bool false,.slice none 0 0,.bool false,.slice none 0 0,.bool false,.slice none 0 0,.bool false,.slice none 0 0,.bool false,.slice none 0 0,.bool false,.slice none 0 0,.bool false,.slice none 0 0]),.array 3 31⟩:=B7 (⟨by kernel_rfl,by rfl,by kernel_rfl⟩ : TyI prog 33 36 576 (.agg #[.bool false,.slice none 0 0,.bool false,.slice none 0 0,.bool false,.slice none 0 0,.bool false,.slice none 0 0,.bool false,.slice none 0 0,.bool false,.slice none 0 0,.bool false,.slice none 0 0,.bool false,.slice none 0 0,.bool false,.slice none 0 0,.bool false,.slice none 0 0,.bool false,.slice none 0 0,.bool false,.slice none 0 0,.bool false,.slice none 0 0,.bool false,.slice none 0 0,.bool false,.slice none 0 0,.bool false,.slice none 0 0,.bool false,.slice none 0 0,.bool false,.slice none 0 0]) true) rfl (underlying33)
theorem fa7 : TyOk prog 36 ⟨24,384,true,x9 (.agg #[.bool false,.slice none 0 0,.bool false,.slice none 0 0,.bool false,.slice none 0 0,.bool false,.slice none 0 0,.bool false,.slice none 0 0,.bool false,.slice none 0 0,.bool false,.slice none 0 0,.bool false,.slice none 0 0,.bool false,.slice none 0 0,.bool false,.slice none 0 0,.bool false,.slice none 0 0,.bool false,.slice none 0 0]),.array 6 30⟩:=B7 (⟨by kernel_rfl,by rfl,by kernel_rfl⟩ : TyI prog 36 24 384 (.agg #[.bool false,.slice none 0 0,.bool false,.slice none 0 0,.bool false,.slice none 0 0,.bool false,.slice none 0 0,.bool false,.slice none 0 0,.bool false,.slice none 0 0,.bool false,.slice none 0 0,.bool false,.slice none 0 0,.bool false,.slice none 0 0,.bool false,.slice none 0 0,.bool false,.slice none 0 0,.bool false,.slice none 0 0]) true) rfl (underlying36)
theorem d98 : TyOk prog 39 ⟨12,192,true,x9 (.agg #[.bool false,.slice none 0 0,.bool false,.slice none 0 0,.bool false,.slice none 0 0,.bool false,.slice none 0 0,.bool false,.slice none 0 0,.bool false,.slice none 0 0]),.array 3 30⟩:=B7 (inferInstance : TyI prog 39 12 192 (.agg #[.bool false,.slice none 0 0,.bool false,.slice none 0 0,.bool false,.slice none 0 0,.bool false,.slice none 0 0,.bool false,.slice none 0 0,.bool false,.slice none 0 0]) true) rfl (underlying39)
theorem fa8 : TyOk prog 46 ⟨1,8,false,x9 (.int .u64 0),.int .u64⟩:=B7 (inferInstance : TyI prog 46 1 8 (.int .u64 0) false) rfl (underlying46)
theorem fa1 : TyOk prog 51 ⟨2,32,true,x9 (.agg #[.bool false,.slice none 0 0]),.struct [(0,1,false),(1,1,false)]⟩:=B7 (inferInstance : TyI prog 51 2 32 (.agg #[.bool false,.slice none 0 0]) true) rfl (⟨_,underlying51,by kernel_rfl,fun w=>by kernel_rfl⟩)
theorem fa9 : TyOk prog 53 ⟨3,56,true,x9 (.agg #[.bool false,.slice none 0 0,.slice none 0 0]),.struct [(0,2,true),(2,1,false)]⟩:=B7 (inferInstance : TyI prog 53 3 56 (.agg #[.bool false,.slice none 0 0,.slice none 0 0]) true) rfl (⟨_,underlying53,by kernel_rfl,fun w=>by kernel_rfl⟩)
theorem fc2 : TyOk prog 54 ⟨9,168,true,x9 (.agg #[.bool false,.slice none 0 0,.slice none 0 0,.bool false,.slice none 0 0,.slice none 0 0,.bool false,.slice none 0 0,.slice none 0 0]),.array 3 53⟩:=B7 (inferInstance : TyI prog 54 9 168 (.agg #[.bool false,.slice none 0 0,.slice none 0 0,.bool false,.slice none 0 0,.slice none 0 0,.bool false,.slice none 0 0,.slice none 0 0]) true) rfl (underlying54)
theorem fb1 : TyOk prog 55 ⟨9,168,true,x9 (.agg #[.bool false,.slice none 0 0,.slice none 0 0,.bool false,.slice none 0 0,.slice none 0 0,.bool false,.slice none 0 0,.slice none 0 0]),.array 3 53⟩:=B7 (inferInstance : TyI prog 55 9 168 (.agg #[.bool false,.slice none 0 0,.slice none 0 0,.bool false,.slice none 0 0,.slice none 0 0,.bool false,.slice none 0 0,.slice none 0 0]) true) rfl (underlying55)
theorem fb7 : TyOk prog 56 ⟨1,8,false,x9 (.int .i64 0),.int .i64⟩:=B7 (inferInstance : TyI prog 56 1 8 (.int .i64 0) false) rfl (underlying56)
theorem d99 : TyOk prog 60 ⟨18,336,true,x9 (.agg #[.bool false,.slice none 0 0,.slice none 0 0,.bool false,.slice none 0 0,.slice none 0 0,.bool false,.slice none 0 0,.slice none 0 0,.bool false,.slice none 0 0,.slice none 0 0,.bool false,.slice none 0 0,.slice none 0 0,.bool false,.slice none 0 0,.slice none 0 0]),.array 6 53⟩:=B7 (⟨by kernel_rfl,by rfl,by kernel_rfl⟩ : TyI prog 60 18 336 (.agg #[.bool false,.slice none 0 0,.slice none 0 0,.bool false,.slice none 0 0,.slice none 0 0,.bool false,.slice none 0 0,.slice none 0 0,.bool false,.slice none 0 0,.slice none 0 0,.bool false,.slice none 0 0,.slice none 0 0,.bool false,.slice none 0 0,.slice none 0 0]) true) rfl (underlying60)
theorem fb3 : TyOk prog 70 ⟨54,1008,true,x9 (.agg #[.bool false,.slice none 0 0,.slice none 0 0,.bool false,.slice none 0 0,.slice none 0 0,.bool false,.slice none 0 0,.slice none 0 0,.bool false,.slice none 0 0,.slice none 0 0,.bool false,.slice none 0 0,.slice none 0 0,.bool false,.slice none 0 0,.slice none 0 0,.bool false,.slice none 0 0,.slice none 0 0,.bool false,.slice none 0 0,.slice none 0 0,.bool false,.slice none 0 0,.slice none 0 0,.bool false,.slice none 0 0,.slice none 0 0,.bool false,.slice none 0 0,.slice none 0 0,.bool false,.slice none 0 0,.slice none 0 0,.bool false,.slice none 0 0,.slice none 0 0,.bool false,.slice none 0 0,.slice none 0 0,.bool false,.slice none 0 0,.slice none 0 0,.bool false,.slice none 0 0,.slice none 0 0,.bool false,.slice none 0 0,.slice none 0 0,.bool false,.slice none 0 0,.slice none 0 0]),.array 6 55⟩:=B7 (⟨by kernel_rfl,by rfl,by kernel_rfl⟩ : TyI prog 70 54 1008 (.agg #[.bool false,.slice none 0 0,.slice none 0 0,.bool false,.slice none 0 0,.slice none 0 0,.bool false,.slice none 0 0,.slice none 0 0,.bool false,.slice none 0 0,.slice none 0 0,.bool false,.slice none 0 0,.slice none 0 0,.bool false,.slice none 0 0,.slice none 0 0,.bool false,.slice none 0 0,.slice none 0 0,.bool false,.slice none 0 0,.slice none 0 0,.bool false,.slice none 0 0,.slice none 0 0,.bool false,.slice none 0 0,.slice none 0 0,.bool false,.slice none 0 0,.slice none 0 0,.bool false,.slice none 0 0,.slice none 0 0,.bool false,.slice none 0 0,.slice none 0 0,.bool false,.slice none 0 0,.slice none 0 0,.bool false,.slice none 0 0,.slice none 0 0,.bool false,.slice none 0 0,.slice none 0 0,.bool false,.slice none 0 0,.slice none 0 0,.bool false,.slice none 0 0,.slice none 0 0]) true) rfl (underlying70)
theorem d96 : TyOk prog 76 ⟨6,48,true,x9 (.agg #[.int .i64 0,.int .i64 0,.int .i64 0,.int .i64 0,.int .i64 0,.int .i64 0]),.array 6 3⟩:=B7 (inferInstance : TyI prog 76 6 48 (.agg #[.int .i64 0,.int .i64 0,.int .i64 0,.int .i64 0,.int .i64 0,.int .i64 0]) true) rfl (underlying76)
theorem fb2 : TyOk prog 77 ⟨12,96,true,x9 (.agg #[.int .i64 0,.int .i64 0,.int .i64 0,.int .i64 0,.int .i64 0,.int .i64 0,.int .i64 0,.int .i64 0,.int .i64 0,.int .i64 0,.int .i64 0,.int .i64 0]),.array 2 76⟩:=B7 (inferInstance : TyI prog 77 12 96 (.agg #[.int .i64 0,.int .i64 0,.int .i64 0,.int .i64 0,.int .i64 0,.int .i64 0,.int .i64 0,.int .i64 0,.int .i64 0,.int .i64 0,.int .i64 0,.int .i64 0]) true) rfl (underlying77)
theorem fc5 : TyOk prog 78 ⟨30,240,true,x9 (.agg #[.int .i64 0,.int .i64 0,.int .i64 0,.int .i64 0,.int .i64 0,.int .i64 0,.int .i64 0,.int .i64 0,.int .i64 0,.int .i64 0,.int .i64 0,.int .i64 0,.int .i64 0,.int .i64 0,.int .i64 0,.int .i64 0,.int .i64 0,.int .i64 0,.int .i64 0,.int .i64 0,.int .i64 0,.int .i64 0,.int .i64 0,.int .i64 0,.int .i64 0,.int .i64 0,.int .i64 0,.int .i64 0,.int .i64 0,.int .i64 0]),.array 5 76⟩:=B7 (⟨by kernel_rfl,by rfl,by kernel_rfl⟩ : TyI prog 78 30 240 (.agg #[.int .i64 0,.int .i64 0,.int .i64 0,.int .i64 0,.int .i64 0,.int .i64 0,.int .i64 0,.int .i64 0,.int .i64 0,.int .i64 0,.int .i64 0,.int .i64 0,.int .i64 0,.int .i64 0,.int .i64 0,.int .i64 0,.int .i64 0,.int .i64 0,.int .i64 0,.int .i64 0,.int .i64 0,.int .i64 0,.int .i64 0,.int .i64 0,.int .i64 0,.int .i64 0,.int .i64 0,.int .i64 0,.int .i64 0,.int .i64 0]) true) rfl (underlying78)
theorem fc3 : TyOk prog 87 ⟨45,840,true,x9 (.agg #[.bool false,.slice none 0 0,.slice none 0 0,.bool false,.slice none 0 0,.slice none 0 0,.bool false,.slice none 0 0,.slice none 0 0,.bool false,.slice none 0 0,.slice none 0 0,.bool false,.slice none 0 0,.slice none 0 0,.bool false,.slice none 0 0,.slice none 0 0,.bool false,.slice none 0 0,.slice none 0 0,.bool false,.slice none 0 0,.slice none 0 0,.bool false,.slice none 0 0,.slice none 0 0,.bool false,.slice none 0 0,.slice none 0 0,.bool false,.slice none 0 0,.slice none 0 0,.bool false,.slice none 0 0,.slice none 0 0,.bool false,.slice none 0 0,.slice none 0 0,.bool false,.slice none 0 0,.slice none 0 0,.bool false,.slice none 0 0,.slice none 0 0]),.array 5 55⟩:=B7 (⟨by kernel_rfl,by rfl,by kernel_rfl⟩ : TyI prog 87 45 840 (.agg #[.bool false,.slice none 0 0,.slice none 0 0,.bool false,.slice none 0 0,.slice none 0 0,.bool false,.slice none 0 0,.slice none 0 0,.bool false,.slice none 0 0,.slice none 0 0,.bool false,.slice none 0 0,.slice none 0 0,.bool false,.slice none 0 0,.slice none 0 0,.bool false,.slice none 0 0,.slice none 0 0,.bool false,.slice none 0 0,.slice none 0 0,.bool false,.slice none 0 0,.slice none 0 0,.bool false,.slice none 0 0,.slice none 0 0,.bool false,.slice none 0 0,.slice none 0 0,.bool false,.slice none 0 0,.slice none 0 0,.bool false,.slice none 0 0,.slice none 0 0,.bool false,.slice none 0 0,.slice none 0 0,.bool false,.slice none 0 0,.slice none 0 0]) true) rfl (underlying87)
theorem fc6 : TyOk prog 98 ⟨27,504,true,x9 (.agg #[.bool false,.slice none 0 0,.slice none 0 0,.bool false,.slice none 0 0,.slice none 0 0,.bool false,.slice none 0 0,.slice none 0 0,.bool false,.slice none 0 0,.slice none 0 0,.bool false,.slice none 0 0,.slice none 0 0,.bool false,.slice none 0 0,.slice none 0 0,.bool false,.slice none 0 0,.slice none 0 0,.bool false,.slice none 0 0,.slice none 0 0,.bool false,.slice none 0 0,.slice none 0 0]),.array 3 54⟩:=B7 (⟨by kernel_rfl,by rfl,by kernel_rfl⟩ : TyI prog 98 27 504 (.agg #[.bool false,.slice none 0 0,.slice none 0 0,.bool false,.slice none 0 0,.slice none 0 0,.bool false,.slice none 0 0,.slice none 0 0,.bool false,.slice none 0 0,.slice none 0 0,.bool false,.slice none 0 0,.slice none 0 0,.bool false,.slice none 0 0,.slice none 0 0,.bool false,.slice none 0 0,.slice none 0 0,.bool false,.slice none 0 0,.slice none 0 0,.bool false,.slice none 0 0,.slice none 0 0]) true) rfl (underlying98)
theorem d80 : TyOk prog 128 ⟨1,24,false,x9 (.slice none 0 0),.slice 30⟩:=B7 (inferInstance : TyI prog 128 1 24 (.slice none 0 0) false) rfl (underlying128)
theorem d55 : TyOk prog 135 ⟨1,24,false,x9 (.slice none 0 0),.slice 55⟩:=B7 (inferInstance : TyI prog 135 1 24 (.slice none 0 0) false) rfl (underlying135)
theorem d67 : TyOk prog 136 ⟨27,504,true,x9 (.agg #[.bool false,.slice none 0 0,.slice none 0 0,.bool false,.slice none 0 0,.slice none 0 0,.bool false,.slice none 0 0,.slice none 0 0,.bool false,.slice none 0 0,.slice none 0 0,.bool false,.slice none 0 0,.slice none 0 0,.bool false,.slice none 0 0,.slice none 0 0,.bool false,.slice none 0 0,.slice none 0 0,.bool false,.slice none 0 0,.slice none 0 0,.bool false,.slice none 0 0,.slice none 0 0]),.array 3 55⟩:=B7 (⟨by kernel_rfl,by rfl,by kernel_rfl⟩ : TyI prog 136 27 504 (.agg #[.bool false,.slice none 0 0,.slice none 0 0,.bool false,.slice none 0 0,.slice none 0 0,.bool false,.slice none 0 0,.slice none 0 0,.bool false,.slice none 0 0,.slice none 0 0,.bool false,.slice none 0 0,.slice none 0 0,.bool false,.slice none 0 0,.slice none 0 0,.bool false,.slice none 0 0,.slice none 0 0,.bool false,.slice none 0 0,.slice none 0 0,.bool false,.slice none 0 0,.slice none 0 0]) true) rfl (underlying136)
theorem d66 : TyOk prog 162 ⟨1,8,true,x9 (.agg #[.int .i64 0]),.struct [(0,1,false)]⟩:=B7 (inferInstance : TyI prog 162 1 8 (.agg #[.int .i64 0]) true) rfl (⟨_,underlying162,by kernel_rfl,fun w=>by kernel_rfl⟩)
theorem d78 : TyOk prog 165 ⟨1,24,false,x9 (.slice none 0 0),.slice 53⟩:=B7 (inferInstance : TyI prog 165 1 24 (.slice none 0 0) false) rfl (underlying165)
theorem d72 : TyOk prog 178 ⟨4,64,true,x9 (.agg #[.bool false,.slice none 0 0,.slice none 0 0,.bool false]),.struct [(0,3,true),(3,1,false)]⟩:=B7 (inferInstance : TyI prog 178 4 64 (.agg #[.bool false,.slice none 0 0,.slice none 0 0,.bool false]) true) rfl (⟨_,underlying178,by kernel_rfl,fun w=>by kernel_rfl⟩)
theorem d71 : TyOk prog 188 ⟨2,16,true,x9 (.agg #[.int .i64 0,.int .i64 0]),.array 2 3⟩:=B7 (inferInstance : TyI prog 188 2 16 (.agg #[.int .i64 0,.int .i64 0]) true) rfl (underlying188)
theorem d63 : TyOk prog 194 ⟨1,24,false,x9 (.slice none 0 0),.slice 98⟩:=B7 (inferInstance : TyI prog 194 1 24 (.slice none 0 0) false) rfl (underlying194)
def env : Env:=[(2,⟨1,8,false,x9 (.int .i64 0),.int .i64⟩),(3,⟨1,8,false,x9 (.int .i64 0),.int .i64⟩),(4,⟨1,1,false,x9 (.bool false),.bool⟩),(9,⟨1,16,false,x9 (.string { data:=#[] }),.str⟩),(23,⟨6,48,true,x9 (.agg #[.int .i64 0,.int .i64 0,.int .i64 0,.int .i64 0,.int .i64 0,.int .i64 0]),.array 6 3⟩),(24,⟨9,72,true,x9 (.agg #[.int .i64 0,.int .i64 0,.int .i64 0,.int .i64 0,.int .i64 0,.int .i64 0,.int .i64 0,.int .i64 0,.int .i64 0]),.array 9 3⟩),(26,⟨1,24,false,x9 (.slice none 0 0),.slice 3⟩),(28,⟨2,32,true,x9 (.agg #[.bool false,.slice none 0 0]),.struct [(0,1,false),(1,1,false)]⟩),(30,⟨4,64,true,x9 (.agg #[.bool false,.slice none 0 0,.bool false,.slice none 0 0]),.struct [(0,2,true),(2,2,true)]⟩),(31,⟨12,192,true,x9 (.agg #[.bool false,.slice none 0 0,.bool false,.slice none 0 0,.bool false,.slice none 0 0,.bool false,.slice none 0 0,.bool false,.slice none 0 0,.bool false,.slice none 0 0]),.array 3 30⟩),(33,⟨36,576,true,x9 (.agg #[.bool false,.slice none 0 0,.bool false,.slice none 0 0,.bool false,.slice none 0 0,.bool false,.slice none 0 0,.bool false,.slice none 0 0,.bool false,.slice none 0 0,.bool false,.slice none 0 0,.bool false,.slice none 0 0,.bool false,.slice none 0 0,.bool false,.slice none 0 0,.bool false,.slice none 0 0,.bool false,.slice none 0 0,.bool false,.slice none 0 0,.bool false,.slice none 0 0,.bool false,.slice none 0 0,.bool false,.slice none 0 0,.bool false,.slice none 0 0,.bool false,.slice none 0 0]),.array 3 31⟩),(36,⟨24,384,true,x9 (.agg #[.bool false,.slice none 0 0,.bool false,.slice none 0 0,.bool false,.slice none 0 0,.bool false,.slice none 0 0,.bool false,.slice none 0 0,.bool false,.slice none 0 0,.bool false,.slice none 0 0,.bool false,.slice none 0 0,.bool false,.slice none 0 0,.bool false,.slice none 0 0,.bool false,.slice none 0 0,.bool false,.slice none 0 0]),.array 6 30⟩),(39,⟨12,192,true,x9 (.agg #[.bool false,.slice none 0 0,.bool false,.slice none 0 0,.bool false,.slice none 0 0,.bool false,.slice none 0 0,.bool false,.slice none 0 0,.bool false,.slice none 0 0]),.array 3 30⟩),(46,⟨1,8,false,x9 (.int .u64 0),.int .u64⟩),(51,⟨2,32,true,x9 (.agg #[.bool false,.slice none 0 0]),.struct [(0,1,false),(1,1,false)]⟩),(53,⟨3,56,true,x9 (.agg #[.bool false,.slice none 0 0,.slice none 0 0]),.struct [(0,2,true),(2,1,false)]⟩),(54,⟨9,168,true,x9 (.agg #[.bool false,.slice none 0 0,.slice none 0 0,.bool false,.slice none 0 0,.slice none 0 0,.bool false,.slice none 0 0,.slice none 0 0]),.array 3 53⟩),(55,⟨9,168,true,x9 (.agg #[.bool false,.slice none 0 0,.slice none 0 0,.bool false,.slice none 0 0,.slice none 0 0,.bool false,.slice none 0 0,.slice none 0 0]),.array 3 53⟩),(56,⟨1,8,false,x9 (.int .i64 0),.int .i64⟩),(60,⟨18,336,true,x9 (.agg #[.bool false,.slice none 0 0,.slice none 0 0,.bool false,.slice none 0 0,.slice none 0 0,.bool false,.slice none 0 0,.slice none 0 0,.bool false,.slice none 0 0,.slice none 0 0,.bool false,.slice none 0 0,.slice none 0 0,.bool false,.slice none 0 0,.slice none 0 0]),.array 6 53⟩),(70,⟨54,1008,true,x9 (.agg #[.bool false,.slice none 0 0,.slice none 0 0,.bool false,.slice none 0 0,.slice none 0 0,.bool false,.slice none 0 0,.slice none 0 0,.bool false,.slice none 0 0,.slice none 0 0,.bool false,.slice none 0 0,.slice none 0 0,.bool false,.slice none 0 0,.slice none 0 0,.bool false,.slice none 0 0,.slice none 0 0,.bool false,.slice none 0 0,.slice none 0 0,.bool false,.slice none 0 0,.slice none 0 0,.bool false,.slice none 0 0,.slice none 0 0,.bool false,.slice none 0 0,.slice none 0 0,.bool false,.slice none 0 0,.slice none 0 0,.bool false,.slice none 0 0,.slice none 0 0,.bool false,.slice none 0 0,.slice none 0 0,.bool false,.slice none 0 0,.slice none 0 0,.bool false,.slice none 0 0,.slice none 0 0,.bool false,.slice none 0 0,.slice none 0 0,.bool false,.slice none 0 0,.slice none 0 0]),.array 6 55⟩),(76,⟨6,48,true,x9 (.agg #[.int .i64 0,.int .i64 0,.int .i64 0,.int .i64 0,.int .i64 0,.int .i64 0]),.array 6 3⟩),(77,⟨12,96,true,x9 (.agg #[.int .i64 0,.int .i64 0,.int .i64 0,.int .i64 0,.int .i64 0,.int .i64 0,.int .i64 0,.int .i64 0,.int .i64 0,.int .i64 0,.int .i64 0,.int .i64 0]),.array 2 76⟩),(78,⟨30,240,true,x9 (.agg #[.int .i64 0,.int .i64 0,.int .i64 0,.int .i64 0,.int .i64 0,.int .i64 0,.int .i64 0,.int .i64 0,.int .i64 0,.int .i64 0,.int .i64 0,.int .i64 0,.int .i64 0,.int .i64 0,.int .i64 0,.int .i64 0,.int .i64 0,.int .i64 0,.int .i64 0,.int .i64 0,.int .i64 0,.int .i64 0,.int .i64 0,.int .i64 0,.int .i64 0,.int .i64 0,.int .i64 0,.int .i64 0,.int .i64 0,.int .i64 0]),.array 5 76⟩),(87,⟨45,840,true,x9 (.agg #[.bool false,.slice none 0 0,.slice none 0 0,.bool false,.slice none 0 0,.slice none 0 0,.bool false,.slice none 0 0,.slice none 0 0,.bool false,.slice none 0 0,.slice none 0 0,.bool false,.slice none 0 0,.slice none 0 0,.bool false,.slice none 0 0,.slice none 0 0,.bool false,.slice none 0 0,.slice none 0 0,.bool false,.slice none 0 0,.slice none 0 0,.bool false,.slice none 0 0,.slice none 0 0,.bool false,.slice none 0 0,.slice none 0 0,.bool false,.slice none 0 0,.slice none 0 0,.bool false,.slice none 0 0,.slice none 0 0,.bool false,.slice none 0 0,.slice none 0 0,.bool false,.slice none 0 0,.slice none 0 0,.bool false,.slice none 0 0,.slice none 0 0]),.array 5 55⟩),(98,⟨27,504,true,x9 (.agg #[.bool false,.slice none 0 0,.slice none 0 0,.bool false,.slice none 0 0,.slice none 0 0,.bool false,.slice none 0 0,.slice none 0 0,.bool false,.slice none 0 0,.slice none 0 0,.bool false,.slice none 0 0,.slice none 0 0,.bool false,.slice none 0 0,.slice none 0 0,.bool false,.slice none 0 0,.slice none 0 0,.bool false,.slice none 0 0,.slice none 0 0,.bool false,.slice none 0 0,.slice none 0 0]),.array 3 54⟩),(128,⟨1,24,false,x9 (.slice none 0 0),.slice 30⟩),(135,⟨1,24,false,x9 (.slice none 0 0),.slice 55⟩),(136,⟨27,504,true,x9 (.agg #[.bool false,.slice none 0 0,.slice none 0 0,.bool false,.slice none 0 0,.slice none 0 0,.bool false,.slice none 0 0,.slice none 0 0,.bool false,.slice none 0 0,.slice none 0 0,.bool false,.slice none 0 0,.slice none 0 0,.bool false,.slice none 0 0,.slice none 0 0,.bool false,.slice none 0 0,.slice none 0 0,.bool false,.slice none 0 0,.slice none 0 0,.bool false,.slice none 0 0,.slice none 0 0]),.array 3 55⟩),(162,⟨1,8,true,x9 (.agg #[.int .i64 0]),.struct [(0,1,false)]⟩),(165,⟨1,24,false,x9 (.slice none 0 0),.slice 53⟩),(178,⟨4,64,true,x9 (.agg #[.bool false,.slice none 0 0,.slice none 0 0,.bool false]),.struct [(0,3,true),(3,1,false)]⟩),(188,⟨2,16,true,x9 (.agg #[.int .i64 0,.int .i64 0]),.array 2 3⟩),(194,⟨1,24,false,x9 (.slice none 0 0),.slice 98⟩)]
theorem b9 : EnvOk prog env:=r0 ty2 (r0 ty3 (r0 ty4 (r0 ty9 (r0 fd4 (r0 fb6 (r0 fa6 (r0 fa2 (r0 fb9 (r0 fc0 (r0 fc1 (r0 fa7 (r0 d98 (r0 fa8 (r0 fa1 (r0 fa9 (r0 fc2 (r0 fb1 (r0 fb7 (r0 d99 (r0 fb3 (r0 d96 (r0 fb2 (r0 fc5 (r0 fc3 (r0 fc6 (r0 d80 (r0 d55 (r0 d67 (r0 d66 (r0 d78 (r0 d72 (r0 d71 (r0 d63 (cw9))))))))))))))))))))))))))))))))))
end Go.Proofs.YtmkhgjccoolfjaaGreatDoor
end
section
namespace Go.Proofs.YtmkhgjccoolfjaaGreatDoor
open Go Go.RowKit Tryz
inductive HRec where
 | val (d : Nat) (sv : (Nat → Value) → SV)
 | mk (d : Nat) (T : TypeId) (l : (Nat → Value) → List Ch)
 | spec (d : Nat) (p : Value → SV) (Δ : Value → Gh)
 | st (k : Nat) (l : (Nat → Value) → List Ch)
 | same
 | sto (b : Nat) (T : TypeId) (l0 : List Ch) (l : (Nat → Value) → List Ch)
def HRec.d : HRec → Option Nat
 | .val d _=>some d
 | .mk d _ _=>some d
 | .spec d _ _=>some d
 | .st _ _=>none
 | .same=>none
 | .sto _ _ _ _=>none
def cnt : List HRec → Nat
 | []=>0
 | .mk _ _ _ :: r=>cnt r + 1
 | .val _ _ :: r=>cnt r
 | .spec _ _ _ :: r=>cnt r
 | .st _ _ :: r=>cnt r
 | .same :: r=>cnt r
 | .sto _ _ _ _ :: r=>cnt r
def HRec.sv (m0 m n : Nat) (η : Nat → Value) : HRec → SV
 | .val _ sv=>sv η
 | .mk _ _ _=>.one (.ptr (m0 + m) 0)
 | .spec _ p _=>p (η n)
 | .st _ _=>.und
 | .same=>.und
 | .sto _ _ _ _=>.und
def a16 (m0 : Nat) (η : Nat → Value) : List HRec → List (Nat × SV)
 | []=>[]
 | h :: r=>match h.d with | some d=>(d,h.sv m0 (cnt r) r.length η) :: a16 m0 η r | none=>a16 m0 η r
def frH (st : St) (acc : List HRec) (η : Nat → Value) : List (Nat × SV):=a16 st.hp.length η acc ++ st.fr
def aj3 : List HRec → Nat → Option ((Nat → Value) → List Ch)
 | [],_=>none
 | .st k l :: r,j=>bif Nat.beq k j then some l else aj3 r j
 | .val _ _ :: r,j=>aj3 r j
 | .mk _ _ _ :: r,j=>aj3 r j
 | .spec _ _ _ :: r,j=>aj3 r j
 | .same :: r,j=>aj3 r j
 | .sto _ _ _ _ :: r,j=>aj3 r j
def X8 (F : Nat → Option ((Nat → Value) → List Ch)) (η : Nat → Value) : List HRec → List HE
 | []=>[]
 | .mk _ T l :: r=>X8 F η r ++ [.blk T (((F r.length).getD l) η)]
 | .val _ _ :: r=>X8 F η r
 | .spec _ _ _ :: r=>X8 F η r
 | .st _ _ :: r=>X8 F η r
 | .same :: r=>X8 F η r
 | .sto _ _ _ _ :: r=>X8 F η r
def S9 (η : Nat → Value) (acc : List HRec) : List HE:=X8 (aj3 acc) η acc
def aj8 (G : Gh) (η : Nat → Value) : List HRec → Gh
 | []=>G
 | .spec _ _ Δ :: r=>(Δ (η r.length)).and (aj8 G η r)
 | .val _ _ :: r=>aj8 G η r
 | .mk _ _ _ :: r=>aj8 G η r
 | .st _ _ :: r=>aj8 G η r
 | .same :: r=>aj8 G η r
 | .sto _ _ _ _ :: r=>aj8 G η r
def aj9 : List HRec → List Nat
 | []=>[]
 | .sto b _ _ _ :: r=>b :: aj9 r
 | .val _ _ :: r=>aj9 r
 | .mk _ _ _ :: r=>aj9 r
 | .spec _ _ _ :: r=>aj9 r
 | .st _ _ :: r=>aj9 r
 | .same :: r=>aj9 r
def R7 (η : Nat → Value) : List HRec → List HE → List HE
 | [],hp=>hp
 | .sto b T _ l :: r,hp=>ae1 (R7 η r hp) b (.blk T (l η))
 | .val _ _ :: r,hp=>R7 η r hp
 | .mk _ _ _ :: r,hp=>R7 η r hp
 | .spec _ _ _ :: r,hp=>R7 η r hp
 | .st _ _ :: r,hp=>R7 η r hp
 | .same :: r,hp=>R7 η r hp
def HE.hide : HE → HE
 | .blk T l=>.hid T l
 | e=>e
def co2 : List HE → Nat → List HE
 | [],_=>[]
 | h :: r,0=>h.hide :: r
 | h :: r,i + 1=>h :: co2 r i
def am1 : List Nat → List HE → List HE
 | [],hp=>hp
 | b :: r,hp=>co2 (am1 r hp) b
def bb7 : List HE → Bool
 | []=>true
 | .hid _ _ :: _=>false
 | .blk _ _ :: r=>bb7 r
 | .row _ _ _ _ _ :: r=>bb7 r
 | .gone :: r=>bb7 r
 | .abs _ :: r=>bb7 r
def dh9 : List Nat → Nat → Bool
 | [],_=>false
 | b :: r,i=>bif Nat.beq b i then true else dh9 r i
def cu1 (η : Nat → Value) : List HRec → Nat → Gh
 | [],_=>.nil
 | h :: r,j=>bif Nat.beq r.length j then (match h with | .spec _ _ Δ=>Δ (η j) | _=>.nil) else cu1 η r j
structure depsH (acc : List HRec) (es : List Edge) (η : Nat → Value) (S : Nat → Prop) (w : World) : Prop where
 all : ∀ j,F5 es j = true → (cu1 η acc j).p S w
noncomputable def cb4 (E : Env) (hp : List HE) (fr : List (Nat × SV)) (o : Oper) : Option (SV × List Prop):=match bd9 (dq6 E fr hp o.op) with | some (.put s vc)=>some (s,vc) | _=>none
noncomputable def ad6 (E : Env) (hp : List HE) (all : List Oper) (fr : List (Nat × SV)) (o : Oper) : Option (SV × List Prop):=
 match o.guard with
 | none=>cb4 E hp fr o
 | some (j,want)=>match H6 all j with
  | none=>none
  | some g=>match L7 fr g with
   | some (.one (.bb x))=>bif x == want then cb4 E hp fr o else some (.und,[])
   | some .und=>some (.und,[])
   | _=>none
def I7 (all : List Oper) (fr : List (Nat × SV)) (o : Oper) : Bool:=
 match o.guard with
 | none=>true
 | some (j,want)=>match H6 all j with
  | none=>false
  | some g=>match L7 fr g with | some (.one (.bb x))=>x == want | _=>false
def cb9 (E : Env) (fr : List (Nat × SV)) (k : Nat) : Op → Option Eff
 | .alloc T=>ay0 (ar9 E T k)
 | .box T x=>ay0 (bi6 T k (opd fr x))
 | _=>none
def bi4 (E : Env) (fr : List (Nat × SV)) (b : Nat) (lc : List Ch) : Op → Option (List Ch)
 | .store T' x y=>match opd fr x,opd fr y,E.get T' with
  | some (.one (.ptr b' o)),some yv,some ti=>match yv.chunks with
   | some new=>bif Nat.beq b b' && Nat.beq (aa5 new) ti.size then stL lc o ti.size new else none
   | none=>none
  | _,_,_=>none
 | _=>none
theorem b93 {P : Program} {E : Env} {β : Nat → Nat} {m b : Nat} {T : TypeId} {fr : List (Nat × SV)} {w : World} {ty : TypeId} {ρ : Operand → Value} {o : Op} {lc l' : List Ch} (hE : EnvOk P E) (hk : ah6 β m fr ρ o) (hok : ∀ c ∈ lc,c.Ok m) (hb : Blk w (β b) T (d8 β lc)) (h : bi4 E fr b lc o = some l') :
  (∀ c ∈ l',c.Ok m) ∧ ∃ w',Wrt (β b) w w' ∧ Blk w' (β b) T (d8 β l') ∧ ∀ d pos aft g,(execOp ρ ⟨d,o,ty,pos,aft,g⟩).run P w = .ok .skip w':=by
 unfold bi4 at h
 split at h <;> first | (cases h; done) | skip
 rename_i T' x y
 have hx:=hk x (by simp [Op.operands])
 have hy:=hk y (by simp [Op.operands])
 split at h <;> first | (cases h; done) | skip
 rename_i b' o yv ti e1 e2 e3
 have h1:=(hx _ e1).1
 have h2:=hy _ e2
 split at h <;> first | (cases h; done) | skip
 rename_i new e4
 cases hs : (Nat.beq b b' && Nat.beq (aa5 new) ti.size) with
 | false=>rw [hs] at h; cases h
 | true=>
  rw [hs] at h
  simp only [cond_true] at h
  simp only [Bool.and_eq_true] at hs
  obtain rfl:=Nat.eq_of_beq_eq_true hs.1
  have hsz:=Nat.eq_of_beq_eq_true hs.2
  obtain ⟨h3,h4⟩:=SV.chunks_ok (β:=β) e4 h2.2
  obtain ⟨h5,h6,h7⟩:=bw3 (β:=β) h hok h4
  obtain ⟨z,hty,_⟩:=(hE.get e3).ty
  have hlen:=R4 (β:=β) h4
  have h8:=run_storeCells_at P (β b) o T (d8 β new) 0 (d8 β lc).toArray w hb (by simp; omega) (ag8 h4)
  have e9 : ((d8 β lc).toArray.toList.take (o + 0) ++ d8 β new ++ (d8 β lc).toArray.toList.drop (o + 0 + (d8 β new).length)).toArray = (d8 β l').toArray:=by
   rw [← h5]
   simp [hlen,hsz]
  rw [e9] at h8
  refine ⟨h7,w.setRow (β b) (d8 β l').toArray,⟨rfl,rfl,rfl,by simp [World.setRow],fun k _ hk=>setRow_other w _ k _ hk⟩,setRow_heap w _ _ _ T (0,0) hb,fun d pos aft g=>?_⟩
  have e10 : (d8 β new).length = ti.size:=by omega
  have h11 : ρ x = .pointer (some ⟨β b,o,none⟩):=h1
  simp [execOp,h11,h2.1,Instr.storeAt,Instr.sureAddr,storeVar,hty.runSize w,h3,e10,h8]
def b95 (P : Program) (σ : Operand → Value) (o : Oper) (w : World) (Ψ : Value → World → Prop) (Φ : List PanicEntry → World → Prop) : Prop:=
 match (execOp σ o).run P w with
 | .ok (.value v) w'=>Ψ v w'
 | .ok (.enter f args) w'=>GivesE P f args.toList w' Ψ Φ
 | _=>False
def Loc (c : Cx) (st : St) (G : Gh) (all : List Oper) (acc : List HRec) (o : Oper) : HRec → Prop
 | .val d sv=>o.dst = some d ∧ ∀ η,∃ s vc,ad6 c.E st.hp all (frH st acc η) o = some (s,vc) ∧
   ∀ S w,Keeps c.K c.w0 w → (∀ k,S k → c.S0 k) → G.p S w → depsH acc o.after.toList η S w → O0 vc ∧ ∀ β,s.den β = (sv η).den β ∧ ∀ m,s.Ok m → (sv η).Ok m
 | .mk d T l=>o.dst = some d ∧ ∀ η,I7 all (frH st acc η) o = true ∧ cb9 c.E (frH st acc η) (st.hp.length + cnt acc) o.op = some (.mk T (l η) (.one (.ptr (st.hp.length + cnt acc) 0)))
 | .st k l=>o.dst = none ∧ F5 o.after.toList k = true ∧ (∀ j l',acc.reverse[j]? = some (.st k l') → F5 o.after.toList j = true) ∧ ∃ d T lc,acc.reverse[k]? = some (.mk d T lc) ∧
   ∀ η,I7 all (frH st acc η) o = true ∧ bi4 c.E (frH st acc η) (st.hp.length + cnt (acc.drop (acc.length - k))) (((aj3 acc k).getD lc) η) o.op = some (l η)
 | .same=>o.dst = none ∧ ∀ η,I7 all (frH st acc η) o = true ∧ ∀ β F w m,ah6 β m (frH st acc η) (ev F) o.op → Mem c.bs st.hp β w → (execOp (ev F) o).run c.P w = .ok .skip w
 | .sto b T l0 l=>o.dst = none ∧ dh9 (aj9 acc) b = false ∧ nth st.hp b = some (.hid T l0) ∧ ∀ η,I7 all (frH st acc η) o = true ∧ bi4 c.E (frH st acc η) b l0 o.op = some (l η)
 | .spec d p Δ=>o.dst = some d ∧ ∀ η,I7 all (frH st acc η) o = true ∧ ∀ β S w F m,ah6 β m (frH st acc η) (ev F) o.op → Up S w → Mem c.bs st.hp β w → (∀ k,S k → c.S0 k) → Keeps c.K c.w0 w → G.p S w → depsH acc o.after.toList η S w →
   b95 c.P (ev F) o w (fun v w'=>Ext w w' ∧ v = (p v).den (fun _=>0) ∧ (p v).Ok 0 ∧ (Δ v).p S w') fun ch w'=>∀ ρ,c.Q (.panic ch) ρ w'
def HdI (c : Cx) (st : St) (G : Gh) (all : List Oper) (K : List HRec → Prop) : List HRec → List Oper → Prop
 | acc,[]=>K acc
 | acc,o :: r=>∃ h,Loc c st G all acc o h ∧ HdI c st G all K (h :: acc) r
structure Hd (c : Cx) (st : St) (G : Gh) (all : List Oper) (K : List HRec → Prop) (acc : List HRec) (ops : List Oper) : Prop where
 run : HdI c st G all K acc ops
theorem dl8 {c : Cx} {st : St} {G : Gh} {all : List Oper} {K : List HRec → Prop} : ∀ (r : List Oper) (acc : List HRec),HdI c st G all K acc r →
  ∃ L : List HRec,L.length = r.length ∧ K (L.reverse ++ acc) ∧ ∀ k (hk : k < r.length),∃ h,L[k]? = some h ∧ Loc c st G all ((L.take k).reverse ++ acc) r[k] h:=by
 intro r
 induction r with
 | nil=>intro acc h; exact ⟨[],rfl,h,fun k hk=>absurd hk (by simp)⟩
 | cons o r ih=>
  rintro acc ⟨h0,hl,hr⟩
  obtain ⟨L,h1,h2,h3⟩:=ih _ hr
  refine ⟨h0 :: L,by simp [h1],by simpa using h2,fun k hk=>?_⟩
  cases k with
  | zero=>exact ⟨h0,rfl,by simpa using hl⟩
  | succ k=>
   obtain ⟨h,h4,h5⟩:=h3 k (by simpa using hk)
   exact ⟨h,by simpa using h4,by simpa using h5⟩
section
variable {m0 : Nat} {η : Nat → Value}
theorem bb9 {a b : List (Nat × SV)} {d : Nat} : L7 (a ++ b) d = match L7 a d with | some s=>some s | none=>L7 b d:=by
 induction a with
 | nil=>rfl
 | cons p r ih=>
  obtain ⟨i,x⟩:=p
  rw [List.cons_append,I2,I2]
  split
  ·rfl
  exact ih
theorem ch8 : ∀ {acc : List HRec} {d : Nat} {s : SV},L7 (a16 m0 η acc) d = some s → ∃ n h r,acc.drop n = h :: r ∧ h.d = some d ∧ s = h.sv m0 (cnt r) r.length η:=by
 intro acc
 induction acc with
 | nil=>intro d s h; cases h
 | cons x r ih=>
  intro d s h
  have next : L7 (a16 m0 η r) d = some s → ∃ n h r',(x :: r).drop n = h :: r' ∧ h.d = some d ∧ s = h.sv m0 (cnt r') r'.length η:=fun h=>by
   obtain ⟨n,y,q,h1,h2,h3⟩:=ih h
   exact ⟨n + 1,y,q,by simpa using h1,h2,h3⟩
  simp only [a16] at h
  cases hx : x.d with
  | none=>rw [hx] at h; exact next h
  | some d'=>
   rw [hx] at h
   simp only at h
   rw [I2] at h
   split at h
   ·rename_i e
    simp only [Option.some.injEq] at h
    exact ⟨0,x,r,rfl,by rw [hx,e],h.symm⟩
   exact next h
theorem bd7 : ∀ {acc : List HRec} {d : Nat},L7 (a16 m0 η acc) d = none → ∀ h ∈ acc,h.d ≠ some d:=by
 intro acc
 induction acc with
 | nil=>intro d h x hx; cases hx
 | cons x r ih=>
  intro d h y hy
  simp only [a16] at h
  cases hx : x.d with
  | none=>
   rw [hx] at h
   rcases List.mem_cons.1 hy with rfl | hy
   ·rw [hx]; simp
   exact ih h y hy
  | some d'=>
   rw [hx] at h
   simp only at h
   rw [I2] at h
   split at h
   ·cases h
   rename_i e
   rcases List.mem_cons.1 hy with rfl | hy
   ·rw [hx]; simpa using e
   exact ih h y hy
theorem co1 {F : Nat → Option ((Nat → Value) → List Ch)} : ∀ {acc : List HRec},(X8 F η acc).length = cnt acc:=by
 intro acc
 induction acc with
 | nil=>rfl
 | cons h r ih=>cases h <;> simp [X8,cnt,ih]
theorem de2 {acc : List HRec} : (S9 η acc).length = cnt acc:=co1
theorem df6 : ∀ {acc : List HRec} {n : Nat},cnt (acc.drop n) ≤ cnt acc:=by
 intro acc
 induction acc with
 | nil=>intro n; simp
 | cons h r ih=>
  intro n
  cases n with
  | zero=>exact Nat.le_refl _
  | succ n=>have:=@ih n; cases h <;> simp only [List.drop_succ_cons,cnt] <;> omega
theorem cg8 {F : Nat → Option ((Nat → Value) → List Ch)} : ∀ {acc : List HRec} {j : Nat} {x : HE},(X8 F η acc)[j]? = some x → ∃ n d T l r,acc.drop n = .mk d T l :: r ∧ cnt r = j ∧ x = .blk T (((F r.length).getD l) η):=by
 intro acc
 induction acc with
 | nil=>intro j x h; simp [X8] at h
 | cons y r ih=>
  intro j x h
  have next : (X8 F η r)[j]? = some x → ∃ n d T l q,(y :: r).drop n = .mk d T l :: q ∧ cnt q = j ∧ x = .blk T (((F q.length).getD l) η):=fun h=>by
   obtain ⟨n,d',T,l,q,h1,h2,h3⟩:=ih h
   exact ⟨n + 1,d',T,l,q,by simpa using h1,h2,h3⟩
  cases y with
  | val d sv=>exact next h
  | spec d p Δ=>exact next h
  | st k l=>exact next h
  | same=>exact next h
  | sto b T l0 l=>exact next h
  | mk d T l=>
   simp only [X8] at h
   by_cases hj : j < (X8 F η r).length
   ·rw [List.getElem?_append_left hj] at h
    exact next h
   have hl:=(List.getElem?_eq_some_iff.1 h).1
   simp at hl
   have e : j = (X8 F η r).length:=by omega
   subst e
   simp at h
   exact ⟨0,d,T,l,r,rfl,co1.symm,h.symm⟩
theorem cx9 {acc : List HRec} {j : Nat} {x : HE} (h : (S9 η acc)[j]? = some x) : ∃ n d T l r,acc.drop n = .mk d T l :: r ∧ cnt r = j ∧ x = .blk T (((aj3 acc r.length).getD l) η):=cg8 h
theorem du0 {G : Gh} {S : Nat → Prop} {w : World} : ∀ {acc : List HRec},G.p S w → (∀ n d p Δ r,acc.drop n = .spec d p Δ :: r → (Δ (η r.length)).p S w) → (aj8 G η acc).p S w:=by
 intro acc
 induction acc with
 | nil=>intro h _; exact h
 | cons y r ih=>
  intro h k
  have h2:=ih h fun n d p Δ q hq=>k (n + 1) d p Δ q (by simpa using hq)
  cases y with
  | val d sv=>exact h2
  | mk d T l=>exact h2
  | st k l=>exact h2
  | same=>exact h2
  | sto b T l0 l=>exact h2
  | spec d p Δ=>exact ⟨k 0 d p Δ r rfl,h2⟩
theorem du8 {S : Nat → Prop} {w : World} {j : Nat} : ∀ {acc : List HRec},(∀ n d p Δ r,acc.drop n = .spec d p Δ :: r → r.length = j → (Δ (η j)).p S w) → (cu1 η acc j).p S w:=by
 intro acc
 induction acc with
 | nil=>intro _; trivial
 | cons y r ih=>
  intro k
  simp only [cu1]
  cases hb : Nat.beq r.length j with
  | true=>
   have e:=Nat.eq_of_beq_eq_true hb
   cases y with
   | val d sv=>trivial
   | mk d T l=>trivial
   | st k l=>trivial
   | same=>trivial
   | sto b T l0 l=>trivial
   | spec d p Δ=>exact k 0 d p Δ r rfl e
  | false=>exact ih fun n d p Δ q hq=>k (n + 1) d p Δ q (by simpa using hq)
end
theorem cz2 {k : Nat} {l : (Nat → Value) → List Ch} : ∀ {acc : List HRec},aj3 acc k = some l → ∃ n : Nat,acc[n]? = some (HRec.st k l) ∧ ∀ (m : Nat) l',m < n → acc[m]? ≠ some (HRec.st k l'):=by
 intro acc
 induction acc with
 | nil=>intro h; cases h
 | cons x r ih=>
  intro h
  have next : aj3 r k = some l → (∀ l',x ≠ .st k l') → ∃ n : Nat,(x :: r)[n]? = some (HRec.st k l) ∧ ∀ (m : Nat) l',m < n → (x :: r)[m]? ≠ some (HRec.st k l'):=fun h hx=>by
   obtain ⟨n,h1,h2⟩:=ih h
   refine ⟨n + 1,by simpa using h1,fun m l' hm=>?_⟩
   cases m with
   | zero=>simpa using hx l'
   | succ m=>simpa using h2 m l' (by omega)
  cases x with
  | val d sv=>exact next h fun l' e=>by cases e
  | mk d T lc=>exact next h fun l' e=>by cases e
  | spec d p Δ=>exact next h fun l' e=>by cases e
  | same=>exact next h fun l' e=>by cases e
  | sto b T l0 lq=>exact next h fun l' e=>by cases e
  | st k' l2=>
   simp only [aj3] at h
   cases hb : Nat.beq k' k with
   | true=>
    rw [hb] at h
    simp only [cond_true,Option.some.injEq] at h
    obtain rfl:=Nat.eq_of_beq_eq_true hb
    subst h
    exact ⟨0,rfl,fun m l' hm=>absurd hm (Nat.not_lt_zero m)⟩
   | false=>
    rw [hb] at h
    refine next h fun l' e=>?_
    cases e
    simp at hb
theorem cr2 {k : Nat} : ∀ {acc : List HRec},aj3 acc k = none → ∀ (m : Nat) l',acc[m]? ≠ some (HRec.st k l'):=by
 intro acc
 induction acc with
 | nil=>intro h m l'; simp
 | cons x r ih=>
  intro h m l'
  have next : aj3 r k = none → (∀ l',x ≠ .st k l') → (x :: r)[m]? ≠ some (HRec.st k l'):=fun h hx=>by
   cases m with
   | zero=>simpa using hx l'
   | succ m=>simpa using ih h m l'
  cases x with
  | val d sv=>exact next h fun l' e=>by cases e
  | mk d T lc=>exact next h fun l' e=>by cases e
  | spec d p Δ=>exact next h fun l' e=>by cases e
  | same=>exact next h fun l' e=>by cases e
  | sto b T l0 lq=>exact next h fun l' e=>by cases e
  | st k' l2=>
   simp only [aj3] at h
   cases hb : Nat.beq k' k with
   | true=>rw [hb] at h; cases h
   | false=>
    rw [hb] at h
    refine next h fun l' e=>?_
    cases e
    simp at hb
theorem dk9 [Rd] {c : Cx} {base : Bs} {hp : List HE} {all : List Oper} {fr : List (Nat × SV)} {o : Oper} {s : SV} {vc : List Prop} {β : Nat → Nat} {m n : Nat} {D : List Deferred} {a : Act} {ρ : Fr} {w : World} (hE : EnvOk c.P c.E) (hle : hp.length ≤ m) (hall : all.all (ad9 n) = true) (hm : MtI n D a ρ) (hM : Mem base hp β w)
  (hk : ah6 β m fr (ev ρ) o.op) (hg : ∀ j b,o.guard = some (j,b) → ∀ g,H6 all j = some g → Kn β m (L7 fr g) (ρ g)) (h : ad6 c.E hp all fr o = some (s,vc)) (hv : O0 vc) :
  s.Ok m ∧ ((Region.wanted o (yielded all.toArray a.tmps) = true ∧ (execOp (ev ρ) o).run c.P w = .ok (.value (s.den β)) w) ∨ (Region.wanted o (yielded all.toArray a.tmps) = false ∧ s.den β = undef)):=by
 obtain ⟨dst,op,ty,pos,aft,g⟩:=o
 have hput' : cb4 c.E hp fr ⟨dst,op,ty,pos,aft,g⟩ = some (s,vc) → s.Ok m ∧ (execOp (ev ρ) ⟨dst,op,ty,pos,aft,g⟩).run c.P w = .ok (.value (s.den β)) w:=by
  intro h
  unfold cb4 at h
  simp only at h
  split at h <;> first | (cases h; done) | skip
  rename_i s' vc' he
  simp only [Option.some.injEq,Prod.mk.injEq] at h
  obtain ⟨rfl,rfl⟩:=h
  obtain ⟨h1,h2⟩:=bv1 (P:=c.P) (ty:=ty) hle hE hM hk (ah7 he).1 hv
  exact ⟨h2,h1 _ _ _ _⟩
 unfold ad6 at h
 simp only at h
 split at h
 ·obtain ⟨h1,h2⟩:=hput' h
  exact ⟨h1,.inl ⟨rfl,h2⟩⟩
 rename_i j want
 split at h <;> first | (cases h; done) | skip
 rename_i gs hd
 have hkg:=hg j want rfl gs hd
 split at h <;> first | (cases h; done) | skip
 ·rename_i x hx
  have hv1 : ρ gs = .bool x:=(hkg _ hx).1
  have hy:=ai8 hall hm hd hv1
  cases hb : (x == want) with
  | true=>
   rw [hb] at h
   obtain ⟨h1,h2⟩:=hput' h
   refine ⟨h1,.inl ⟨?_,h2⟩⟩
   unfold Region.wanted
   simp only [hy]
   have:=eq_of_beq hb
   subst this
   simp
  | false=>
   rw [hb] at h
   simp only [cond_false,Option.some.injEq,Prod.mk.injEq] at h
   obtain ⟨rfl,rfl⟩:=h
   refine ⟨trivial,.inr ⟨?_,rfl⟩⟩
   unfold Region.wanted
   simp only [hy]
   simpa using hb
 rename_i hx
 have hv1 : ρ gs = undef:=(hkg _ hx).1
 have hy:=as1 hall hm hd hv1
 simp only [Option.some.injEq,Prod.mk.injEq] at h
 obtain ⟨rfl,rfl⟩:=h
 refine ⟨trivial,.inr ⟨?_,rfl⟩⟩
 unfold Region.wanted
 simp only [hy]
 rfl
theorem ac3 [Rd] {all : List Oper} {fr : List (Nat × SV)} {o : Oper} {β : Nat → Nat} {m n : Nat} {D : List Deferred} {a : Act} {ρ : Fr} (hall : all.all (ad9 n) = true) (hm : MtI n D a ρ)
  (hg : ∀ j b,o.guard = some (j,b) → ∀ g,H6 all j = some g → Kn β m (L7 fr g) (ρ g)) (h : I7 all fr o = true) : Region.wanted o (yielded all.toArray a.tmps) = true:=by
 obtain ⟨dst,op,ty,pos,aft,g⟩:=o
 unfold I7 at h
 unfold Region.wanted
 simp only at h hg ⊢
 split at h
 ·rfl
 rename_i j want
 split at h <;> first | (cases h; done) | skip
 rename_i gs hd
 split at h <;> first | (cases h; done) | skip
 rename_i x hx
 have hv1 : ρ gs = .bool x:=((hg j want rfl gs hd) _ hx).1
 simp only [ai8 hall hm hd hv1]
 have:=eq_of_beq h
 subst this
 simp
section
variable {L : List HRec}
abbrev D2 (L : List HRec) (k : Nat) : List HRec:=(L.take k).reverse
theorem ab3 {k : Nat} (h : k ≤ L.length) : (D2 L k).length = k:=by simp; omega
theorem ax2 {i k : Nat} {h : HRec} (hi : i ≤ L.length) (hk : k < i) (hh : L[k]? = some h) : (D2 L i).drop (i - 1 - k) = h :: D2 L k:=by
 have hkl : k < L.length:=by omega
 have e : L.take i = L.take k ++ h :: (L.take i).drop (k + 1):=by
  have h1 : L[k] = h:=by rw [List.getElem?_eq_getElem hkl] at hh; exact Option.some.inj hh
  have h2 : (L.take i).drop k = h :: (L.take i).drop (k + 1):=by
   rw [List.drop_eq_getElem_cons (by simp; omega)]
   congr 1
   rw [List.getElem_take]
   exact h1
  rw [← h2]
  have h3 : L.take k = (L.take i).take k:=by rw [List.take_take]; congr 1; omega
  rw [h3,List.take_append_drop]
 unfold D2
 rw [e,List.reverse_append,List.reverse_cons,List.append_assoc]
 rw [List.drop_append]
 have hl : ((L.take i).drop (k + 1)).reverse.length = i - 1 - k:=by simp; omega
 rw [hl,List.drop_eq_nil_of_le (by omega),Nat.sub_self]
 rfl
theorem a08 {i n : Nat} {h : HRec} {r : List HRec} (hi : i ≤ L.length) (hd : (D2 L i).drop n = h :: r) : ∃ k,k < i ∧ L[k]? = some h ∧ r = D2 L k:=by
 have hn : n < i:=by
  have:=congrArg List.length hd
  simp only [List.length_drop,ab3 hi,List.length_cons] at this
  omega
 have hkl : i - 1 - n < L.length:=by omega
 have h1:=ax2 (k:=i - 1 - n) hi (by omega) (List.getElem?_eq_getElem hkl)
 rw [show i - 1 - (i - 1 - n) = n by omega,hd] at h1
 simp only [List.cons.injEq] at h1
 exact ⟨i - 1 - n,by omega,by rw [List.getElem?_eq_getElem hkl,h1.1],h1.2⟩
theorem ca7 {i k d : Nat} {T : TypeId} {l : (Nat → Value) → List Ch} (hi : i ≤ L.length) (hk : k < i) (hh : L[k]? = some (.mk d T l)) : cnt (D2 L k) < cnt (D2 L i):=by
 have h1:=ax2 hi hk hh
 have h2:=@df6 (D2 L i) (i - 1 - k)
 rw [h1] at h2
 simp only [cnt] at h2
 omega
end
theorem ba4 {L : List HRec} {i m : Nat} (hi : i ≤ L.length) (hm : m < i) : (D2 L i)[m]? = L[i - 1 - m]?:=by
 unfold D2
 rw [List.getElem?_reverse (by rw [List.length_take]; omega),List.length_take,Nat.min_eq_left hi,List.getElem?_take,if_pos (by omega)]
def Cont (t : Nat) (L : List HRec) (lst : Nat → Prop) (k : Nat) (lc lf : (Nat → Value) → List Ch) : Prop:=
 (lf = lc ∧ ∀ j l',j < t → lst j → L[j]? ≠ some (HRec.st k l')) ∨ ∃ j,j < t ∧ lst j ∧ L[j]? = some (HRec.st k lf) ∧ ∀ j' l',j' < t → lst j' → L[j']? = some (HRec.st k l') → j' ≤ j
theorem Cont.add {t : Nat} {L : List HRec} {lst : Nat → Prop} {k i : Nat} {lc lf : (Nat → Value) → List Ch} (h : Cont t L lst k lc lf) (hn : ∀ l',L[i]? ≠ some (HRec.st k l')) : Cont t L (fun j=>j = i ∨ lst j) k lc lf:=by
 rcases h with ⟨h1,h2⟩ | ⟨j,h1,h2,h3,h4⟩
 ·refine .inl ⟨h1,fun j l' hj hl=>?_⟩
  rcases hl with rfl | hl
  ·exact hn l'
  exact h2 j l' hj hl
 refine .inr ⟨j,h1,.inr h2,h3,fun j' l' hj' hl hg=>?_⟩
 rcases hl with rfl | hl
 ·exact absurd hg (hn l')
 exact h4 j' l' hj' hl hg
theorem Cont.eq {t : Nat} {L : List HRec} {lst : Nat → Prop} {k i : Nat} {lc lf : (Nat → Value) → List Ch} (h : Cont t L lst k lc lf) (hi : i ≤ L.length) (hit : i ≤ t) (hl : ∀ j l',j < t → L[j]? = some (HRec.st k l') → (lst j ↔ j < i)) : (aj3 (D2 L i) k).getD lc = lf:=by
 cases hs : aj3 (D2 L i) k with
 | none=>
  have hn:=cr2 hs
  have hn' : ∀ j l',j < i → L[j]? ≠ some (HRec.st k l'):=fun j l' hj=>by
   have:=hn (i - 1 - j) l'
   rwa [ba4 hi (by omega),show i - 1 - (i - 1 - j) = j by omega] at this
  rcases h with ⟨h1,h2⟩ | ⟨j,h1,h2,h3,h4⟩
  ·exact h1.symm
  exact absurd h3 (hn' j lf ((hl j lf h1 h3).1 h2))
 | some l=>
  obtain ⟨n,h5,h6⟩:=cz2 hs
  have hni : n < i:=by
   have:=(List.getElem?_eq_some_iff.1 h5).1
   rwa [ab3 hi] at this
  rw [ba4 hi hni] at h5
  have h7:=(hl _ l (by omega) h5).2 (by omega)
  rcases h with ⟨h1,h2⟩ | ⟨j,h1,h2,h3,h4⟩
  ·exact absurd h5 (h2 _ l (by omega) h7)
  have h8:=h4 _ l (by omega) h7 h5
  have h9:=(hl j lf h1 h3).1 h2
  rcases Nat.lt_or_ge (i - 1 - n) j with h10 | h10
  ·have:=h6 (i - 1 - j) lf (by omega)
   rw [ba4 hi (by omega),show i - 1 - (i - 1 - j) = j by omega] at this
   exact absurd h3 this
  have e : j = i - 1 - n:=by omega
  rw [e,h5] at h3
  simpa using h3
section
variable {c : Cx} {st : St} {G : Gh} {l : List Oper} {t M : Nat} {L : List HRec} {β0 : Nat → Nat} {ρ0 : Fr} {w00 : World}
def M0 (st : St) (L : List HRec) (k : Nat) : Nat:=st.hp.length + cnt (D2 L k)
structure Comp (st : St) (t : Nat) (L : List HRec) (β0 : Nat → Nat) (lst : Nat → Prop) (v : Nat → Value) (β : Nat → Nat) (η' : Nat → Value) (β' : Nat → Nat) : Prop where
 res : ∀ k,k < t → lst k → ∀ d p Δ,L[k]? = some (.spec d p Δ) → η' k = v k
 old : ∀ i,i < st.hp.length → β' i = β0 i
 blk : ∀ k,k < t → lst k → ∀ d T lc,L[k]? = some (.mk d T lc) → β' (M0 st L k) = β (M0 st L k)
def SL (c : Cx) (st : St) (t : Nat) (L : List HRec) (β0 : Nat → Nat) (lst : Nat → Prop) (β : Nat → Nat) : Nat → Prop:=
 fun b=>Sof c.S0 β0 st.hp b ∧ ∀ k,k < t → lst k → ∀ d T lc,L[k]? = some (.mk d T lc) → β (M0 st L k) ≠ b
def NTg (t : Nat) (L : List HRec) (β0 : Nat → Nat) (g : Nat) : Prop:=∀ k b T l0 l,k < t → L[k]? = some (HRec.sto b T l0 l) → g ≠ β0 b
def TgOk (st : St) (t : Nat) (L : List HRec) : Prop:=∀ k b T l0 l,k < t → L[k]? = some (HRec.sto b T l0 l) → st.hp[b]? = some (.hid T l0) ∧ ∀ k' T' l0' l',k' < t → L[k']? = some (HRec.sto b T' l0' l') → k' = k
theorem Mem.keeps {base : Bs} {hp : List HE} {β : Nat → Nat} {S : Nat → Prop} {w w' : World} (h : Mem base hp β w) (k : Keeps S w w') (hs : ∀ i g,m7 β hp i g → (∀ T l,hp[i]? ≠ some (.hid T l)) → S g) : Mem base hp β w':=by
 refine ⟨fun i T l hi=>⟨?_,(h.blk i T l hi).2⟩,fun i T s v n cs hi=>?_,fun i A hi=>?_,fun i g hg=>⟨(h.low i g hg).1,Nat.lt_of_lt_of_le (h.low i g hg).2 k.size⟩,h.apart⟩
 ·have h1:=(h.blk i T l hi).1
  have hm : m7 β hp i (β i):=⟨_,hi,rfl⟩
  exact (k.block _ (h.low i _ hm).2 (hs i _ hm fun T l e=>by rw [hi] at e; cases e)).trans h1
 ·exact ac7 (h.row i T s v n cs hi) k fun g hg=>hs i g ⟨_,hi,hg⟩ fun T l e=>by rw [hi] at e; cases e
 exact A.keep (h.abs i A hi) (fun k' hk=>(h.low i k' ⟨_,hi,hk⟩).2) k fun g hg=>hs i g ⟨_,hi,hg⟩ fun T l e=>by rw [hi] at e; cases e
theorem TgOk.mine {β0 : Nat → Nat} (hT : TgOk st t L) {k b : Nat} {T : TypeId} {l0 : List Ch} {lf : (Nat → Value) → List Ch} (hk : k < t) (h : L[k]? = some (HRec.sto b T l0 lf)) : m7 β0 st.hp b (β0 b):=⟨_,(hT k b T l0 lf hk h).1,rfl⟩
theorem TgOk.mem {base : Bs} {β0 : Nat → Nat} {w w' : World} (hT : TgOk st t L) (h : Mem base st.hp β0 w) (k : Keeps (NTg t L β0) w w') : Mem base st.hp β0 w':=by
 refine h.keeps k fun i g hg hn k b T l0 lf hk hs e=>?_
 subst e
 have:=h.apart i b _ hg (hT.mine hk hs)
 subst this
 exact hn _ _ (hT k _ T l0 lf hk hs).1
structure HInv (c : Cx) (st : St) (G : Gh) (t M : Nat) (L : List HRec) (β0 : Nat → Nat) (ρ0 : Fr) (w00 : World) (lst : Nat → Prop) (ρ' : Fr) (v : Nat → Value) (β : Nat → Nat) (w' : World) : Prop where
 ext : Keeps (NTg t L β0) w00 w'
 old : ∀ i,i < st.hp.length → β i = β0 i
 out : ∀ s,(∀ k,k < t → ∀ h,L[k]? = some h → h.d ≠ some s) → ρ' s = ρ0 s
 val : ∀ k,k < t → lst k → ∀ h,L[k]? = some h → ∀ d,h.d = some d → ∀ η' β',Comp st t L β0 lst v β η' β' → ρ' d = (h.sv st.hp.length (cnt (D2 L k)) k η').den β' ∧ (h.sv st.hp.length (cnt (D2 L k)) k η').Ok M
 made : ∀ k,k < t → lst k → ∀ d T lc,L[k]? = some (.mk d T lc) → w00.heap.size ≤ β (M0 st L k) ∧ β (M0 st L k) < w'.heap.size ∧ ∃ lf,Cont t L lst k lc lf ∧ ∀ η' β',Comp st t L β0 lst v β η' β' → Blk w' (β (M0 st L k)) T (d8 β' (lf η')) ∧ ∀ ch ∈ lf η',ch.Ok M
 stl : ∀ j,j < t → lst j → ∀ k l,L[j]? = some (.st k l) → lst k ∧ ∀ j' l',j' < j → L[j']? = some (HRec.st k l') → lst j'
 apart : ∀ k k',k < t → k' < t → lst k → lst k' → ∀ d T lc d' T' lc',L[k]? = some (.mk d T lc) → L[k']? = some (.mk d' T' lc') → β (M0 st L k) = β (M0 st L k') → k = k'
 gh : G.p (SL c st t L β0 lst β) w'
 spec : ∀ k,k < t → lst k → ∀ d p Δ,L[k]? = some (.spec d p Δ) → (Δ (v k)).p (SL c st t L β0 lst β) w'
 sto : ∀ k,k < t → ∀ b T l0 l,L[k]? = some (.sto b T l0 l) → (¬ lst k → Blk w' (β0 b) T (d8 β0 l0)) ∧ (lst k → ∀ η' β',Comp st t L β0 lst v β η' β' → Blk w' (β0 b) T (d8 β' (l η')) ∧ ∀ ch ∈ l η',ch.Ok M)
theorem a48 {lst : Nat → Prop} {v v2 : Nat → Value} {β β2 : Nat → Nat} {w' w2 : World} {i : Nat} (h : ∀ k,k < t → ∀ b T l0 l,L[k]? = some (.sto b T l0 l) → (¬ lst k → Blk w' (β0 b) T (d8 β0 l0)) ∧ (lst k → ∀ η' β',Comp st t L β0 lst v β η' β' → Blk w' (β0 b) T (d8 β' (l η')) ∧ ∀ ch ∈ l η',ch.Ok M))
  (hn : ∀ b T l0 l,L[i]? ≠ some (.sto b T l0 l)) (hc : ∀ {η' β'},Comp st t L β0 (fun k=>k = i ∨ lst k) v2 β2 η' β' → Comp st t L β0 lst v β η' β') (hk : ∀ k b T l0 l cs,k < t → L[k]? = some (.sto b T l0 l) → Blk w' (β0 b) T cs → Blk w2 (β0 b) T cs) :
  ∀ k,k < t → ∀ b T l0 l,L[k]? = some (.sto b T l0 l) → (¬ (k = i ∨ lst k) → Blk w2 (β0 b) T (d8 β0 l0)) ∧ ((k = i ∨ lst k) → ∀ η' β',Comp st t L β0 (fun k=>k = i ∨ lst k) v2 β2 η' β' → Blk w2 (β0 b) T (d8 β' (l η')) ∧ ∀ ch ∈ l η',ch.Ok M):=by
 intro k hk' b T l0 l hg
 obtain ⟨h1,h2⟩:=h k hk' b T l0 l hg
 refine ⟨fun hnl=>hk k b T l0 l _ hk' hg (h1 fun hl=>hnl (.inr hl)),fun hl η' β' hcp=>?_⟩
 rcases hl with rfl | hl
 ·exact absurd hg (hn b T l0 l)
 obtain ⟨h3,h4⟩:=h2 hl η' β' (hc hcp)
 exact ⟨hk k b T l0 l _ hk' hg h3,h4⟩
theorem a10 {lst : Nat → Prop} {i : Nat} (h : ∀ j,j < t → lst j → ∀ k l,L[j]? = some (.st k l) → lst k ∧ ∀ j' l',j' < j → L[j']? = some (HRec.st k l') → lst j') (hn : ∀ k l,L[i]? ≠ some (.st k l)) :
  ∀ j,j < t → (j = i ∨ lst j) → ∀ k l,L[j]? = some (.st k l) → (k = i ∨ lst k) ∧ ∀ j' l',j' < j → L[j']? = some (HRec.st k l') → (j' = i ∨ lst j'):=by
 intro j hj hl k l hg
 rcases hl with rfl | hl
 ·exact absurd hg (hn k l)
 obtain ⟨h1,h2⟩:=h j hj hl k l hg
 exact ⟨.inr h1,fun j' l' hj' hg'=>.inr (h2 j' l' hj' hg')⟩
theorem HInv.comp {lst : Nat → Prop} {ρ' : Fr} {v : Nat → Value} {β : Nat → Nat} {w' : World} (h : HInv c st G t M L β0 ρ0 w00 lst ρ' v β w') : Comp st t L β0 lst v β v β:=
 ⟨fun _ _ _ _ _ _ _=>rfl,h.old,fun _ _ _ _ _ _ _=>rfl⟩
theorem Mem.congr {base : Bs} {hp : List HE} {β β' : Nat → Nat} {w : World} (h : Mem base hp β w) (hb : ∀ i,i < hp.length → β' i = β i) : Mem base hp β' w:=by
 have hm : ∀ i k,m7 β' hp i k → m7 β hp i k:=by
  rintro i k ⟨x,hi,hk⟩
  rw [hb i (List.getElem?_eq_some_iff.1 hi).1] at hk
  exact ⟨x,hi,hk⟩
 refine ⟨fun i T l hi=>?_,h.row,h.abs,fun i k hk=>h.low i k (hm i k hk),fun i j k hi hj=>h.apart i j k (hm i k hi) (hm j k hj)⟩
 obtain ⟨h1,h2⟩:=h.blk i T l hi
 have hil:=(List.getElem?_eq_some_iff.1 hi).1
 rw [hb i hil,L3 (m:=hp.length) hb h2]
 exact ⟨h1,h2⟩
theorem bv2 {lst : Nat → Prop} {ρ' : Fr} {v : Nat → Value} {β : Nat → Nat} {w' : World} (hS : Sat c.bs st β0 ρ0 w00) (hM : st.hp.length ≤ M) (h : HInv c st G t M L β0 ρ0 w00 lst ρ' v β w') {i s : Nat} (hi : i ≤ L.length) (hit : i ≤ t)
  (hs : ∀ k,k < t → ∀ h,L[k]? = some h → h.d = some s → k < i ∧ lst k) {η' : Nat → Value} {β' : Nat → Nat} (hc : Comp st t L β0 lst v β η' β') : Kn β' M (L7 (frH st (D2 L i) η') s) (ρ' s):=by
 intro x hx
 unfold frH at hx
 rw [bb9] at hx
 cases hl : L7 (a16 st.hp.length η' (D2 L i)) s with
 | some y=>
  rw [hl] at hx
  simp only [Option.some.injEq] at hx
  subst hx
  obtain ⟨n,hh,r,h1,h2,h3⟩:=ch8 hl
  obtain ⟨k,hk,h4,h5⟩:=a08 hi h1
  have h6:=hs k (by omega) hh h4 h2
  have h7:=h.val k (by omega) h6.2 hh h4 s h2 η' β' hc
  subst h5
  rw [ab3 (by omega)] at h3
  rw [h3]
  exact h7
 | none=>
  rw [hl] at hx
  simp only at hx
  have hn:=bd7 hl
  have e : ρ' s = ρ0 s:=by
   refine h.out s fun k hk hh hg he=>?_
   obtain ⟨h1,h2⟩:=hs k hk hh hg he
   refine hn hh ?_ he
   rw [List.mem_reverse]
   refine List.mem_of_getElem? (i:=k) ?_
   rw [List.getElem?_take,if_pos h1]
   exact hg
  obtain ⟨e1,e2⟩:=(hS.fr s) x hx
  exact ⟨by rw [e,e1]; exact SV.den_congr (fun i hi=>(hc.old i hi).symm) e2,e2.le hM⟩
theorem HInv.put {lst : Nat → Prop} {ρ' : Fr} {v : Nat → Value} {β : Nat → Nat} {w' : World} (h : HInv c st G t M L β0 ρ0 w00 lst ρ' v β w') {i : Nat} {d : Nat} {sv : (Nat → Value) → SV} (hi : i < t) (hh : L[i]? = some (.val d sv)) (hu : ∀ k,k < t → ∀ h,L[k]? = some h → h.d = some d → k = i)
  {x : Value} (hx : ∀ η' β',Comp st t L β0 lst v β η' β' → x = (sv η').den β' ∧ (sv η').Ok M) : HInv c st G t M L β0 ρ0 w00 (fun k=>k = i ∨ lst k) (upd ρ' d x) v β w':=by
 have hcomp : ∀ {η' β'},Comp st t L β0 (fun k=>k = i ∨ lst k) v β η' β' → Comp st t L β0 lst v β η' β':=fun q=>⟨fun k hk hl=>q.res k hk (.inr hl),q.old,fun k hk hl=>q.blk k hk (.inr hl)⟩
 have hSL : SL c st t L β0 (fun k=>k = i ∨ lst k) β = SL c st t L β0 lst β:=by
  funext b
  refine propext ⟨fun q=>⟨q.1,fun k hk hl=>q.2 k hk (.inr hl)⟩,fun q=>⟨q.1,fun k hk hl d' T lc hg=>?_⟩⟩
  rcases hl with rfl | hl
  ·rw [hh] at hg; cases hg
  exact q.2 k hk hl d' T lc hg
 refine ⟨h.ext,h.old,fun s hs=>?_,?_,?_,a10 h.stl (fun k l e=>by rw [hh] at e; cases e),?_,hSL ▸ h.gh,?_,a48 h.sto (fun b T l0 l e=>by rw [hh] at e; cases e) hcomp (fun _ _ _ _ _ _ _ _ h=>h)⟩
 ·rw [af6,if_neg (show ¬ d = s from fun e=>hs i hi _ hh (congrArg some e))]
  exact h.out s hs
 ·intro k hk hl g hg d' hd' η' β' hc
  rw [af6]
  split
  ·rename_i e
   obtain rfl:=hu k hk g hg (by rw [hd',e])
   rw [hh] at hg
   cases hg
   exact hx η' β' (hcomp hc)
  rename_i e
  rcases hl with rfl | hl
  ·rw [hh] at hg; cases hg; exact absurd (by simpa [HRec.d] using hd') e
  exact h.val k hk hl g hg d' hd' η' β' (hcomp hc)
 ·intro k hk hl d' T lc hg
  rcases hl with rfl | hl
  ·rw [hh] at hg; cases hg
  obtain ⟨h1,h2,lf,hC,h3⟩:=h.made k hk hl d' T lc hg
  exact ⟨h1,h2,lf,hC.add (fun l' e=>by rw [hh] at e; cases e),fun η' β' hc=>h3 η' β' (hcomp hc)⟩
 ·intro k k' hk hk' hl hl' d1 T1 l1 d2 T2 l2 hg hg'
  rcases hl with rfl | hl
  ·rw [hh] at hg; cases hg
  rcases hl' with rfl | hl'
  ·rw [hh] at hg'; cases hg'
  exact h.apart k k' hk hk' hl hl' _ _ _ _ _ _ hg hg'
 intro k hk hl d' p Δ hg
 rw [hSL]
 rcases hl with rfl | hl
 ·rw [hh] at hg; cases hg
 exact h.spec k hk hl d' p Δ hg
theorem HInv.same {lst : Nat → Prop} {ρ' : Fr} {v : Nat → Value} {β : Nat → Nat} {w' : World} (h : HInv c st G t M L β0 ρ0 w00 lst ρ' v β w') {i : Nat} (hh : L[i]? = some .same) : HInv c st G t M L β0 ρ0 w00 (fun k=>k = i ∨ lst k) ρ' v β w':=by
 have hcomp : ∀ {η' β'},Comp st t L β0 (fun k=>k = i ∨ lst k) v β η' β' → Comp st t L β0 lst v β η' β':=fun q=>⟨fun k hk hl=>q.res k hk (.inr hl),q.old,fun k hk hl=>q.blk k hk (.inr hl)⟩
 have hSL : SL c st t L β0 (fun k=>k = i ∨ lst k) β = SL c st t L β0 lst β:=by
  funext b
  refine propext ⟨fun q=>⟨q.1,fun k hk hl=>q.2 k hk (.inr hl)⟩,fun q=>⟨q.1,fun k hk hl d' T lc hg=>?_⟩⟩
  rcases hl with rfl | hl
  ·rw [hh] at hg; cases hg
  exact q.2 k hk hl d' T lc hg
 refine ⟨h.ext,h.old,h.out,?_,?_,a10 h.stl (fun k l e=>by rw [hh] at e; cases e),?_,hSL ▸ h.gh,?_,a48 h.sto (fun b T l0 l e=>by rw [hh] at e; cases e) hcomp (fun _ _ _ _ _ _ _ _ h=>h)⟩
 ·intro k hk hl g hg d' hd' η' β' hc
  rcases hl with rfl | hl
  ·rw [hh] at hg; cases hg; cases hd'
  exact h.val k hk hl g hg d' hd' η' β' (hcomp hc)
 ·intro k hk hl d' T lc hg
  rcases hl with rfl | hl
  ·rw [hh] at hg; cases hg
  obtain ⟨h1,h2,lf,hC,h3⟩:=h.made k hk hl d' T lc hg
  exact ⟨h1,h2,lf,hC.add (fun l' e=>by rw [hh] at e; cases e),fun η' β' hc=>h3 η' β' (hcomp hc)⟩
 ·intro k k' hk hk' hl hl' d1 T1 l1 d2 T2 l2 hg hg'
  rcases hl with rfl | hl
  ·rw [hh] at hg; cases hg
  rcases hl' with rfl | hl'
  ·rw [hh] at hg'; cases hg'
  exact h.apart k k' hk hk' hl hl' _ _ _ _ _ _ hg hg'
 intro k hk hl d' p Δ hg
 rw [hSL]
 rcases hl with rfl | hl
 ·rw [hh] at hg; cases hg
 exact h.spec k hk hl d' p Δ hg
theorem HInv.res {lst : Nat → Prop} {ρ' : Fr} {v : Nat → Value} {β : Nat → Nat} {w' w2 : World} (h : HInv c st G t M L β0 ρ0 w00 lst ρ' v β w') {i : Nat} {d : Nat} {p : Value → SV} {Δ : Value → Gh} (hi : i < t) (hn : ¬ lst i) (hh : L[i]? = some (.spec d p Δ)) (hu : ∀ k,k < t → ∀ h,L[k]? = some h → h.d = some d → k = i)
  {x : Value} (hk : Ext w' w2) (hx : x = (p x).den (fun _=>0)) (hok : (p x).Ok 0) (hΔ : (Δ x).p (SL c st t L β0 lst β) w2) : HInv c st G t M L β0 ρ0 w00 (fun k=>k = i ∨ lst k) (upd ρ' d x) (fun k=>if k = i then x else v k) β w2:=by
 have hcomp : ∀ {η' : Nat → Value} {β' : Nat → Nat},Comp st t L β0 (fun k=>k = i ∨ lst k) (fun k=>if k = i then x else v k) β η' β' → Comp st t L β0 lst v β η' β' ∧ η' i = x:=fun {η' β'} q=>
  ⟨⟨fun k hk hl d p Δ hg=>by
    have h1 : η' k = if k = i then x else v k:=q.res k hk (.inr hl) d p Δ hg
    rwa [if_neg (fun e : k = i=>hn (by rw [← e]; exact hl))] at h1,q.old,fun k hk hl=>q.blk k hk (.inr hl)⟩,by
   have h1 : η' i = if i = i then x else v i:=q.res i hi (.inl rfl) d p Δ hh
   rwa [if_pos rfl] at h1⟩
 have hSL : SL c st t L β0 (fun k=>k = i ∨ lst k) β = SL c st t L β0 lst β:=by
  funext b
  refine propext ⟨fun q=>⟨q.1,fun k hk hl=>q.2 k hk (.inr hl)⟩,fun q=>⟨q.1,fun k hk hl d' T lc hg=>?_⟩⟩
  rcases hl with rfl | hl
  ·rw [hh] at hg; cases hg
  exact q.2 k hk hl d' T lc hg
 refine ⟨h.ext.trans (.of hk),h.old,fun s hs=>?_,?_,?_,a10 h.stl (fun k l e=>by rw [hh] at e; cases e),?_,hSL ▸ G.keep h.gh (.of hk),?_,a48 h.sto (fun b T l0 l e=>by rw [hh] at e; cases e) (fun q=>(hcomp q).1) (fun _ _ _ _ _ _ _ _ h=>h.to hk)⟩
 ·rw [af6,if_neg (show ¬ d = s from fun e=>hs i hi _ hh (congrArg some e))]
  exact h.out s hs
 ·intro k hk' hl g hg d' hd' η' β' hc
  obtain ⟨hc1,hc2⟩:=hcomp hc
  rw [af6]
  split
  ·rename_i e
   obtain rfl:=hu k hk' g hg (by rw [hd',e])
   rw [hh] at hg
   cases hg
   simp only [HRec.sv,hc2]
   exact ⟨hx.trans (SV.den_congr (m:=0) (fun i hi=>absurd hi (Nat.not_lt_zero i)) hok),hok.le (Nat.zero_le _)⟩
  rename_i e
  rcases hl with rfl | hl
  ·rw [hh] at hg; cases hg; exact absurd (by simpa [HRec.d] using hd') e
  exact h.val k hk' hl g hg d' hd' η' β' hc1
 ·intro k hk' hl d' T lc hg
  rcases hl with rfl | hl
  ·rw [hh] at hg; cases hg
  obtain ⟨h1,h2,lf,hC,h3⟩:=h.made k hk' hl d' T lc hg
  exact ⟨h1,Nat.lt_of_lt_of_le h2 hk.size,lf,hC.add (fun l' e=>by rw [hh] at e; cases e),fun η' β' hc=>⟨(h3 η' β' (hcomp hc).1).1.to hk,(h3 η' β' (hcomp hc).1).2⟩⟩
 ·intro k k' hk' hk2 hl hl' d1 T1 l1 d2 T2 l2 hg hg'
  rcases hl with rfl | hl
  ·rw [hh] at hg; cases hg
  rcases hl' with rfl | hl'
  ·rw [hh] at hg'; cases hg'
  exact h.apart k k' hk' hk2 hl hl' _ _ _ _ _ _ hg hg'
 intro k hk' hl d' p' Δ' hg
 rw [hSL]
 by_cases e : k = i
 ·subst e
  rw [hh] at hg
  cases hg
  rw [if_pos rfl]
  exact hΔ
 rw [if_neg e]
 rcases hl with e' | hl
 ·exact absurd e' e
 exact (Δ' (v k)).keep (h.spec k hk' hl d' p' Δ' hg) (.of hk)
theorem HInv.new {lst : Nat → Prop} {ρ' : Fr} {v : Nat → Value} {β : Nat → Nat} {w' : World} (hS : Sat c.bs st β0 ρ0 w00) (h : HInv c st G t M L β0 ρ0 w00 lst ρ' v β w') {i : Nat} {d : Nat} {T : TypeId} {lc : (Nat → Value) → List Ch} (hlen : L.length = t) (hi : i < t) (hn : ¬ lst i) (hh : L[i]? = some (.mk d T lc)) (hu : ∀ k,k < t → ∀ h,L[k]? = some h → h.d = some d → k = i)
  {cs : List Value} (hMi : M0 st L i < M) (hx : ∀ η' β',Comp st t L β0 lst v β η' β' → cs = d8 β' (lc η') ∧ ∀ ch ∈ lc η',ch.Ok M) :
  HInv c st G t M L β0 ρ0 w00 (fun k=>k = i ∨ lst k) (upd ρ' d (.pointer (some ⟨w'.heap.size,0,none⟩))) v (βs β (M0 st L i) w'.heap.size) (w'.alloc (.cells cs.toArray T)):=by
 have hk:=Q3 w' (.cells cs.toArray T)
 have hold : ∀ j,j < st.hp.length → βs β (M0 st L i) w'.heap.size j = β j:=fun j hj=>b43 (by unfold M0; omega)
 have hne : ∀ k,k < t → lst k → ∀ d' T' lc',L[k]? = some (.mk d' T' lc') → βs β (M0 st L i) w'.heap.size (M0 st L k) = β (M0 st L k):=by
  intro k hk hl d' T' lc' hg
  have e : M0 st L k ≠ M0 st L i:=by
   have hki : k ≠ i:=fun e=>hn (e ▸ hl)
   unfold M0
   rcases Nat.lt_or_ge k i with h1 | h1
   ·have:=ca7 (L:=L) (i:=i) (by omega) h1 hg; omega
   have:=ca7 (L:=L) (i:=k) (by omega) (show i < k by omega) hh; omega
  unfold βs
  rw [if_neg e]
 have hcomp : ∀ {η' β'},Comp st t L β0 (fun k=>k = i ∨ lst k) v (βs β (M0 st L i) w'.heap.size) η' β' → Comp st t L β0 lst v β η' β' ∧ β' (M0 st L i) = w'.heap.size:=fun q=>
  ⟨⟨fun k hk hl=>q.res k hk (.inr hl),q.old,fun k hk hl d T lc hg=>(q.blk k hk (.inr hl) d T lc hg).trans (hne k hk hl d T lc hg)⟩,by rw [q.blk i hi (.inl rfl) d T lc hh]; exact ai9⟩
 have hSLm : ∀ b,b < w'.heap.size → SL c st t L β0 lst β b → SL c st t L β0 (fun k=>k = i ∨ lst k) (βs β (M0 st L i) w'.heap.size) b:=by
  intro b hb q
  refine ⟨q.1,fun k hk hl d' T' lc' hg=>?_⟩
  by_cases e : k = i
  ·subst e; rw [ai9]; omega
  rcases hl with e' | hl
  ·exact absurd e' e
  rw [hne k hk hl d' T' lc' hg]; exact q.2 k hk hl d' T' lc' hg
 have hsz : (w'.alloc (.cells cs.toArray T)).heap.size = w'.heap.size + 1:=by simp
 refine ⟨h.ext.trans (.of hk),fun j hj=>(hold j hj).trans (h.old j hj),fun s hs=>?_,?_,?_,a10 h.stl (fun k l e=>by rw [hh] at e; cases e),?_,G.keep (G.mono h.gh hSLm) (.of hk),?_,a48 h.sto (fun b T l0 l e=>by rw [hh] at e; cases e) (fun q=>(hcomp q).1) (fun _ _ _ _ _ _ _ _ h=>h.to hk)⟩
 ·rw [af6,if_neg (show ¬ d = s from fun e=>hs i hi _ hh (congrArg some e))]
  exact h.out s hs
 ·intro k hk' hl g hg d' hd' η' β' hc
  obtain ⟨hc1,hc2⟩:=hcomp hc
  rw [af6]
  split
  ·rename_i e
   obtain rfl:=hu k hk' g hg (by rw [hd',e])
   rw [hh] at hg
   cases hg
   have e3 : β' (st.hp.length + cnt (D2 L k)) = w'.heap.size:=hc2
   refine ⟨?_,hMi⟩
   simp only [HRec.sv,SV.den,Ch.den,e3]
  rename_i e
  rcases hl with rfl | hl
  ·rw [hh] at hg; cases hg; exact absurd (by simpa [HRec.d] using hd') e
  exact h.val k hk' hl g hg d' hd' η' β' hc1
 ·intro k hk' hl d' T' lc' hg
  by_cases e : k = i
  ·subst e
   rw [hh] at hg
   cases hg
   rw [ai9]
   refine ⟨h.ext.size,by omega,lc,.inl ⟨rfl,fun j l' hj hl hg=>?_⟩,fun η' β' hc=>?_⟩
   ·rcases hl with rfl | hl
    ·rw [hh] at hg; cases hg
    exact hn (h.stl j hj hl _ _ hg).1
   obtain ⟨h1,h2⟩:=hx η' β' (hcomp hc).1
   rw [← h1]
   exact ⟨Blk.new _ _ _,h2⟩
  rcases hl with e' | hl
  ·exact absurd e' e
  rw [hne k hk' hl d' T' lc' hg]
  obtain ⟨h1,h2,lf,hC,h3⟩:=h.made k hk' hl d' T' lc' hg
  exact ⟨h1,by omega,lf,hC.add (fun l' e'=>by rw [hh] at e'; cases e'),fun η' β' hc=>⟨(h3 η' β' (hcomp hc).1).1.to hk,(h3 η' β' (hcomp hc).1).2⟩⟩
 ·intro k k' hk' hk2 hl hl' d1 T1 l1 d2 T2 l2 hg hg' he
  by_cases e : k = i
  ·by_cases e' : k' = i
   ·rw [e,e']
   rcases hl' with e2 | hl'
   ·exact absurd e2 e'
   ·subst e
    rw [ai9,hne k' hk2 hl' _ _ _ hg'] at he
    have:=(h.made k' hk2 hl' _ _ _ hg').2.1
    omega
  rcases hl with e2 | hl
  ·exact absurd e2 e
  ·by_cases e' : k' = i
   ·subst e'
    rw [ai9,hne k hk' hl _ _ _ hg] at he
    have:=(h.made k hk' hl _ _ _ hg).2.1
    omega
   rcases hl' with e2 | hl'
   ·exact absurd e2 e'
   rw [hne k hk' hl _ _ _ hg,hne k' hk2 hl' _ _ _ hg'] at he
   exact h.apart k k' hk' hk2 hl hl' _ _ _ _ _ _ hg hg' he
 intro k hk' hl d' p Δ hg
 rcases hl with rfl | hl
 ·rw [hh] at hg; cases hg
 exact (Δ (v k)).keep ((Δ (v k)).mono (h.spec k hk' hl d' p Δ hg) hSLm) (.of hk)
theorem HInv.store {lst : Nat → Prop} {ρ' : Fr} {v : Nat → Value} {β : Nat → Nat} {w' w2 : World} (hS : Sat c.bs st β0 ρ0 w00) (hT : TgOk st t L) (h : HInv c st G t M L β0 ρ0 w00 lst ρ' v β w') {i k0 d0 : Nat} {T0 : TypeId} {l lc0 : (Nat → Value) → List Ch} (hi : i < t) (hk0 : k0 < t) (hlk : lst k0) (hh : L[i]? = some (.st k0 l)) (hh0 : L[k0]? = some (.mk d0 T0 lc0))
  (hord : ∀ j l',j < t → L[j]? = some (.st k0 l') → (lst j ↔ j < i)) (hk : Wrt (β (M0 st L k0)) w' w2) (hx : ∀ η' β',Comp st t L β0 lst v β η' β' → Blk w2 (β (M0 st L k0)) T0 (d8 β' (l η')) ∧ ∀ ch ∈ l η',ch.Ok M) :
  HInv c st G t M L β0 ρ0 w00 (fun k=>k = i ∨ lst k) ρ' v β w2:=by
 have hcomp : ∀ {η' β'},Comp st t L β0 (fun k=>k = i ∨ lst k) v β η' β' → Comp st t L β0 lst v β η' β':=fun q=>⟨fun k hk hl=>q.res k hk (.inr hl),q.old,fun k hk hl=>q.blk k hk (.inr hl)⟩
 have hSL : SL c st t L β0 (fun k=>k = i ∨ lst k) β = SL c st t L β0 lst β:=by
  funext b
  refine propext ⟨fun q=>⟨q.1,fun k hk hl=>q.2 k hk (.inr hl)⟩,fun q=>⟨q.1,fun k hk hl d' T lc hg=>?_⟩⟩
  rcases hl with rfl | hl
  ·rw [hh] at hg; cases hg
  exact q.2 k hk hl d' T lc hg
 have hm0:=h.made k0 hk0 hlk _ _ _ hh0
 have hkS : Keeps (SL c st t L β0 lst β) w' w2:=hk.mono fun b q e=>q.2 k0 hk0 hlk _ _ _ hh0 e.symm
 refine ⟨Keeps.behind h.ext hk (fun b hb _ e=>by omega),h.old,h.out,?_,?_,?_,?_,hSL ▸ G.keep h.gh hkS,?_,a48 h.sto (fun b T l0 l e=>by rw [hh] at e; cases e) hcomp (fun k b T l0 l cs hk' hg h=>h.wr hk fun e=>by have:=(hS.mem.low b _ (hT.mine hk' hg)).2; omega)⟩
 ·intro k hk' hl g hg d' hd' η' β' hc
  rcases hl with rfl | hl
  ·rw [hh] at hg; cases hg; cases hd'
  exact h.val k hk' hl g hg d' hd' η' β' (hcomp hc)
 ·intro k hk' hl d' T lc hg
  rcases hl with rfl | hl
  ·rw [hh] at hg; cases hg
  obtain ⟨h1,h2,lf,hC,h3⟩:=h.made k hk' hl d' T lc hg
  by_cases e : k = k0
  ·subst e
   rw [hh0] at hg
   cases hg
   refine ⟨h1,Nat.lt_of_lt_of_le h2 hk.size,l,.inr ⟨i,hi,.inl rfl,hh,fun j' l' hj' hl' hg'=>?_⟩,fun η' β' hc=>hx η' β' (hcomp hc)⟩
   rcases hl' with rfl | hl'
   ·exact Nat.le_refl _
   exact Nat.le_of_lt ((hord j' l' hj' hg').1 hl')
  refine ⟨h1,Nat.lt_of_lt_of_le h2 hk.size,lf,hC.add (fun l' e'=>by rw [hh] at e'; cases e'; exact e rfl),fun η' β' hc=>?_⟩
  obtain ⟨h4,h5⟩:=h3 η' β' (hcomp hc)
  refine ⟨h4.wr hk fun e'=>e (h.apart k k0 hk' hk0 hl hlk _ _ _ _ _ _ hg hh0 e'),h5⟩
 ·intro j hj hl k l' hg
  rcases hl with rfl | hl
  ·rw [hh] at hg
   cases hg
   exact ⟨.inr hlk,fun j' l' hj' hg'=>.inr ((hord j' l' (by omega) hg').2 hj')⟩
  obtain ⟨h1,h2⟩:=h.stl j hj hl k l' hg
  exact ⟨.inr h1,fun j' l' hj' hg'=>.inr (h2 j' l' hj' hg')⟩
 ·intro k k' hk1 hk2 hl hl' d1 T1 l1 d2 T2 l2 hg hg'
  rcases hl with rfl | hl
  ·rw [hh] at hg; cases hg
  rcases hl' with rfl | hl'
  ·rw [hh] at hg'; cases hg'
  exact h.apart k k' hk1 hk2 hl hl' _ _ _ _ _ _ hg hg'
 intro k hk' hl d' p Δ hg
 rw [hSL]
 rcases hl with rfl | hl
 ·rw [hh] at hg; cases hg
 exact (Δ (v k)).keep (h.spec k hk' hl d' p Δ hg) hkS
theorem HInv.stoT {lst : Nat → Prop} {ρ' : Fr} {v : Nat → Value} {β : Nat → Nat} {w' w2 : World} (hS : Sat c.bs st β0 ρ0 w00) (hT : TgOk st t L) (h : HInv c st G t M L β0 ρ0 w00 lst ρ' v β w') {i b : Nat} {T : TypeId} {l0 : List Ch} {l : (Nat → Value) → List Ch} (hi : i < t) (hh : L[i]? = some (.sto b T l0 l))
  (hk : Wrt (β0 b) w' w2) (hx : ∀ η' β',Comp st t L β0 lst v β η' β' → Blk w2 (β0 b) T (d8 β' (l η')) ∧ ∀ ch ∈ l η',ch.Ok M) : HInv c st G t M L β0 ρ0 w00 (fun k=>k = i ∨ lst k) ρ' v β w2:=by
 have hcomp : ∀ {η' β'},Comp st t L β0 (fun k=>k = i ∨ lst k) v β η' β' → Comp st t L β0 lst v β η' β':=fun q=>⟨fun k hk hl=>q.res k hk (.inr hl),q.old,fun k hk hl=>q.blk k hk (.inr hl)⟩
 have hSL : SL c st t L β0 (fun k=>k = i ∨ lst k) β = SL c st t L β0 lst β:=by
  funext b
  refine propext ⟨fun q=>⟨q.1,fun k hk hl=>q.2 k hk (.inr hl)⟩,fun q=>⟨q.1,fun k hk hl d' T lc hg=>?_⟩⟩
  rcases hl with rfl | hl
  ·rw [hh] at hg; cases hg
  exact q.2 k hk hl d' T lc hg
 have hm:=hT.mine (β0:=β0) hi hh
 have hlow:=(hS.mem.low b _ hm).2
 have hkS : Keeps (SL c st t L β0 lst β) w' w2:=hk.mono fun g q e=>q.1.2 b (e ▸ hm)
 refine ⟨h.ext.trans (hk.mono fun g hg=>hg i b T l0 l hi hh),h.old,h.out,?_,?_,a10 h.stl (fun k l e=>by rw [hh] at e; cases e),?_,hSL ▸ G.keep h.gh hkS,?_,?_⟩
 ·intro k hk' hl g hg d' hd' η' β' hc
  rcases hl with rfl | hl
  ·rw [hh] at hg; cases hg; cases hd'
  exact h.val k hk' hl g hg d' hd' η' β' (hcomp hc)
 ·intro k hk' hl d' T' lc hg
  rcases hl with rfl | hl
  ·rw [hh] at hg; cases hg
  obtain ⟨h1,h2,lf,hC,h3⟩:=h.made k hk' hl d' T' lc hg
  refine ⟨h1,Nat.lt_of_lt_of_le h2 hk.size,lf,hC.add (fun l' e=>by rw [hh] at e; cases e),fun η' β' hc=>?_⟩
  obtain ⟨h4,h5⟩:=h3 η' β' (hcomp hc)
  exact ⟨h4.wr hk fun e=>by omega,h5⟩
 ·intro k k' hk1 hk2 hl hl' d1 T1 l1 d2 T2 l2 hg hg'
  rcases hl with rfl | hl
  ·rw [hh] at hg; cases hg
  rcases hl' with rfl | hl'
  ·rw [hh] at hg'; cases hg'
  exact h.apart k k' hk1 hk2 hl hl' _ _ _ _ _ _ hg hg'
 ·intro k hk' hl d' p Δ hg
  rw [hSL]
  rcases hl with rfl | hl
  ·rw [hh] at hg; cases hg
  exact (Δ (v k)).keep (h.spec k hk' hl d' p Δ hg) hkS
 intro k hk' b' T' l0' l' hg
 by_cases e : k = i
 ·subst e
  rw [hh] at hg
  cases hg
  exact ⟨fun hnl=>absurd (.inl rfl) hnl,fun _ η' β' hc=>hx η' β' (hcomp hc)⟩
 obtain ⟨h1,h2⟩:=h.sto k hk' b' T' l0' l' hg
 have hne : ¬ β0 b' = β0 b:=fun e'=>by
  have e2:=hS.mem.apart b' b _ (hT.mine hk' hg) (e'.symm ▸ hm)
  subst e2
  exact e ((hT i _ T l0 l hi hh).2 k _ _ _ hk' hg)
 refine ⟨fun hnl=>(h1 fun hl=>hnl (.inr hl)).wr hk hne,fun hl η' β' hc=>?_⟩
 rcases hl with e' | hl
 ·exact absurd e' e
 obtain ⟨h3,h4⟩:=h2 hl η' β' (hcomp hc)
 exact ⟨h3.wr hk hne,h4⟩
theorem HInv.sat {lst : Nat → Prop} {ρ' : Fr} {v : Nat → Value} {β : Nat → Nat} {w' : World} (hS : Sat c.bs st β0 ρ0 w00) (hT : TgOk st t L) (hw : Keeps c.K c.w0 w00) (hlen : L.length = t) (hM : M = st.hp.length + cnt (D2 L t)) (h : HInv c st G t M L β0 ρ0 w00 lst ρ' v β w') (hall : ∀ k,k < t → lst k) :
  Sat c.bs ⟨frH st (D2 L t) v,st.hp ++ S9 v (D2 L t)⟩ β ρ' w' ∧ (aj8 G v (D2 L t)).p (Sof c.S0 β (st.hp ++ S9 v (D2 L t))) w':=by
 have hc:=h.comp
 have hlen2 : (st.hp ++ S9 v (D2 L t)).length = M:=by rw [List.length_append,de2,hM]
 have hnew : ∀ i x,(st.hp ++ S9 v (D2 L t))[i]? = some x → (i < st.hp.length ∧ st.hp[i]? = some x) ∨ ∃ k d T lc,k < t ∧ L[k]? = some (.mk d T lc) ∧ i = M0 st L k ∧ x = .blk T (((aj3 (D2 L t) k).getD lc) v):=by
  intro i x hx
  by_cases hi : i < st.hp.length
  ·rw [List.getElem?_append_left hi] at hx
   exact .inl ⟨hi,hx⟩
  rw [List.getElem?_append_right (by omega)] at hx
  obtain ⟨n,d,T,lc,r,h1,h2,h3⟩:=cx9 hx
  obtain ⟨k,hk,h4,h5⟩:=a08 (by omega) h1
  refine .inr ⟨k,d,T,lc,hk,h4,?_,by rw [h3,h5,ab3 (by omega)]⟩
  unfold M0
  rw [← h5]
  omega
 have hmine : ∀ i b,m7 β (st.hp ++ S9 v (D2 L t)) i b → (i < st.hp.length ∧ m7 β0 st.hp i b) ∨ ∃ k d T lc,k < t ∧ L[k]? = some (.mk d T lc) ∧ i = M0 st L k ∧ b = β (M0 st L k):=by
  rintro i b ⟨x,hx,hb⟩
  rcases hnew i x hx with ⟨h1,h2⟩ | ⟨k,d,T,lc,h1,h2,h3,h4⟩
  ·exact .inl ⟨h1,x,h2,by rw [← h.old i h1]; exact hb⟩
  subst h4
  exact .inr ⟨k,d,T,lc,h1,h2,h3,by rw [← h3]; exact hb⟩
 have hlow : ∀ i b,m7 β0 st.hp i b → b < w00.heap.size:=fun i b hb=>(hS.mem.low i b hb).2
 have hMem0:=(hT.mem hS.mem h.ext).congr h.old
 refine ⟨⟨fun s=>?_,⟨?_,?_,?_,?_,?_⟩,by rw [List.length_append]; exact Nat.le_trans hS.agr.1 (Nat.le_add_right _ _),fun i hi=>(h.old i (Nat.lt_of_lt_of_le hi hS.agr.1)).trans (hS.agr.2 i hi)⟩,?_⟩
 ·rw [hlen2]
  exact bv2 hS (by omega) h (by omega) (Nat.le_refl _) (fun k hk _ _ _=>⟨hk,hall k hk⟩) hc
 ·intro i T l' hi
  rw [hlen2]
  rcases hnew i _ hi with ⟨h1,h2⟩ | ⟨k,d,T',lc,h1,h2,h3,h4⟩
  ·obtain ⟨e1,e2⟩:=hMem0.blk i T l' h2
   exact ⟨e1,fun ch hch=>(e2 ch hch).le (by omega)⟩
  simp only [HE.blk.injEq] at h4
  obtain ⟨rfl,rfl⟩:=h4
  rw [h3]
  obtain ⟨_,_,lf,hC,h5⟩:=h.made k h1 (hall k h1) d T lc h2
  rw [hC.eq (by omega) (Nat.le_refl _) fun j l' hj _=>⟨fun _=>hj,fun _=>hall j hj⟩]
  exact h5 v β hc
 ·intro i T s x n cs hi
  rcases hnew i _ hi with ⟨h1,h2⟩ | ⟨k,d,T',lc,h1,h2,h3,h4⟩
  ·exact hMem0.row i T s x n cs h2
  cases h4
 ·intro i A hi
  rcases hnew i _ hi with ⟨h1,h2⟩ | ⟨k,d,T',lc,h1,h2,h3,h4⟩
  ·exact hMem0.abs i A h2
  cases h4
 ·intro i b hb
  rcases hmine i b hb with ⟨h1,h2⟩ | ⟨k,d,T',lc,h1,h2,h3,h4⟩
  ·exact ⟨(hS.mem.low i b h2).1,Nat.lt_of_lt_of_le (hS.mem.low i b h2).2 h.ext.size⟩
  obtain ⟨e1,e2,_⟩:=h.made k h1 (hall k h1) d T' lc h2
  have:=hw.size
  exact ⟨.inl (Nat.le_trans this (by omega)),by omega⟩
 ·intro i j b hi hj
  rcases hmine i b hi with ⟨h1,h2⟩ | ⟨k,d,T',lc,h1,h2,h3,h4⟩
  ·rcases hmine j b hj with ⟨h5,h6⟩ | ⟨k',d',T2,lc',h5,h6,h7,h8⟩
   ·exact hS.mem.apart i j b h2 h6
   ·have e1:=hlow i b h2
    have e2:=(h.made k' h5 (hall k' h5) d' T2 lc' h6).1
    omega
  ·rcases hmine j b hj with ⟨h5,h6⟩ | ⟨k',d',T2,lc',h5,h6,h7,h8⟩
   ·have e1:=hlow j b h6
    have e2:=(h.made k h1 (hall k h1) d T' lc h2).1
    omega
   have:=h.apart k k' h1 h5 (hall k h1) (hall k' h5) _ _ _ _ _ _ h2 h6 (h4.symm.trans h8)
   subst this
   rw [h3,h7]
 have hSof : ∀ b,b < w'.heap.size → SL c st t L β0 lst β b → Sof c.S0 β (st.hp ++ S9 v (D2 L t)) b:=by
  intro b _ q
  refine ⟨q.1.1,fun i hi=>?_⟩
  rcases hmine i b hi with ⟨h1,h2⟩ | ⟨k,d,T',lc,h1,h2,h3,h4⟩
  ·exact q.1.2 i h2
  exact q.2 k h1 (hall k h1) d T' lc h2 h4.symm
 refine du0 (G.mono h.gh hSof) fun n d p Δ r hd=>?_
 obtain ⟨k,hk,h4,h5⟩:=a08 (by omega) hd
 have h6:=(Δ (v k)).mono (h.spec k hk (hall k hk) d p Δ h4) hSof
 rw [h5,ab3 (by omega)]
 exact h6
theorem bx8 : ∀ {l : List HE} {b : Nat},co2 l b = l.modify b HE.hide:=by
 intro l
 induction l with
 | nil=>intro b; cases b <;> rfl
 | cons x r ih=>intro b; cases b <;> simp [co2,ih,List.modify_succ_cons]
theorem at7 {hp : List HE} : ∀ {l : List Nat},(am1 l hp).length = hp.length:=by
 intro l
 induction l with
 | nil=>rfl
 | cons b r ih=>simp [am1,bx8,ih]
theorem bp2 {hp : List HE} : bb7 hp = true → ∀ (i : Nat) (T : TypeId) (l : List Ch),hp[i]? ≠ some (HE.hid T l):=by
 induction hp with
 | nil=>intro _ i T l; simp
 | cons x r ih=>
  intro h i T l
  cases i with
  | zero=>cases x <;> simp_all [bb7]
  | succ i=>cases x <;> simp only [bb7] at h <;> first | (simpa using ih h i T l) | cases h
theorem af0 {hp : List HE} : ∀ {l : List Nat} {i : Nat} {x : HE},(am1 l hp)[i]? = some x → hp[i]? = some x ∨ ∃ T c,x = .hid T c ∧ hp[i]? = some (.blk T c):=by
 intro l
 induction l with
 | nil=>intro i x h; exact .inl h
 | cons b r ih=>
  intro i x h
  simp only [am1,bx8,List.getElem?_modify,Option.map_eq_map] at h
  cases hy : (am1 r hp)[i]? with
  | none=>rw [hy] at h; simp at h
  | some y=>
   rw [hy] at h
   simp only [Option.map_some,Option.some.injEq] at h
   have h2:=ih hy
   split at h
   ·cases y with
    | blk T c=>
     simp only [HE.hide] at h
     subst h
     rcases h2 with h2 | ⟨_,_,h2,_⟩
     ·exact .inr ⟨T,c,rfl,h2⟩
     cases h2
    | row _ _ _ _ _=>simp only [HE.hide] at h; subst h; exact h2
    | gone=>simp only [HE.hide] at h; subst h; exact h2
    | abs _=>simp only [HE.hide] at h; subst h; exact h2
    | hid _ _=>simp only [HE.hide] at h; subst h; exact h2
   subst h; exact h2
theorem an5 {β : Nat → Nat} {hp : List HE} {l : List Nat} (i k : Nat) : m7 β (am1 l hp) i k → m7 β hp i k:=by
 rintro ⟨x,hx,hk⟩
 rcases af0 hx with h | ⟨T,c,rfl,h⟩
 ·exact ⟨x,h,hk⟩
 exact ⟨_,h,hk⟩
theorem c54 {S0 : Nat → Prop} {β : Nat → Nat} {hp : List HE} {l : List Nat} (k : Nat) (h : Sof S0 β hp k) : Sof S0 β (am1 l hp) k:=⟨h.1,fun i hi=>h.2 i (an5 i k hi)⟩
theorem Sat.hide {base : Bs} {fr : List (Nat × SV)} {hp : List HE} {β : Nat → Nat} {ρ : Fr} {w : World} {l : List Nat} (h : Sat base ⟨fr,hp⟩ β ρ w) : Sat base ⟨fr,am1 l hp⟩ β ρ w:=by
 refine ⟨fun d=>by rw [show (St.mk fr (am1 l hp)).hp.length = hp.length from at7]; exact h.fr d,⟨fun i T c hi=>?_,fun i T s v n cs hi=>?_,fun i A hi=>?_,fun i k hi=>h.mem.low i k (an5 i k hi),fun i j k hi hj=>h.mem.apart i j k (an5 i k hi) (an5 j k hj)⟩,by rw [show (St.mk fr (am1 l hp)).hp.length = hp.length from at7]; exact h.agr.1,h.agr.2⟩
 ·rw [show (St.mk fr (am1 l hp)).hp.length = hp.length from at7]
  rcases af0 hi with h1 | ⟨_,_,h1,_⟩
  ·exact h.mem.blk i T c h1
  cases h1
 ·rcases af0 hi with h1 | ⟨_,_,h1,_⟩
  ·exact h.mem.row i T s v n cs h1
  cases h1
 rcases af0 hi with h1 | ⟨_,_,h1,_⟩
 ·exact h.mem.abs i A h1
 cases h1
theorem Sat.fill {base : Bs} {fr : List (Nat × SV)} {hp : List HE} {β : Nat → Nat} {ρ : Fr} {w : World} {b : Nat} {T : TypeId} {l : List Ch} {x : HE} (h : Sat base ⟨fr,hp⟩ β ρ w) (hb : hp[b]? = some x) (hx : ∀ k,x.mine (β b) k ↔ k = β b) (hB : Blk w (β b) T (d8 β l)) (hok : ∀ c ∈ l,c.Ok hp.length) :
  Sat base ⟨fr,ae1 hp b (.blk T l)⟩ β ρ w ∧ (ae1 hp b (.blk T l)).length = hp.length ∧ (∀ i k,m7 β (ae1 hp b (.blk T l)) i k ↔ m7 β hp i k) ∧ (∀ i x,hp[i]? = some x → (∀ k,x.mine (β i) k ↔ k = β i) → ∃ y,(ae1 hp b (.blk T l))[i]? = some y ∧ ∀ k,y.mine (β i) k ↔ k = β i):=by
 have hbl:=(List.getElem?_eq_some_iff.1 hb).1
 rw [S5]
 have hlen : (hp.set b (.blk T l)).length = hp.length:=by simp
 have hm : ∀ i k,m7 β (hp.set b (.blk T l)) i k ↔ m7 β hp i k:=by
  intro i k
  by_cases e : b = i
  ·subst e
   rw [S4 hb,S4 (List.getElem?_set_self hbl),hx]
   exact Iff.rfl
  unfold m7
  rw [List.getElem?_set_ne e]
 refine ⟨⟨fun d=>by rw [show (St.mk fr (hp.set b (.blk T l))).hp.length = hp.length from hlen]; exact h.fr d,⟨fun i T' l' hi=>?_,fun i T' s v n cs hi=>?_,fun i A hi=>?_,fun i k hi=>h.mem.low i k ((hm i k).1 hi),fun i j k hi hj=>h.mem.apart i j k ((hm i k).1 hi) ((hm j k).1 hj)⟩,by rw [show (St.mk fr (hp.set b (.blk T l))).hp.length = hp.length from hlen]; exact h.agr.1,h.agr.2⟩,hlen,hm,fun i y hy hyk=>?_⟩
 ·replace hi : (hp.set b (.blk T l))[i]? = some (.blk T' l'):=hi
  rw [show (St.mk fr (hp.set b (.blk T l))).hp.length = hp.length from hlen]
  by_cases e : b = i
  ·subst e
   rw [List.getElem?_set_self hbl] at hi
   cases hi
   exact ⟨hB,hok⟩
  rw [List.getElem?_set_ne e] at hi
  exact h.mem.blk i T' l' hi
 ·replace hi : (hp.set b (.blk T l))[i]? = some (.row T' s v n cs):=hi
  by_cases e : b = i
  ·subst e
   rw [List.getElem?_set_self hbl] at hi
   cases hi
  rw [List.getElem?_set_ne e] at hi
  exact h.mem.row i T' s v n cs hi
 ·replace hi : (hp.set b (.blk T l))[i]? = some (.abs A):=hi
  by_cases e : b = i
  ·subst e
   rw [List.getElem?_set_self hbl] at hi
   cases hi
  rw [List.getElem?_set_ne e] at hi
  exact h.mem.abs i A hi
 by_cases e : b = i
 ·subst e
  exact ⟨_,List.getElem?_set_self hbl,fun k=>Iff.rfl⟩
 exact ⟨y,by rw [List.getElem?_set_ne e]; exact hy,hyk⟩
theorem Sat.fills {base : Bs} {fr : List (Nat × SV)} {β : Nat → Nat} {ρ : Fr} {w : World} {η : Nat → Value} {hp : List HE} : ∀ {acc : List HRec},Sat base ⟨fr,hp⟩ β ρ w → (∀ b T l0 l,HRec.sto b T l0 l ∈ acc → (∃ x,hp[b]? = some x ∧ ∀ k,x.mine (β b) k ↔ k = β b) ∧ Blk w (β b) T (d8 β (l η)) ∧ ∀ c ∈ l η,c.Ok hp.length) →
  Sat base ⟨fr,R7 η acc hp⟩ β ρ w ∧ (R7 η acc hp).length = hp.length ∧ (∀ i k,m7 β (R7 η acc hp) i k ↔ m7 β hp i k) ∧ (∀ i x,hp[i]? = some x → (∀ k,x.mine (β i) k ↔ k = β i) → ∃ y,(R7 η acc hp)[i]? = some y ∧ ∀ k,y.mine (β i) k ↔ k = β i):=by
 intro acc
 induction acc with
 | nil=>intro h _; exact ⟨h,rfl,fun i k=>Iff.rfl,fun i x hx hk=>⟨x,hx,hk⟩⟩
 | cons r acc ih=>
  intro h hT
  obtain ⟨h1,h2,h3,h4⟩:=ih h fun b T l0 l hm=>hT b T l0 l (List.mem_cons_of_mem _ hm)
  cases r with
  | val d sv=>exact ⟨h1,h2,h3,h4⟩
  | mk d T l=>exact ⟨h1,h2,h3,h4⟩
  | spec d p Δ=>exact ⟨h1,h2,h3,h4⟩
  | st k l=>exact ⟨h1,h2,h3,h4⟩
  | same=>exact ⟨h1,h2,h3,h4⟩
  | sto b T l0 l=>
   obtain ⟨⟨x,hx,hk⟩,hB,hok⟩:=hT b T l0 l (List.mem_cons_self ..)
   obtain ⟨y,hy,hyk⟩:=h4 b x hx hk
   obtain ⟨q1,q2,q3,q4⟩:=h1.fill hy hyk hB (by rw [h2]; exact hok)
   refine ⟨q1,q2.trans h2,fun i k=>(q3 i k).trans (h3 i k),fun i x hx hk=>?_⟩
   obtain ⟨z,hz,hzk⟩:=h4 i x hx hk
   exact q4 i z hz hzk
theorem HInv.satS {lst : Nat → Prop} {ρ' : Fr} {v : Nat → Value} {β : Nat → Nat} {w' : World} (hS : Sat c.bs st β0 ρ0 w00) (hT : TgOk st t L) (hw : Keeps c.K c.w0 w00) (hlen : L.length = t) (hM : M = st.hp.length + cnt (D2 L t)) (h : HInv c st G t M L β0 ρ0 w00 lst ρ' v β w') (hall : ∀ k,k < t → lst k) :
  Sat c.bs ⟨frH st (D2 L t) v,R7 v (D2 L t) (st.hp ++ S9 v (D2 L t))⟩ β ρ' w' ∧ (aj8 G v (D2 L t)).p (Sof c.S0 β (R7 v (D2 L t) (st.hp ++ S9 v (D2 L t)))) w':=by
 obtain ⟨h1,h2⟩:=h.sat hS hT hw hlen hM hall
 have hlen2 : (st.hp ++ S9 v (D2 L t)).length = M:=by rw [List.length_append,de2,hM]
 obtain ⟨q1,q2,q3,_⟩:=Sat.fills (η:=v) (acc:=D2 L t) h1 fun b T l0 l hm=>by
  obtain ⟨k,hk⟩:=List.mem_iff_getElem?.1 (List.mem_reverse.1 hm)
  rw [List.getElem?_take] at hk
  split at hk
  ·rename_i hkt
   obtain ⟨e1,e2⟩:=hT k b T l0 l hkt hk
   have hbl:=(List.getElem?_eq_some_iff.1 e1).1
   obtain ⟨e3,e4⟩:=(h.sto k hkt b T l0 l hk).2 (hall k hkt) v β h.comp
   have e5:=h.old b hbl
   refine ⟨⟨.hid T l0,by rw [List.getElem?_append_left hbl]; exact e1,fun g=>Iff.rfl⟩,by rw [e5]; exact e3,fun ch hch=>?_⟩
   rw [hlen2]
   exact e4 ch hch
  cases hk
 exact ⟨q1,(aj8 G v (D2 L t)).mono h2 fun k _ hk=>⟨hk.1,fun i hi=>hk.2 i ((q3 i k).1 hi)⟩⟩
end
theorem dk3 {P : Program} {E : Env} {β : Nat → Nat} {m k : Nat} {fr : List (Nat × SV)} {w : World} {ty : TypeId} {ρ : Operand → Value} {o : Op} {T : TypeId} {l : List Ch} {s : SV} (hE : EnvOk P E) (hk : ah6 β m fr ρ o) (h : cb9 E fr k o = some (.mk T l s)) :
  (∀ c ∈ l,c.Ok m) ∧ ∀ d pos aft g,(execOp ρ ⟨d,o,ty,pos,aft,g⟩).run P w = .ok (.value (.pointer (some ⟨w.heap.size,0,none⟩))) (w.alloc (.cells (d8 β l).toArray T)):=by
 unfold cb9 at h
 split at h
 ·obtain ⟨rfl,rfl,h1,h2⟩:=bc6 (P:=P) (m:=m) (β:=β) (w:=w) (ρ:=ρ) (ty:=ty) hE (M4 h).1
  exact ⟨h1,h2⟩
 ·rename_i T' x
  obtain ⟨rfl,rfl,h1,h2⟩:=br0 (P:=P) (w:=w) (ty:=ty) (hk x (by simp [Op.operands])) (M4 h).1
  exact ⟨h1,h2⟩
 cases h
def F9 (o : Out) : List Oper:=match o.cur with | .code (.region _ ops _)=>ops.toList | _=>[]
def cm1 (l : List Oper) (t : Nat) : Bool:=
 a29 [] 0 (l.take t) && bb0 (l.take t) && Nat.ble t l.length && (Nat.beq t l.length || Region.sinkB .any l.toArray t) && Region.chainB .any l.toArray t && Region.seqB .any l.toArray (l.length - t) t (F0 t l.length)
def av1 (o : Out) (t : Nat) : Bool:=match o.cur with | .code (.region _ ops d)=>d && bb7 o.st.hp && cm1 ops.toList t | _=>false
def al8 (bs : List Nat) (st : St) : St:=⟨st.fr,am1 bs st.hp⟩
theorem b29 {b : Nat} : ∀ {acc : List HRec},dh9 (aj9 acc) b = false → ∀ T l0 l,HRec.sto b T l0 l ∉ acc:=by
 intro acc
 induction acc with
 | nil=>intro _ T l0 l h; cases h
 | cons r acc ih=>
  intro h T l0 l hm
  rcases List.mem_cons.1 hm with e | hm
  ·subst e
   simp only [aj9,dh9,Nat.beq_refl,cond_true] at h
   cases h
  refine ih ?_ T l0 l hm
  cases r <;> first | exact h | skip
  rename_i b' T' l0' l'
  simp only [aj9,dh9] at h
  cases hb : Nat.beq b' b with
  | true=>rw [hb] at h; cases h
  | false=>rw [hb] at h; exact h
theorem dp2 [Rd] {c : Cx} {o : Out} {G : Gh} (bs : List Nat) (t : Nat) (hmo : c.P.follows .mixedOrders = true) (hc : c.Ok) (hd : av1 o t = true)
  (h : Hd c (al8 bs o.st) G (F9 o) (fun acc=>∀ η,Run c ⟨.ops (F9 o) ((F9 o).drop t),o.k,⟨frH (al8 bs o.st) acc η,R7 η acc ((al8 bs o.st).hp ++ S9 η acc)⟩,[]⟩ (aj8 G η acc)) [] ((F9 o).take t)) : Run c o G:=by
 refine ⟨fun β0 ρ w hS0 hw0 hG0=>?_⟩
 obtain ⟨cur,k,st0,vc⟩:=o
 unfold av1 at hd
 cases cur with
 | ops all r=>cases hd
 | ex e=>cases hd
 | code x=>
 cases x with
 | region id ops d=>
  simp only [Bool.and_eq_true] at hd
  obtain ⟨⟨rfl,hnh⟩,hchk⟩:=hd
  have e0 : F9 ⟨.code (.region id ops true),k,st0,vc⟩ = ops.toList:=rfl
  rw [e0] at h
  replace h:=h.run
  show WqC c.P c.n (.region id ops true) (kQ c.P c.n c.Q k) ρ w
  rw [show ops = ops.toList.toArray by simp]
  generalize ops.toList = l at h hchk
  simp only [cm1,Bool.and_eq_true,Bool.or_eq_true] at hchk
  obtain ⟨⟨⟨⟨⟨c1,c2⟩,c3⟩,c4⟩,c5⟩,c6⟩:=hchk
  have htl : t ≤ l.length:=Nat.le_of_ble_eq_true c3
  have htk : (l.take t).length = t:=by rw [List.length_take]; omega
  obtain ⟨L,hL,hK,hO⟩:=dl8 _ _ h
  rw [htk] at hL
  simp only [List.append_nil] at hK hO
  have hfull : D2 L t = L.reverse:=by unfold D2; rw [List.take_of_length_le (by omega)]
  have hget : ∀ k (hk : k < t),(l.take t)[k]'(by omega) = l[k]:=fun k hk=>by simp
  have hHd0:=a43 _ _ _ c1
  have hHd : ∀ k (hk : k < t),HOkR (((List.range k).map fun j=>(0 + j,((l.take t)[j]?.bind (·.dst)))).reverse ++ []) (0 + k) ((l.take t)[k]'(by omega)):=fun k hk=>hHd0 k (by omega)
  have hLt:=as3 _ c2
  unfold WqC
  intro hcd D act hmt
  simp only [H1,List.all_eq_true] at hcd
  have hall' : l.all (ad9 c.n) = true:=List.all_eq_true.2 fun o ho=>hcd o (by simpa using ho)
  refine Go.wpIn_region_any hmo ?_
  have hd1 : Ext w { w with drawn:=w.drawn + 1 }:=a57 w
  have hsz : l.toArray.size = t + (l.length - t):=by simp; omega
  have hS1:=hS0.to hd1
  have hw:=hw0.trans (.of hd1)
  have hG1:=G.keep hG0 (.of hd1)
  generalize hw1 : ({ w with drawn:=w.drawn + 1 } : World) = w1 at hS1 hw hG1
  have hS : Sat c.bs (al8 bs st0) β0 ρ w1:=Sat.hide hS1
  have hG : G.p (Sof c.S0 β0 (al8 bs st0).hp) w1:=G.mono hG1 fun k _ h=>c54 k h
  have hB0 : ∀ (b : Nat) (T : TypeId) (l0 : List Ch),(al8 bs st0).hp[b]? = some (HE.hid T l0) → Blk w1 (β0 b) T (d8 β0 l0):=fun b T l0 hb=>by
   rcases af0 hb with h1 | ⟨T',c',h1,h2⟩
   ·exact absurd h1 (bp2 hnh b T l0)
   cases h1
   exact (hS1.mem.blk b T l0 h2).1
  have hok0 : ∀ (b : Nat) (T : TypeId) (l0 : List Ch),(al8 bs st0).hp[b]? = some (HE.hid T l0) → ∀ ch ∈ l0,ch.Ok (al8 bs st0).hp.length:=fun b T l0 hb=>by
   rcases af0 hb with h1 | ⟨T',c',h1,h2⟩
   ·exact absurd h1 (bp2 hnh b T l0)
   cases h1
   rw [show (al8 bs st0).hp.length = st0.hp.length from at7]
   exact (hS1.mem.blk b T l0 h2).2
  clear hS1 hG1
  dsimp only at h hK hO
  generalize al8 bs st0 = st at h hS hG hB0 hok0 hK hO
  have hrec : ∀ k (hk : k < t),∃ h,L[k]? = some h ∧ l[k].dst = h.d ∧ (∀ d,h.d = some d → Nat.blt d c.n = true) ∧ Loc c st G l (D2 L k) l[k] h:=by
   intro k hk
   obtain ⟨h,h1,h2⟩:=hO k (by omega)
   rw [hget k hk] at h2
   have h3 : l[k].dst = h.d:=by cases h <;> exact h2.1
   have h4:=hcd l[k] (by simp)
   refine ⟨h,h1,h3,fun d hd=>?_,h2⟩
   rw [hd] at h3
   have h5:=(K9 h4).1
   simpa [aa4,h3] using h5
  have hT : TgOk st t L:=by
   intro k b T l0 lf hk hg
   obtain ⟨h',h1,_,_,h2⟩:=hrec k hk
   rw [h1] at hg
   cases hg
   obtain ⟨_,h3,h4,_⟩:=h2
   rw [X9] at h4
   refine ⟨h4,fun k' T' l0' l' hk' hg'=>?_⟩
   have mem : ∀ j m,j < m → m ≤ L.length → ∀ r,L[j]? = some r → r ∈ D2 L m:=fun j m hjm hm r hr=>by
    rw [List.mem_reverse]
    refine List.mem_of_getElem? (i:=j) ?_
    rw [List.getElem?_take,if_pos hjm]
    exact hr
   rcases Nat.lt_trichotomy k' k with h | h | h
   ·exact absurd (mem k' k h (by omega) _ hg') (b29 h3 _ _ _)
   ·exact h
   obtain ⟨h',h5,_,_,h6⟩:=hrec k' hk'
   rw [h5] at hg'
   cases hg'
   exact absurd (mem k k' h (by omega) _ h1) (b29 h6.2.1 _ _ _)
  have hkp : ∀ {w' : World},Keeps (NTg t L β0) w1 w' → Keeps c.K c.w0 w':=fun kk=>Keeps.behind hw kk fun i hi hK k b T l0 lf hk hs e=>by
   have h1:=(hS.mem.low b _ (hT.mine hk hs)).1
   rw [← e] at h1
   rcases h1 with h1 | h1
   ·have h2 : c.w0.heap.size ≤ i:=h1
    omega
   exact h1 hK
  have hdk : ∀ k (hk : k < t) h,L[k]? = some h → l[k].dst = h.d:=by
   intro k hk h hh
   obtain ⟨h',h1,h2,_⟩:=hrec k hk
   rw [h1] at hh
   cases hh
   exact h2
  have hapart : ∀ j k (hj : j < t) (hk : k < t) d,j < k → l[j].dst = some d → l[k].dst ≠ some d:=by
   intro j k hj hk d hjk hd hd2
   have hne:=(hHd k hk).dst d (by rw [hget k hk,hd2])
   refine hne (0 + j,((l.take t)[j]?.bind (·.dst))) ?_ ?_
   ·refine List.mem_append_left _ (List.mem_reverse.2 (List.mem_map.2 ⟨j,List.mem_range.2 hjk,rfl⟩))
   rw [List.getElem?_eq_getElem (by omega)]
   simp only [Option.bind_some,hget j hj,hd]
  have huniq : ∀ j k (hj : j < t) (hk : k < t) d,l[j].dst = some d → l[k].dst = some d → j = k:=by
   intro j k hj hk d h1 h2
   rcases Nat.lt_trichotomy j k with h | h | h
   ·exact absurd h2 (hapart j k hj hk d h h1)
   ·exact h
   exact absurd h1 (hapart k j hk hj d h h2)
  let M:=st.hp.length + cnt (D2 L t)
  have hMle : st.hp.length ≤ M:=Nat.le_add_right _ _
  let lsd : Array Bool → Nat → Prop:=fun listed k=>listed.getD k false = true
  let Inv : Array Bool → Act → World → Prop:=fun listed a w'=>∃ ρ' v β,MtI c.n D a ρ' ∧ HInv c st G t M L β0 ρ w1 (lsd listed) ρ' v β w'
  have fin : ∀ listed a w',HeadInv .any l.toArray t listed → unl listed t = 0 → Inv listed a w' → wpAnyIn RF 0 c.P .any l.toArray (aw6 c.n D (kQ c.P c.n c.Q k)) (l.length - t) listed a w':=by
   rintro listed a w' inv h0 ⟨ρ',v,β,hm',hI⟩
   have hz:=a25 h0
   have hcan : listed = F0 t l.length:=by
    refine Array.ext (by rw [inv.size]; simp [F0]) fun i h1 h2=>?_
    have hsz2:=inv.size
    have hil : i < l.length:=by simpa [hsz2] using h1
    by_cases hit : i < t
    ·have h3:=hz i hit
     simp only [Array.getD,h1,dite_true] at h3
     have h4 : listed[i] = true:=h3
     simp [F0,h4,hit]
    have h3:=inv.tail i (by omega) (by simpa using hil)
    simp only [Array.getD,h1,dite_true] at h3
    have h4 : listed[i] = false:=h3
    simp [F0,h4]
    omega
   obtain ⟨hs1,hs2⟩:=hI.satS hS hT hw hL rfl fun k hk=>hz k hk
   have hrun:=(hK v).run β ρ' w' (by rw [hfull] at hs1; exact hs1) (hkp hI.ext) (by rw [hfull] at hs2; exact hs2)
   have hrun' : WqR c.P c.n l (kQ c.P c.n c.Q k) (l.drop t) ρ' w':=hrun
   unfold WqR at hrun'
   have hlen : (l.drop t).length = l.length - t:=by simp
   rw [← hlen]
   refine aq5 (l.drop t) t listed a w' (fun j=>by simp) ?_ (hrun' hall' ?_ _ a hm')
   ·rw [hcan,hlen]; exact c6
   rw [List.all_eq_true]
   intro o ho
   exact hcd o (by simpa using List.mem_of_mem_drop ho)
  have key : ∀ f listed a w',HeadInv .any l.toArray t listed → unl listed t = f → Inv listed a w' → wpAnyIn RF 0 c.P .any l.toArray (aw6 c.n D (kQ c.P c.n c.Q k)) (f + (l.length - t)) listed a w':=by
   intro f
   induction f with
   | zero=>intro listed a w' inv h0 hI; rw [Nat.zero_add]; exact fin listed a w' inv h0 hI
   | succ f ih=>
    intro listed a w' inv hf hI
    rw [show f + 1 + (l.length - t) = (f + (l.length - t)) + 1 by omega]
    obtain ⟨i0,hi0,hl0,hlow⟩:=a77 (show unl listed t ≠ 0 by omega)
    have hsz2:=inv.size
    have hsz3 : listed.size = l.length:=by simpa using hsz2
    have hr0 : i0 ∈ Region.ready .any l.toArray listed:=by
     rw [mem_ready]
     refine ⟨getD_in (by omega) hl0,l[i0],by simp,fun e he hb=>hlow _ ?_⟩
     have:=(hHd i0 hi0).low e (by rw [hget i0 hi0]; exact he) hb
     omega
    refine ⟨fun he=>absurd (he ▸ hr0) (by simp),fun i hi=>?_⟩
    have hit : i < t:=by
     rcases Nat.lt_or_ge i t with h | h
     ·exact h
     ·rcases c4 with c4 | c4
      ·have e:=Nat.eq_of_beq_eq_true c4
       obtain ⟨_,oi,hoi,_⟩:=mem_ready.1 hi
       have h2:=(Array.getElem?_eq_some_iff.1 hoi).1
       simp at h2
       omega
      ·have htl2 : t < l.length:=by
        obtain ⟨_,oi,hoi,_⟩:=mem_ready.1 hi
        have h2:=(Array.getElem?_eq_some_iff.1 hoi).1
        simp at h2
        omega
       exact absurd hi (tail_waits c4 c5 (by simpa using htl2) inv _ i0 rfl hi0 (mem_ready.1 hr0).1 i h)
    obtain ⟨hun,oi,hoi,hdep⟩:=mem_ready.1 hi
    have hoi' : l[i] = oi:=by simpa [hit,show i < l.length by omega] using hoi
    obtain ⟨ρ',v,β,hm',hI⟩:=hI
    obtain ⟨hr,h1,h2,h3,h4⟩:=hrec i hit
    have hH:=hHd i hit
    rw [hget i hit] at hH
    have hnl : ¬ lsd listed i:=fun e=>by
     have:=getD_both hun
     have e' : listed.getD i false = true:=e
     rw [this] at e'
     cases e'
    have hdl : ∀ k,F5 l[i].after.toList k = true → lsd listed k:=by
     intro k hk
     obtain ⟨ed,h5,h6,h7⟩:=an0 hk
     rw [← h7]
     exact hdep ed (by rw [← hoi']; exact Array.mem_toList_iff.1 h5) h6
    have hwait : ∀ k (hk : k < t),k < i → ∀ s,l[k].dst = some s → (s ∈ M6 l[i] ∨ ∃ b,l[i].guard = some (k,b)) → lsd listed k:=by
     intro k hk hki s hks hor
     have h5:=hH.deps (0 + k,((l.take t)[k]?.bind (·.dst))) (List.mem_append_left _ (List.mem_reverse.2 (List.mem_map.2 ⟨k,List.mem_range.2 hki,rfl⟩))) s (by
      rw [List.getElem?_eq_getElem (by omega)]
      simp only [Option.bind_some,hget k hk,hks])
     rcases h5 with h5 | h5
     ·exact hdl k (by simpa using h5)
     rcases hor with h6 | ⟨b,h6⟩
     ·exact absurd h6 h5.1
     exact absurd (by omega) (h5.2 k b h6)
    have hslot : ∀ s,s ∈ M6 l[i] → ∀ k,k < t → ∀ h,L[k]? = some h → h.d = some s → k < i ∧ lsd listed k:=by
     intro s hso k hk h hh he
     have hks:=(hdk k hk h hh).trans he
     have hki : k < i:=by
      rcases Nat.lt_or_ge k i with h' | h'
      ·exact h'
      have:=hLt i k (by omega) (by omega) h' s (by rw [hget k hk]; exact hks)
      rw [hget i hit] at this
      exact absurd hso this
     exact ⟨hki,hwait k hk hki _ hks (.inl hso)⟩
    have hgslot : ∀ j b,l[i].guard = some (j,b) → ∀ g,H6 l j = some g → ∀ k,k < t → ∀ h,L[k]? = some h → h.d = some g → k < i ∧ lsd listed k:=by
     intro j b hg g hgd k hk h hh he
     have hks:=(hdk k hk h hh).trans he
     have hji:=hH.guard j b hg
     have hjt : j < t:=by omega
     have hjs : l[j].dst = some g:=by
      unfold H6 at hgd
      rw [List.getElem?_eq_getElem (by omega)] at hgd
      simpa using hgd
     obtain rfl:=huniq k j hk hjt _ hks hjs
     exact ⟨by omega,hwait k hk (by omega) _ hks (.inr ⟨b,hg⟩)⟩
    have hkn : ∀ {η' β'},Comp st t L β0 (lsd listed) v β η' β' → ah6 β' M (frH st (D2 L i) η') (ev ρ') l[i].op:=by
     intro η' β' hcp x hx
     refine ah0 fun s hxs=>bv2 hS hMle hI (by omega) (by omega) (hslot s ?_) hcp
     subst hxs
     exact List.mem_filterMap.2 ⟨.tmp s,hx,rfl⟩
    have hgk : ∀ {η' β'},Comp st t L β0 (lsd listed) v β η' β' → ∀ j b,l[i].guard = some (j,b) → ∀ g,H6 l j = some g → Kn β' M (L7 (frH st (D2 L i) η') g) (ρ' g):=by
     intro η' β' hcp j b hg g hgd
     exact bv2 hS hMle hI (by omega) (by omega) (hgslot j b hg g hgd) hcp
    have hdeps : ∀ {η' β'},Comp st t L β0 (lsd listed) v β η' β' → depsH (D2 L i) l[i].after.toList η' (SL c st t L β0 (lsd listed) β) w':=by
     refine fun {η' β'} hcp=>⟨fun j hj=>?_⟩
     refine du8 fun n d p Δ r hdr hrl=>?_
     obtain ⟨k,hk,h5,h6⟩:=a08 (by omega) hdr
     have hkj : k = j:=by rw [← hrl,h6,ab3 (by omega)]
     subst hkj
     have hlk:=hdl k hj
     rw [hcp.res k (by omega) hlk d p Δ h5]
     exact hI.spec k (by omega) hlk d p Δ h5
    have hSL0 : ∀ b,SL c st t L β0 (lsd listed) β b → c.S0 b:=fun b q=>q.1.1
    have hw':=hkp hI.ext
    have hcv:=hI.comp
    have hu : ∀ d,hr.d = some d → ∀ k,k < t → ∀ h,L[k]? = some h → h.d = some d → k = i:=fun d hd k hk h hh he=>huniq k i hk hit d ((hdk k hk h hh).trans he) (h2.trans hd)
    have hset : lsd (listed.setIfInBounds i true) = fun k=>k = i ∨ lsd listed k:=by
     funext k
     refine propext ⟨fun q=>?_,fun q=>?_⟩
     ·by_cases e : k = i
      ·exact .inl e
      refine .inr ?_
      have q' : (listed.setIfInBounds i true).getD k false = true:=q
      rw [getD_set_ne false (fun e'=>e e'.symm)] at q'
      exact q'
     show (listed.setIfInBounds i true).getD k false = true
     by_cases e : i = k
     ·subst e
      simp [show i < listed.size by omega]
     rw [getD_set_ne false e]
     rcases q with e' | q
     ·exact absurd e'.symm e
     exact q
    have hnext0 : ∀ x ρ2 w2 v2 β2,MtI c.n D (a.put l[i].dst x) ρ2 → HInv c st G t M L β0 ρ w1 (fun k=>k = i ∨ lsd listed k) ρ2 v2 β2 w2 → wpAnyIn RF 0 c.P .any l.toArray (aw6 c.n D (kQ c.P c.n c.Q k)) (f + (l.length - t)) (listed.setIfInBounds i true) (a.put l[i].dst x) w2:=by
     intro x ρ2 w2 v2 β2 hm2 hI2
     refine ih _ _ _ (inv.set hi hit) ?_ ⟨ρ2,v2,β2,hm2,hset ▸ hI2⟩
     rw [bs8 (by omega) (getD_both hun),if_pos hit]; omega
    have hnext : ∀ d,hr.d = some d → ∀ x w2 v2 β2,HInv c st G t M L β0 ρ w1 (fun k=>k = i ∨ lsd listed k) (upd ρ' d x) v2 β2 w2 → wpAnyIn RF 0 c.P .any l.toArray (aw6 c.n D (kQ c.P c.n c.Q k)) (f + (l.length - t)) (listed.setIfInBounds i true) (a.put l[i].dst x) w2:=by
     intro d hd x w2 v2 β2 hI2
     refine hnext0 x _ w2 v2 β2 ?_ hI2
     rw [h2,hd]
     exact hm'.put (h3 d hd) x
    have hio : (l.toArray)[i]? = some l[i]:=by simp
    have hnd : av2 l[i] = true ∧ c37 c.n l[i] = true:=(K9 (hcd l[i] (by simp))).2
    unfold wpOpIn
    simp only [hio]
    cases hr with
    | val d sv=>
     obtain ⟨_,hv1⟩:=h4
     have hall : ∀ {η' β'},Comp st t L β0 (lsd listed) v β η' β' → (sv η').Ok M ∧ ((Region.wanted l[i] (yielded l.toArray a.tmps) = true ∧ (execOp (ev ρ') l[i]).run c.P w' = .ok (.value ((sv η').den β')) w') ∨ (Region.wanted l[i] (yielded l.toArray a.tmps) = false ∧ (sv η').den β' = undef)):=by
      intro η' β' hcp
      obtain ⟨s,vc',h5,h6⟩:=hv1 η'
      obtain ⟨h7,h8⟩:=h6 _ w' hw' hSL0 hI.gh (hdeps hcp)
      have hMm : Mem c.bs st.hp β' w':=(hT.mem hS.mem hI.ext).congr hcp.old
      obtain ⟨h9,h10⟩:=dk9 hc.env hMle hall' hm' hMm (hkn hcp) (hgk hcp) h5 h7
      obtain ⟨e1,e2⟩:=h8 β'
      rw [e1] at h10
      exact ⟨e2 M h9,h10⟩
     obtain ⟨g1,g2⟩:=hall hcv
     rcases g2 with ⟨g2,g3⟩ | ⟨g2,g3⟩
     ·rw [if_pos g2]
      refine ⟨fun f _=>ac9 f,?_⟩
      rw [H5 hnd.1,hm'.exec hnd.2,g3]
      refine hnext d rfl _ w' v β (hI.put hit h1 (hu d rfl) fun η' β' hcp=>?_)
      obtain ⟨g4,g5⟩:=hall hcp
      refine ⟨?_,g4⟩
      rcases g5 with ⟨_,g5⟩ | ⟨g5,_⟩
      ·rw [g3] at g5
       simpa using g5
      rw [g2] at g5; cases g5
     rw [if_neg (by rw [g2]; simp)]
     refine ⟨fun f _=>ac9 f,?_⟩
     have g6:=hnext d rfl undef w' v β (hI.put hit h1 (hu d rfl) fun η' β' hcp=>?_)
     ·exact g6
     obtain ⟨g4,g5⟩:=hall hcp
     refine ⟨?_,g4⟩
     rcases g5 with ⟨g5,_⟩ | ⟨_,g5⟩
     ·rw [g2] at g5; cases g5
     exact g5.symm
    | mk d T lc=>
     obtain ⟨_,hv1⟩:=h4
     have hall : ∀ {η' β'},Comp st t L β0 (lsd listed) v β η' β' → (∀ ch ∈ lc η',ch.Ok M) ∧ (execOp (ev ρ') l[i]).run c.P w' = .ok (.value (.pointer (some ⟨w'.heap.size,0,none⟩))) (w'.alloc (.cells (d8 β' (lc η')).toArray T)):=by
      intro η' β' hcp
      obtain ⟨g1,g2⟩:=dk3 (P:=c.P) (w:=w') (ty:=l[i].type) hc.env (hkn hcp) (hv1 η').2
      exact ⟨g1,g2 _ _ _ _⟩
     obtain ⟨g1,g2⟩:=hall hcv
     rw [if_pos (ac3 hall' hm' (hgk hcv) (hv1 v).1)]
     refine ⟨fun f _=>ac9 f,?_⟩
     rw [H5 hnd.1,hm'.exec hnd.2,g2]
     refine hnext d rfl _ _ v _ (hI.new hS hL hit hnl h1 (hu d rfl) ?_ fun η' β' hcp=>?_)
     ·have:=ca7 (L:=L) (i:=t) (by omega) hit h1
      show st.hp.length + cnt (D2 L i) < st.hp.length + cnt (D2 L t)
      omega
     obtain ⟨g3,g4⟩:=hall hcp
     refine ⟨?_,g3⟩
     rw [g2] at g4
     simp only [Result.ok.injEq,true_and] at g4
     have g5:=congrArg (fun w : World=>w.heap[w'.heap.size]?) g4
     simp only [heap_alloc_new] at g5
     simpa using g5
    | st k0 lv=>
     obtain ⟨hdn,he0,hprev,d0,T0,lc0,hmk0,hv1⟩:=h4
     have hki : k0 < i:=by
      have h5:=(List.getElem?_eq_some_iff.1 hmk0).1
      simp at h5
      omega
     have hback : ∀ j,j < i → (D2 L i).reverse[j]? = L[j]?:=fun j hj=>by
      unfold D2
      rw [List.reverse_reverse,List.getElem?_take,if_pos hj]
     have hL0 : L[k0]? = some (.mk d0 T0 lc0):=by rw [← hback k0 hki]; exact hmk0
     have hlk:=hdl k0 he0
     have hord : ∀ j l',j < t → L[j]? = some (HRec.st k0 l') → (lsd listed j ↔ j < i):=by
      intro j l' hj hg
      refine ⟨fun hlj=>?_,fun hji=>hdl j (hprev j l' (by rw [hback j hji]; exact hg))⟩
      rcases Nat.lt_trichotomy j i with h | h | h
      ·exact h
      ·exact absurd (h ▸ hlj) hnl
      exact absurd ((hI.stl j hj hlj k0 l' hg).2 i lv h h1) hnl
     have hdrop : (D2 L i).drop ((D2 L i).length - k0) = D2 L k0:=by
      have h5:=ax2 (by omega) hki hL0
      rw [ab3 (by omega)]
      have h6:=congrArg (List.drop 1) h5
      rw [List.drop_drop] at h6
      rw [show i - k0 = i - 1 - k0 + 1 by omega]
      simpa using h6
     obtain ⟨m1,m2,lf,hC,m3⟩:=hI.made k0 (by omega) hlk d0 T0 lc0 hL0
     have hcur:=hC.eq (show i ≤ L.length by omega) (by omega) hord
     have hidx : M0 st L k0 = st.hp.length + cnt (D2 L k0):=rfl
     have hall : ∀ {η' β'},Comp st t L β0 (lsd listed) v β η' β' → (∀ ch ∈ lv η',ch.Ok M) ∧ ∃ w2,Wrt (β (M0 st L k0)) w' w2 ∧ Blk w2 (β (M0 st L k0)) T0 (d8 β' (lv η')) ∧ (execOp (ev ρ') l[i]).run c.P w' = .ok .skip w2:=by
      intro η' β' hcp
      obtain ⟨b1,b2⟩:=m3 η' β' hcp
      have e1 : β' (M0 st L k0) = β (M0 st L k0):=hcp.blk k0 (by omega) hlk d0 T0 lc0 hL0
      have h5:=(hv1 η').2
      rw [hcur,hdrop,← hidx] at h5
      obtain ⟨g1,w2,g2,g3,g4⟩:=b93 (P:=c.P) (ty:=l[i].type) hc.env (hkn hcp) b2 (e1 ▸ b1) h5
      rw [e1] at g2 g3
      exact ⟨g1,w2,g2,g3,g4 _ _ _ _⟩
     obtain ⟨g1,w2,g2,g3,g4⟩:=hall hcv
     rw [if_pos (ac3 hall' hm' (hgk hcv) (hv1 v).1)]
     refine ⟨fun f _=>ac9 f,?_⟩
     rw [H5 hnd.1,hm'.exec hnd.2,g4]
     refine hnext0 undef ρ' w2 v β (by rw [h2]; exact hm') (hI.store hS hT hit (by omega) hlk h1 hL0 hord g2 fun η' β' hcp=>?_)
     obtain ⟨g5,w3,g6,g7,g8⟩:=hall hcp
     rw [g4] at g8
     simp only [Result.ok.injEq,true_and] at g8
     subst g8
     exact ⟨g7,g5⟩
    | sto b T0 l0 lv=>
     obtain ⟨hdn,hmn,hnt,hv1⟩:=h4
     have hm:=hT.mine (β0:=β0) hit h1
     have hb0:=((hI.sto i hit b T0 l0 lv h1).1 hnl)
     have hbl : b < st.hp.length:=(List.getElem?_eq_some_iff.1 (hT i b T0 l0 lv hit h1).1).1
     have hall : ∀ {η' β'},Comp st t L β0 (lsd listed) v β η' β' → (∀ ch ∈ lv η',ch.Ok M) ∧ ∃ w2,Wrt (β0 b) w' w2 ∧ Blk w2 (β0 b) T0 (d8 β' (lv η')) ∧ (execOp (ev ρ') l[i]).run c.P w' = .ok .skip w2:=by
      intro η' β' hcp
      have e1 : β' b = β0 b:=hcp.old b hbl
      have hb1 : Blk w' (β' b) T0 (d8 β' l0):=by
       rw [e1,L3 (m:=st.hp.length) hcp.old (hok0 b T0 l0 (hT i b T0 l0 lv hit h1).1)]
       exact hb0
      obtain ⟨g1,w2,g2,g3,g4⟩:=b93 (P:=c.P) (ty:=l[i].type) hc.env (hkn hcp) (fun ch hch=>(hok0 b T0 l0 (hT i b T0 l0 lv hit h1).1 ch hch).le hMle) hb1 (hv1 η').2
      rw [e1] at g2 g3
      exact ⟨g1,w2,g2,g3,g4 _ _ _ _⟩
     obtain ⟨g1,w2,g2,g3,g4⟩:=hall hcv
     rw [if_pos (ac3 hall' hm' (hgk hcv) (hv1 v).1)]
     refine ⟨fun f _=>ac9 f,?_⟩
     rw [H5 hnd.1,hm'.exec hnd.2,g4]
     refine hnext0 undef ρ' w2 v β (by rw [h2]; exact hm') (hI.stoT hS hT hit h1 g2 fun η' β' hcp=>?_)
     obtain ⟨g5,w3,g6,g7,g8⟩:=hall hcp
     rw [g4] at g8
     simp only [Result.ok.injEq,true_and] at g8
     subst g8
     exact ⟨g7,g5⟩
    | same=>
     obtain ⟨hdn,hv1⟩:=h4
     obtain ⟨g1,g2⟩:=hv1 v
     have g4:=g2 β ρ' w' M (hkn hcv) ((hT.mem hS.mem hI.ext).congr hcv.old)
     rw [if_pos (ac3 hall' hm' (hgk hcv) g1)]
     refine ⟨fun f _=>ac9 f,?_⟩
     rw [H5 hnd.1,hm'.exec hnd.2,g4]
     exact hnext0 undef ρ' w' v β (by rw [h2]; exact hm') (hI.same h1)
    | spec d p Δ=>
     obtain ⟨_,hv1⟩:=h4
     obtain ⟨g1,g2⟩:=hv1 v
     have hup : Up (SL c st t L β0 (lsd listed) β) w':=fun b hb=>⟨⟨hc.up b (Nat.le_trans hw'.size hb),fun j hj=>by
       have q1:=(hS.mem.low j b hj).2
       have q2:=hI.ext.size
       omega⟩,fun j hj hlj d' T lc hg=>by
       have q1:=(hI.made j hj hlj d' T lc hg).2.1
       omega⟩
     have g3:=g2 β _ w' ρ' M (hkn hcv) hup ((hT.mem hS.mem hI.ext).congr hcv.old) hSL0 hw' hI.gh (hdeps hcv)
     rw [if_pos (ac3 hall' hm' (hgk hcv) g1)]
     refine ⟨fun f _=>ac9 f,?_⟩
     rw [H5 hnd.1,hm'.exec hnd.2]
     unfold b95 at g3
     split at g3
     ·rename_i x w2 hx
      rw [hx]
      obtain ⟨q1,q2,q3,q4⟩:=g3
      exact hnext d rfl x w2 _ β (hI.res hit hnl h1 (hu d rfl) q1 q2 q3 q4)
     ·rename_i f' args w2 hx
      rw [hx]
      refine ⟨aq8,ao2 ?_⟩
      unfold GivesE at g3
      rw [Array.toArray_toList] at g3
      refine Calls.mono g3 fun e w3 he=>?_
      cases e with
      | returned x=>
       obtain ⟨q1,q2,q3,q4⟩:=he
       exact hnext d rfl x w3 _ β (hI.res hit hnl h1 (hu d rfl) q1 q2 q3 q4)
      | panicked ch=>exact ⟨ρ',hm',ak6 (he ρ')⟩
      | outgrown=>exact he.elim
     exact g3.elim
  have hs:=key t (Array.replicate l.toArray.size false) act w1
   ⟨by simp,fun j oj _ hl=>(by rw [getD_replicate_false] at hl; cases hl),fun k _ hk=>getD_in (by simpa using hk) (getD_replicate_false _ _)⟩
   (bs9 _ _ (by simp; omega)) ⟨ρ,fun _=>undef,β0,hmt,?_⟩
  ·rwa [← hsz] at hs
  have hno : ∀ k,¬ lsd (Array.replicate l.toArray.size false) k:=fun k e=>by
   have e' : (Array.replicate l.toArray.size false).getD k false = true:=e
   rw [getD_replicate_false] at e'
   cases e'
  refine ⟨.refl,fun _ _=>rfl,fun _ _=>rfl,fun k _ hk=>absurd hk (hno k),fun k _ hk=>absurd hk (hno k),fun k _ hk=>absurd hk (hno k),fun k _ _ _ hk=>absurd hk (hno k),G.mono hG fun b _ q=>⟨q,fun k _ hk=>absurd hk (hno k)⟩,fun k _ hk=>absurd hk (hno k),fun k hk b T l0 lf hg=>⟨fun _=>hB0 b T l0 (hT k b T l0 lf hk hg).1,fun hl=>absurd hl (hno k)⟩⟩
 | _=>cases hd
def b72 : Option Eff → List Ch
 | some (.mk _ l _)=>l
 | _=>[]
def η0 : Nat → Value:=fun _=>undef
def cn1 : Op → Option TypeId
 | .alloc T=>some T
 | .box T _=>some T
 | _=>none
def aq3 (m0 b : Nat) : List HRec → Option (Nat × ((Nat → Value) → List Ch))
 | []=>none
 | .mk _ _ l :: r=>bif Nat.beq b (m0 + cnt r) then some (r.length,l) else aq3 m0 b r
 | .val _ _ :: r=>aq3 m0 b r
 | .spec _ _ _ :: r=>aq3 m0 b r
 | .st _ _ :: r=>aq3 m0 b r
 | .same :: r=>aq3 m0 b r
 | .sto _ _ _ _ :: r=>aq3 m0 b r
theorem c68 {m0 b k : Nat} {l : (Nat → Value) → List Ch} : ∀ {acc : List HRec},aq3 m0 b acc = some (k,l) → ∃ n d T r,acc.drop n = .mk d T l :: r ∧ r.length = k ∧ b = m0 + cnt r:=by
 intro acc
 induction acc with
 | nil=>intro h; cases h
 | cons x r ih=>
  intro h
  have next : aq3 m0 b r = some (k,l) → ∃ n d T q,(x :: r).drop n = .mk d T l :: q ∧ q.length = k ∧ b = m0 + cnt q:=fun h=>by
   obtain ⟨n,d,T,q,h1,h2⟩:=ih h
   exact ⟨n + 1,d,T,q,by simpa using h1,h2⟩
  cases x with
  | val d sv=>exact next h
  | spec d p Δ=>exact next h
  | st k l=>exact next h
  | same=>exact next h
  | sto _ _ _ _=>exact next h
  | mk d T lc=>
   simp only [aq3] at h
   cases hb : Nat.beq b (m0 + cnt r) with
   | false=>rw [hb] at h; exact next h
   | true=>
    rw [hb] at h
    simp only [cond_true,Option.some.injEq,Prod.mk.injEq] at h
    obtain ⟨rfl,rfl⟩:=h
    exact ⟨0,d,T,r,rfl,rfl,Nat.eq_of_beq_eq_true hb⟩
theorem d26 {acc r : List HRec} {h : HRec} {n : Nat} (e : acc.drop n = h :: r) : acc.reverse[r.length]? = some h ∧ acc.drop (acc.length - r.length) = r:=by
 have hl:=congrArg List.length e
 simp only [List.length_drop,List.length_cons] at hl
 have h1 : acc[n]? = some h:=by
  have:=congrArg (fun l : List HRec=>l[0]?) e
  simpa using this
 refine ⟨?_,?_⟩
 ·rw [List.getElem?_reverse (by omega),show acc.length - 1 - r.length = n by omega]
  exact h1
 rw [show acc.length - r.length = n + 1 by omega,← List.drop_drop,e]
 rfl
def ag0 (k : Nat) (es : List Edge) : List HRec → Bool
 | []=>true
 | .st k' _ :: r=>(bif Nat.beq k' k then F5 es r.length else true) && ag0 k es r
 | .val _ _ :: r=>ag0 k es r
 | .spec _ _ _ :: r=>ag0 k es r
 | .mk _ _ _ :: r=>ag0 k es r
 | .same :: r=>ag0 k es r
 | .sto _ _ _ _ :: r=>ag0 k es r
theorem cw6 {k : Nat} {es : List Edge} : ∀ {acc : List HRec},ag0 k es acc = true → ∀ (j : Nat) l',acc.reverse[j]? = some (HRec.st k l') → F5 es j = true:=by
 intro acc
 induction acc with
 | nil=>intro _ j l' h; simp at h
 | cons x r ih=>
  intro h j l' hj
  rw [List.reverse_cons] at hj
  have next : ag0 k es r = true → j < r.length → F5 es j = true:=fun h hjr=>by
   rw [List.getElem?_append_left (by simpa using hjr)] at hj
   exact ih h j l' hj
  have hlast : ¬ j < r.length → j = r.length ∧ x = HRec.st k l':=fun hn=>by
   have h1:=(List.getElem?_eq_some_iff.1 hj).1
   simp at h1
   obtain rfl : j = r.length:=by omega
   simpa using hj
  rcases Nat.lt_or_ge j r.length with hjr | hjr
  ·cases x with
   | st k' l=>simp only [ag0,Bool.and_eq_true] at h; exact next h.2 hjr
   | val d sv=>exact next h hjr
   | spec d p Δ=>exact next h hjr
   | mk d T lc=>exact next h hjr
   | same=>exact next h hjr
   | sto _ _ _ _=>exact next h hjr
  obtain ⟨rfl,rfl⟩:=hlast (by omega)
  simp only [ag0,Bool.and_eq_true,Nat.beq_refl,cond_true] at h
  exact h.1
def storeAt (st : St) (acc : List HRec) : Op → Option (Nat × Nat × ((Nat → Value) → List Ch))
 | .store _ x _=>match opd (frH st acc η0) x with
  | some (.one (.ptr b _))=>(aq3 st.hp.length b acc).map fun p=>(b,p)
  | _=>none
 | _=>none
theorem ch0 {st : St} {acc : List HRec} {o : Op} {b k : Nat} {lc : (Nat → Value) → List Ch} (h : storeAt st acc o = some (b,k,lc)) : ∃ d T,acc.reverse[k]? = some (.mk d T lc) ∧ b = st.hp.length + cnt (acc.drop (acc.length - k)):=by
 unfold storeAt at h
 split at h <;> first | (cases h; done) | skip
 split at h <;> first | (cases h; done) | skip
 rename_i b' o' _
 cases hm : aq3 st.hp.length b' acc with
 | none=>rw [hm] at h; cases h
 | some p=>
  rw [hm] at h
  simp only [Option.map_some,Option.some.injEq,Prod.mk.injEq] at h
  obtain ⟨rfl,rfl⟩:=h
  obtain ⟨n,d,T,r,h1,h2,h3⟩:=c68 hm
  obtain ⟨h4,h5⟩:=d26 h1
  subst h2
  exact ⟨d,T,h4,by rw [h5]; exact h3⟩
noncomputable def cm7 (E : Env) (all : List Oper) (st : St) (acc : List HRec) (o : Oper) : HRec:=
 match storeAt st acc o.op with
 | some (b,k,lc)=>.st k (fun η=>(bi4 E (frH st acc η) b (((aj3 acc k).getD lc) η) o.op).getD [])
 | none=>match cn1 o.op,I7 all (frH st acc η0) o with
  | some T,true=>.mk (o.dst.getD 0) T (fun η=>b72 (cb9 E (frH st acc η) (st.hp.length + cnt acc) o.op))
  | _,_=>.val (o.dst.getD 0) (fun η=>match ad6 E st.hp all (frH st acc η) o with | some (s,_)=>s | none=>.und)
noncomputable def cj3 (E : Env) (all : List Oper) (st : St) (acc : List HRec) (o : Oper) (η : Nat → Value) : Bool:=
 match storeAt st acc o.op with
 | some (b,k,lc)=>o.dst.isNone && F5 o.after.toList k && ag0 k o.after.toList acc && I7 all (frH st acc η) o && (bi4 E (frH st acc η) b (((aj3 acc k).getD lc) η) o.op).isSome
 | none=>o.dst.isSome && match cn1 o.op,I7 all (frH st acc η0) o with
  | some _,true=>I7 all (frH st acc η) o && (match cb9 E (frH st acc η) (st.hp.length + cnt acc) o.op with | some _=>true | none=>false)
  | _,_=>match ad6 E st.hp all (frH st acc η) o with | some (_,[])=>true | _=>false
noncomputable def c60 (E : Env) (all : List Oper) (st : St) : Nat → List HRec → List Oper → List HRec
 | 0,acc,_=>acc
 | _ + 1,acc,[]=>acc
 | n + 1,acc,o :: r=>c60 E all st n (cm7 E all st acc o :: acc) r
noncomputable def be2 (E : Env) (all : List Oper) (st : St) (η : Nat → Value) : Nat → List HRec → List Oper → Bool
 | 0,_,_=>true
 | _ + 1,_,[]=>false
 | n + 1,acc,o :: r=>cj3 E all st acc o η && be2 E all st η n (cm7 E all st acc o :: acc) r
theorem ct8 {E : Env} {fr : List (Nat × SV)} {k : Nat} {o : Op} {e : Eff} (h : cb9 E fr k o = some e) : ∃ T l,cn1 o = some T ∧ e = .mk T l (.one (.ptr k 0)):=by
 unfold cb9 at h
 split at h
 ·obtain ⟨h1,T',l,s,rfl⟩:=M4 h
  unfold ar9 at h1
  cases ht : E.get _ with
  | none=>rw [ht] at h1; cases h1
  | some ti=>rw [ht] at h1; simp only [Option.map_some,Option.some.injEq,Eff.mk.injEq] at h1; obtain ⟨rfl,rfl,rfl⟩:=h1; exact ⟨_,_,rfl,rfl⟩
 ·obtain ⟨h1,T',l,s,rfl⟩:=M4 h
  unfold bi6 at h1
  split at h1 <;> first | (cases h1; done) | skip
  rename_i xv _
  cases hc : SV.chunks xv with
  | none=>rw [hc] at h1; cases h1
  | some l2=>rw [hc] at h1; simp only [Option.map_some,Option.some.injEq,Eff.mk.injEq] at h1; obtain ⟨rfl,rfl,rfl⟩:=h1; exact ⟨_,_,rfl,rfl⟩
 cases h
section
variable {c : Cx} {st : St} {G : Gh} {all : List Oper} {K : List HRec → Prop} {acc : List HRec} {ops : List Oper}
theorem cr5 {o : Oper} (h : ∀ η,cj3 c.E all st acc o η = true) : Loc c st G all acc o (cm7 c.E all st acc o):=by
 unfold cj3 at h
 unfold cm7
 cases hsa : storeAt st acc o.op with
 | some p=>
  obtain ⟨b,k,lc⟩:=p
  simp only [hsa,Bool.and_eq_true] at h
  obtain ⟨d,T,h1,h2⟩:=ch0 hsa
  have h0:=h η0
  refine ⟨by simpa using h0.1.1.1.1,h0.1.1.1.2,cw6 h0.1.1.2,d,T,lc,h1,fun η=>⟨(h η).1.2,?_⟩⟩
  rw [← h2]
  have h3:=(h η).2
  cases he : bi4 c.E (frH st acc η) b (((aj3 acc k).getD lc) η) o.op with
  | none=>rw [he] at h3; cases h3
  | some l=>simp [he]
 | none=>
 simp only [hsa] at h
 have hd : o.dst = some (o.dst.getD 0):=by
  have:=h η0
  simp only [Bool.and_eq_true] at this
  cases hx : o.dst with
  | none=>rw [hx] at this; cases this.1
  | some d=>rfl
 have plain : (∀ η,(match ad6 c.E st.hp all (frH st acc η) o with | some (_,[])=>true | _=>false) = true) →
   Loc c st G all acc o (.val (o.dst.getD 0) (fun η=>match ad6 c.E st.hp all (frH st acc η) o with | some (s,_)=>s | none=>.und)):=by
  intro h2
  refine ⟨hd,fun η=>?_⟩
  have h3:=h2 η
  split at h3 <;> first | (cases h3; done) | skip
  rename_i s he
  exact ⟨s,[],he,fun S w _ _ _ _=>⟨trivial,fun β=>by simp only [he]; exact ⟨trivial,fun m hm=>hm⟩⟩⟩
 cases hm : cn1 o.op with
 | none=>
  simp only [hm,Bool.and_eq_true] at h
  exact plain fun η=>(h η).2
 | some T=>
  cases hg : I7 all (frH st acc η0) o with
  | false=>
   simp only [hm,hg,Bool.and_eq_true] at h
   exact plain fun η=>(h η).2
  | true=>
   simp only [hm,hg,Bool.and_eq_true] at h
   refine ⟨hd,fun η=>⟨(h η).2.1,?_⟩⟩
   have h2:=(h η).2.2
   split at h2 <;> first | (cases h2; done) | skip
   rename_i e he
   obtain ⟨T',l,h3,rfl⟩:=ct8 he
   rw [hm] at h3
   simp only [Option.some.injEq] at h3
   subst h3
   simp only [he,b72]
theorem dy0 (n : Nat) (h : ∀ η,be2 c.E all st η n acc ops = true) (k : Hd c st G all K (c60 c.E all st n acc ops) (ops.drop n)) : Hd c st G all K acc ops:=by
 induction n generalizing acc ops with
 | zero=>exact k
 | succ n ih=>
  cases ops with
  | nil=>have:=h η0; cases this
  | cons o r=>
   simp only [be2,Bool.and_eq_true] at h
   exact ⟨⟨_,cr5 fun η=>(h η).1,(ih (fun η=>(h η).2) k).run⟩⟩
theorem d9 (n : Nat) (k : Hd c st G all K (c60 c.E all st n acc ops) (ops.drop n)) (h : ∀ η,be2 c.E all st η n acc ops = true:=by intros; kernel_rfl) : Hd c st G all K acc ops:=
 dy0 n h k
def opH (ops : List Oper) : Oper := match ops with | o :: _ => o | [] => ⟨none, .alloc 0, 0, "", #[], none⟩
def cg5 (st : St) (acc : List HRec) (ops : List Oper) (η : Nat → Value) : Out:=⟨.ops [] [⟨(opH ops).dst,(opH ops).op,(opH ops).type,(opH ops).pos,(opH ops).after,none⟩],[],⟨frH st acc η,st.hp⟩,[]⟩
def an1 (all : List Oper) (st : St) (acc : List HRec) (ops : List Oper) (f : FuncId) (η : Nat → Value) : Bool:=J0 f (cg5 st acc ops η) && I7 all (frH st acc η) (opH ops) && !ops.isEmpty
theorem c40 {o : Out} {f : FuncId} {all : List Oper} {o1 : Oper} {r : List Oper} (hf : J0 f o = true) (hcur : o.cur = .ops all (o1 :: r)) : o1.dst = some (o1.dst.getD 0):=by
 unfold J0 at hf
 cases hco : ak2 o.st o.cur with
 | none=>rw [hco] at hf; cases hf
 | some x=>
  rw [hcur] at hco
  unfold ak2 at hco
  simp only at hco
  split at hco <;> first | (cases hco; done) | skip
  rename_i d' cl hg hd hop
  rw [hd]
  rfl
theorem cx0 {o : Out} {f : FuncId} [ci : CallI c.P f] {β : Nat → Nat} {F : Fr} {w : World} {m : Nat} {all : List Oper} {o1 : Oper} {r : List Oper} (hf : J0 f o = true) (hcur : o.cur = .ops all (o1 :: r)) (hk : ah6 β m o.st.fr (ev F) o1.op) :
  ∀ d pos aft g,(execOp (ev F) ⟨d,o1.op,o1.type,pos,aft,g⟩).run c.P w = .ok (.enter f ((C0 o).map (SV.den β)).toArray) w:=by
 unfold J0 at hf
 cases hco : ak2 o.st o.cur with
 | none=>rw [hco] at hf; cases hf
 | some x=>
  obtain ⟨g,l,d⟩:=x
  rw [hco] at hf
  obtain rfl : g = f:=Nat.eq_of_beq_eq_true hf
  have hargs : C0 o = l:=by unfold C0; rw [hco]
  rw [hcur] at hco
  unfold ak2 at hco
  simp only at hco
  split at hco <;> first | (cases hco; done) | skip
  rename_i d' cl hg hd hop
  split at hco <;> first | (cases hco; done) | skip
  rename_i x hcl
  split at hco <;> first | (cases hco; done) | skip
  rename_i f' cap hx
  split at hco <;> first | (cases hco; done) | skip
  rename_i l' hl
  simp only [Option.some.injEq,Prod.mk.injEq] at hco
  obtain ⟨rfl,rfl,rfl⟩:=hco
  rw [hop] at hk
  have hmem : ∀ y,y = x ∨ y ∈ cl.args.toList → y ∈ (Op.call cl).operands.toList:=by
   intro y hy
   simp only [Op.operands,Call.operands,hcl,Array.toList_append,List.mem_append]
   rcases hy with rfl | hy
   ·left; simp
   exact .inr hy
  have h1:=(hk x (hmem x (.inl rfl)) _ hx).1
  have h2 : cl.args.toList.map (ev F) = l'.map (SV.den β):=by
   have aux : ∀ (xs : List Operand) (l : List SV),(∀ y ∈ xs,y ∈ cl.args.toList) → a41 (xs.map (opd o.st.fr)) = some l → xs.map (ev F) = l.map (SV.den β):=by
    intro xs
    induction xs with
    | nil=>intro l _ h; simp only [List.map_nil,a41,Option.some.injEq] at h; subst h; rfl
    | cons x r ih=>
     intro l hm h
     simp only [List.map_cons,a41] at h
     split at h <;> first | (cases h; done) | skip
     rename_i s l' e1 e2
     simp only [Option.some.injEq] at h
     subst h
     rw [List.map_cons,List.map_cons,ih l' (fun y hy=>hm y (List.mem_cons_of_mem _ hy)) e2,(hk x (hmem x (.inr (hm x (List.mem_cons_self ..)))) _ e1).1]
   exact aux _ _ (fun y hy=>hy) hl
  intro d pos aft g
  rw [hargs,List.map_append,bo1,← h2,hop]
  obtain ⟨callee,args,ts⟩:=cl
  simp only at hcl
  subst hcl
  simp [execOp,resolve,Deferred.ofValue,h1,SV.den,Ch.den,invoke,ci.run]
theorem dh5 (f : FuncId) [ci : CallI c.P f] (p : Value → SV) (Δ : Value → Gh) (hf : ∀ η,an1 all st acc ops f η = true)
  (h : ∀ β η S w,Up S w → (∀ k,S k → c.S0 k) → Keeps c.K c.w0 w → G.p S w → depsH acc (opH ops).after.toList η S w → ∃ args,(C0 (cg5 st acc ops η)).map (SV.den β) = args ∧
   GivesE c.P f args w (fun v w'=>Ext w w' ∧ v = (p v).den (fun _=>0) ∧ (p v).Ok 0 ∧ (Δ v).p S w') fun ch w'=>∀ ρ,c.Q (.panic ch) ρ w')
  (k : Hd c st G all K (.spec ((opH ops).dst.getD 0) p Δ :: acc) (ops.drop 1)) : Hd c st G all K acc ops:=by
 cases ops with
 | nil=>have:=hf η0; simp [an1] at this
 | cons o r=>
  have hk : ∀ η,J0 f (cg5 st acc (o :: r) η) = true ∧ I7 all (frH st acc η) o = true:=fun η=>by
   have:=hf η
   simp only [an1,Bool.and_eq_true] at this
   exact ⟨this.1.1,this.1.2⟩
  refine ⟨⟨.spec ((opH (o :: r)).dst.getD 0) p Δ,⟨?_,fun η=>⟨(hk η).2,?_⟩⟩,k.run⟩⟩
  ·exact c40 (o1:=⟨o.dst,o.op,o.type,o.pos,o.after,none⟩) (hk η0).1 rfl
  intro β S w F m hkn hup hM hS hw hG hd
  obtain ⟨args,ha,hg⟩:=h β η S w hup hS hw hG hd
  have h2:=cx0 (c:=c) (w:=w) (o1:=⟨o.dst,o.op,o.type,o.pos,o.after,none⟩) (hk η).1 rfl hkn
  unfold b95
  obtain ⟨dst,op,ty,pos,aft,g⟩:=o
  rw [h2 dst pos aft g,ha]
  exact hg
theorem co0 (f : FuncId) [ci : CallI c.P f] (p : Value → SV) (Δ : Value → Gh) (hf : ∀ η,an1 all st acc ops f η = true)
  (h : ∀ β η S w,Up S w → (∀ k,S k → c.S0 k) → Keeps c.K c.w0 w → G.p S w → depsH acc (opH ops).after.toList η S w → ∃ args,(C0 (cg5 st acc ops η)).map (SV.den β) = args ∧
   Gives c.P f args w fun v w'=>Ext w w' ∧ v = (p v).den (fun _=>0) ∧ (p v).Ok 0 ∧ (Δ v).p S w')
  (k : Hd c st G all K (.spec ((opH ops).dst.getD 0) p Δ :: acc) (ops.drop 1)) : Hd c st G all K acc ops:=
 dh5 f p Δ hf (fun β η S w h1 h2 h3 h4 h5=>let ⟨args,ha,hg⟩:=h β η S w h1 h2 h3 h4 h5; ⟨args,ha,hg.e⟩) k
noncomputable def cm6 (c : Cx) (st : St) (acc : List HRec) (ops : List Oper) (η : Nat → Value) : Option (TypeId × Nat × Nat × List Ch):=
 match (opH ops).op with
 | .buildSlice T n ps=>match F3 c.E T with
  | .slice e=>match c.E.get e,bt6 c.E T n 0 (ps.toList.map fun p=>(p.1,opd (frH st acc η) p.2)) with
   | some te,some (.mk T' l _)=>bif Nat.beq (aa5 l) (n * te.size) && Nat.ble n 9223372036854775807 then some (T',te.size,n,l) else none
   | _,_=>none
  | _=>none
 | _=>none
noncomputable def b66 (c : Cx) (all : List Oper) (st : St) (acc : List HRec) (ops : List Oper) (T : TypeId) (sz n : Nat) (η : Nat → Value) : Bool:=
 (match cm6 c st acc ops η with | some (T',s,m,_)=>Nat.beq T' T && Nat.beq s sz && Nat.beq m n | none=>false) && I7 all (frH st acc η) (opH ops) && (opH ops).dst.isSome && !ops.isEmpty
noncomputable def a61 (c : Cx) (st : St) (acc : List HRec) (ops : List Oper) (η : Nat → Value) : List Ch:=match cm6 c st acc ops η with | some (_,_,_,l)=>l | none=>[]
theorem bt2 (T : TypeId) (sz n : Nat) (Δ : Value → Gh) (hc : c.Ok) (hf : ∀ η,b66 c all st acc ops T sz n η = true)
  (h : ∀ β η S w v w',Up S w → (∀ k,S k → c.S0 k) → Keeps c.K c.w0 w → G.p S w → depsH acc (opH ops).after.toList η S w → Ext w w' → Row S T sz w' v n (d8 β (a61 c st acc ops η)) → (Δ v).p S w')
  (k : Hd c st G all K (.spec ((opH ops).dst.getD 0) (fun v=>.one (.sl v n)) Δ :: acc) (ops.drop 1)) : Hd c st G all K acc ops:=by
 cases ops with
 | nil=>have:=hf η0; simp [b66] at this
 | cons o r=>
  refine ⟨⟨.spec ((opH (o :: r)).dst.getD 0) (fun v=>.one (.sl v n)) Δ,⟨?_,fun η=>?_⟩,k.run⟩⟩
  ·have:=hf η0
   simp only [b66,Bool.and_eq_true] at this
   cases hx : o.dst with
   | none=>have h2:=this.1.2; simp [opH,hx] at h2
   | some d=>simp [opH,hx]
  have h1:=hf η
  simp only [b66,Bool.and_eq_true] at h1
  obtain ⟨⟨⟨h2,h3⟩,h3'⟩,h3''⟩:=h1
  refine ⟨h3,fun β S w F m hkn hup hM hS hw hG hd=>?_⟩
  cases hl : cm6 c st acc (o :: r) η with
  | none=>rw [hl] at h2; cases h2
  | some x=>
   obtain ⟨T',s,n',l⟩:=x
   rw [hl] at h2
   simp only [Bool.and_eq_true] at h2
   obtain rfl:=Nat.eq_of_beq_eq_true h2.1.1
   obtain rfl:=Nat.eq_of_beq_eq_true h2.1.2
   obtain rfl:=Nat.eq_of_beq_eq_true h2.2
   have hpt : a61 c st acc (o :: r) η = l:=by unfold a61; rw [hl]
   unfold cm6 at hl
   have eo : opH (o :: r) = o:=rfl
   rw [eo] at hl
   obtain ⟨dst,op,ty,pos,aft,g⟩:=o
   simp only at hl hkn
   split at hl <;> first | (cases hl; done) | skip
   rename_i T0 n0 ps
   split at hl <;> first | (cases hl; done) | skip
   rename_i e0 hkd
   split at hl <;> first | (cases hl; done) | skip
   rename_i te T2 l2 s2 he1 he2
   cases hb : (Nat.beq (aa5 l2) (n0 * te.size) && Nat.ble n0 9223372036854775807) with
   | false=>rw [hb] at hl; cases hl
   | true=>
    rw [hb] at hl
    simp only [cond_true,Option.some.injEq,Prod.mk.injEq] at hl
    obtain ⟨rfl,rfl,rfl,rfl⟩:=hl
    simp only [Bool.and_eq_true] at hb
    have hsz:=Nat.eq_of_beq_eq_true hb.1
    have hmx:=Nat.le_of_ble_eq_true hb.2
    obtain ⟨_,g1,g2⟩:=bp0 (P:=c.P) (w:=w) (ty:=ty) (β:=β) (m:=m) hc.env (fun p hp=>hkn p.2 (by simp [Op.operands]; exact ⟨p.1,by simpa using hp⟩)) he2
    unfold b95
    rw [g2 dst pos aft g]
    have hk:=Q3 w (.cells (d8 β l2).toArray T2)
    have hlen:=R4 (β:=β) g1
    have hrow : Row S T2 te.size (w.alloc (.cells (d8 β l2).toArray T2)) (.slice (some ⟨w.heap.size,0,none⟩) n0 n0) n0 (d8 β l2):=by
     have h5:=Row.of_blk (s:=te.size) (n:=n0) (cap:=n0) (Blk.new w T2 (d8 β l2)) (hup _ (Nat.le_refl _)) (Nat.le_refl _) (by unfold maxLen; omega) (by omega)
     rwa [List.take_of_length_le (by omega)] at h5
    refine ⟨hk,rfl,⟨_,_,rfl,Nat.le_refl _⟩,?_⟩
    refine h β η S w _ _ hup hS hw hG hd hk ?_
    rw [hpt]
    exact hrow
theorem I6 (T : TypeId) (sz n : Nat) (Δ : Value → Gh) (h : ∀ β η S w v w',Up S w → (∀ k,S k → c.S0 k) → Keeps c.K c.w0 w → G.p S w → depsH acc (opH ops).after.toList η S w → Ext w w' → Row S T sz w' v n (d8 β (a61 c st acc ops η)) → (Δ v).p S w') (k : Hd c st G all K (.spec ((opH ops).dst.getD 0) (fun v=>.one (.sl v n)) Δ :: acc) (ops.drop 1)) (hc : c.Ok:=by exact ⟨b9,by assumption,j5⟩) (hf : ∀ η,b66 c all st acc ops T sz n η = true:=by intros; kernel_rfl) : Hd c st G all K acc ops:=
 bt2 T sz n Δ hc hf h k
def dc2 (c : Cx) (st : St) (acc : List HRec) (ops : List Oper) (η : Nat → Value) : Option (List Ch × List Ch):=
 match (opH ops).op with
 | .store T x y=>match opd (frH st acc η) x,opd (frH st acc η) y,c.E.get T with
  | some (.one (.ptr b o)),some yv,some ti=>match st.hp[b]?,yv.chunks with
   | some (.blk _ l),some new=>bif Nat.beq (aa5 new) ti.size then (stL l o ti.size new).map fun l'=>(l,l') else none
   | _,_=>none
  | _,_,_=>none
 | _=>none
def bx1 (c : Cx) (all : List Oper) (st : St) (acc : List HRec) (ops : List Oper) (η : Nat → Value) : Bool:=I7 all (frH st acc η) (opH ops) && (opH ops).dst.isNone && !ops.isEmpty
theorem cw0 {w : World} {g : Nat} {cs : Array Value} {T : TypeId} {fr : Nat × Nat} (h : w.heap[g]? = some (.cells cs T fr)) : w.setRow g cs = w:=by
 have e : (w.setRow g cs).heap = w.heap:=by
  refine Array.ext_getElem? fun k=>?_
  by_cases hk : k = g
  ·subst hk
   rw [setRow_heap w k cs cs T fr h,h]
  exact setRow_other w g k cs hk
 have e2 : w.setRow g cs = { w with heap:=(w.setRow g cs).heap }:=rfl
 rw [e2,e]
def c69 (c : Cx) (st : St) (acc : List HRec) (ops : List Oper) (η : Nat → Value) : List Ch:=((dc2 c st acc ops η).map Prod.fst).getD []
theorem au7 (hc : c.Ok) (hok : ∀ η,bx1 c all st acc ops η = true) (hs : ∀ η,dc2 c st acc ops η = some (c69 c st acc ops η,c69 c st acc ops η))
  (k : Hd c st G all K (.same :: acc) (ops.drop 1)) : Hd c st G all K acc ops:=by
 cases ops with
 | nil=>have:=hok η0; simp [bx1] at this
 | cons o r=>
  have hk : ∀ η,I7 all (frH st acc η) o = true ∧ o.dst = none:=fun η=>by
   have:=hok η
   simp only [bx1,Bool.and_eq_true] at this
   exact ⟨this.1.1,by simpa [opH] using this.1.2⟩
  refine ⟨⟨.same,⟨(hk η0).2,fun η=>⟨(hk η).1,fun β F w m hkn hM=>?_⟩⟩,k.run⟩⟩
  have h:=hs η
  generalize c69 c st acc (o :: r) η = ll at h
  unfold dc2 at h
  have eo : opH (o :: r) = o:=rfl
  rw [eo] at h
  obtain ⟨dst,op,ty,pos,aft,g⟩:=o
  simp only at h hkn
  split at h <;> first | (cases h; done) | skip
  rename_i T x y
  have hx:=hkn x (by simp [Op.operands])
  have hy:=hkn y (by simp [Op.operands])
  split at h <;> first | (cases h; done) | skip
  rename_i b o yv ti e1 e2 e3
  have h1:=(hx _ e1).1
  have h2:=hy _ e2
  split at h <;> first | (cases h; done) | skip
  rename_i T' l0 new e4 e5
  cases hsz : Nat.beq (aa5 new) ti.size with
  | false=>rw [hsz] at h; cases h
  | true=>
   rw [hsz] at h
   have hsz:=Nat.eq_of_beq_eq_true hsz
   simp only [cond_true] at h
   cases hst : stL l0 o ti.size new with
   | none=>rw [hst] at h; cases h
   | some l1=>
    rw [hst] at h
    simp only [Option.map_some,Option.some.injEq,Prod.mk.injEq] at h
    obtain ⟨rfl,rfl⟩:=h
    obtain ⟨hb,hok0⟩:=hM.blk b T' l1 e4
    obtain ⟨h3,h4⟩:=SV.chunks_ok (β:=β) e5 h2.2
    have hok1 : ∀ c ∈ l1,c.Ok (max m st.hp.length):=fun c hc=>(hok0 c hc).le (Nat.le_max_right _ _)
    obtain ⟨h5,h6,h7⟩:=bw3 (β:=β) hst hok1 (fun c hc=>(h4 c hc).le (Nat.le_max_left _ _))
    obtain ⟨z,hty,_⟩:=(hc.env.get e3).ty
    have hlen:=R4 (β:=β) h4
    have h8:=run_storeCells_at c.P (β b) o T' (d8 β new) 0 (d8 β l1).toArray w hb (by simp; omega) (ag8 h4)
    have e9 : ((d8 β l1).toArray.toList.take (o + 0) ++ d8 β new ++ (d8 β l1).toArray.toList.drop (o + 0 + (d8 β new).length)).toArray = (d8 β l1).toArray:=by
     conv=>rhs; rw [← h5]
     simp [hlen,hsz]
    rw [e9,cw0 hb] at h8
    have e10 : (d8 β new).length = ti.size:=by omega
    have h11 : ev F x = .pointer (some ⟨β b,o,none⟩):=h1
    simp [execOp,h11,h2.1,Instr.storeAt,Instr.sureAddr,storeVar,hty.runSize w,h3,e10,h8]
theorem ab5 [Rd] (G' : (Nat → Value) → Gh) (hn : ops.isEmpty = true) (hG : ∀ η,aj8 G η acc = G' η) {l : List Oper} {t : Nat} {kk : List Kt}
  (h : ∀ η,Run c ⟨.ops l (l.drop t),kk,⟨frH st acc η,R7 η acc (st.hp ++ S9 η acc)⟩,[]⟩ (G' η)) : Hd c st G all (fun acc=>∀ η,Run c ⟨.ops l (l.drop t),kk,⟨frH st acc η,R7 η acc (st.hp ++ S9 η acc)⟩,[]⟩ (aj8 G η acc)) acc ops:=by
 cases ops with
 | nil=>exact ⟨fun η=>by rw [hG]; exact h η⟩
 | cons o r=>cases hn
def bm6 (G : Gh) (η : Nat → Value) : List Bool → List HRec → Gh
 | [],_=>G
 | _,[]=>G
 | b :: m,.spec _ _ Δ :: r=>bif b then (Δ (η r.length)).and (bm6 G η m r) else bm6 G η m r
 | b :: m,.val _ _ :: r=>bm6 G η (b :: m) r
 | b :: m,.mk _ _ _ :: r=>bm6 G η (b :: m) r
 | b :: m,.st _ _ :: r=>bm6 G η (b :: m) r
 | b :: m,.same :: r=>bm6 G η (b :: m) r
 | b :: m,.sto _ _ _ _ :: r=>bm6 G η (b :: m) r
theorem cu3 {G : Gh} {S : Nat → Prop} {w : World} {η : Nat → Value} : ∀ {acc : List HRec},(aj8 G η acc).p S w → G.p S w:=by
 intro acc
 induction acc with
 | nil=>exact id
 | cons r acc ih=>cases r <;> first | exact ih | exact fun h=>ih h.2
theorem dp9 {G G1 : Gh} {S : Nat → Prop} {w : World} {η : Nat → Value} (hs : G.p S w → G1.p S w) : ∀ {acc : List HRec} {m : List Bool},(aj8 G η acc).p S w → (bm6 G1 η m acc).p S w:=by
 intro acc
 induction acc with
 | nil=>intro m h; cases m <;> exact hs h
 | cons r acc ih=>
  intro m h
  cases m with
  | nil=>exact hs (cu3 h)
  | cons b m=>
   cases r with
   | spec d p Δ=>
    simp only [bm6]
    cases b with
    | false=>exact ih h.2
    | true=>exact ⟨h.1,ih h.2⟩
   | val d sv=>exact ih h
   | mk d T l=>exact ih h
   | st k l=>exact ih h
   | same=>exact ih h
   | sto b' T l0 l=>exact ih h
theorem dp7 [Rd] (m : List Bool) (G1 : Gh) (hs : ∀ S w,G.p S w → G1.p S w) (Gf : Gh → (Nat → Value) → Gh) (hn : ops.isEmpty = true) (hG : ∀ g η,bm6 g η m acc = Gf g η) {l : List Oper} {t : Nat} {kk : List Kt}
  (h : ∀ η,Run c ⟨.ops l (l.drop t),kk,⟨frH st acc η,R7 η acc (st.hp ++ S9 η acc)⟩,[]⟩ (Gf G1 η)) : Hd c st G all (fun acc=>∀ η,Run c ⟨.ops l (l.drop t),kk,⟨frH st acc η,R7 η acc (st.hp ++ S9 η acc)⟩,[]⟩ (aj8 G η acc)) acc ops:=by
 cases ops with
 | nil=>exact ⟨fun η=>⟨fun β ρ w h1 h2 h3=>(h η).run β ρ w h1 h2 (by rw [← hG]; exact dp9 (hs _ _) h3)⟩⟩
 | cons o r=>cases hn
theorem o6 [Rd] (m : List Bool) (G1 : Gh) (hs : ∀ S w,G.p S w → G1.p S w) (Gf : Gh → (Nat → Value) → Gh) (hG : ∀ g η,bm6 g η m acc = Gf g η) {l : List Oper} {t : Nat} {kk : List Kt} (h : ∀ η,Run c ⟨.ops l (l.drop t),kk,⟨frH st acc η,R7 η acc (st.hp ++ S9 η acc)⟩,[]⟩ (Gf G1 η)) (hn : ops.isEmpty = true:=by kernel_rfl) : Hd c st G all (fun acc=>∀ η,Run c ⟨.ops l (l.drop t),kk,⟨frH st acc η,R7 η acc (st.hp ++ S9 η acc)⟩,[]⟩ (aj8 G η acc)) acc ops:=
 dp7 m G1 hs Gf hn hG h
theorem kc {p q : Prop} (h : p) (e : p = q) : q:=e ▸ h
theorem kcQ {p q : Prop} (h : p) (e : p = q:=by kernel_rfl) : q:=
 kc h e
end
section
variable {c : Cx} {o : Out} {G : Gh}
noncomputable abbrev ex (c : Cx) (o : Out) : Out:=exec c.E false 400 o
noncomputable abbrev exU (c : Cx) (o : Out) : Out:=exec c.E true 400 o
theorem ab4 [Rd] (hc : c.Ok) (hv : (ex c o).vc = []) (h : Run c (ex c o) G) : Run c o G:=c84 hc false 400 (vc0 hv) h
theorem n7 [Rd] (h : Run c (ex c o) G) (hc : c.Ok:=by exact ⟨b9,by assumption,j5⟩) (hv : (ex c o).vc = []:=by kernel_rfl) : Run c o G:=
 ab4 hc hv h
theorem J6 [Rd] (hc : c.Ok) (h : Run c (ex c o) G) (hv : (ex c o).vc = []:=by kernel_rfl) : Run c o G:=
 ab4 hc hv h
theorem bh7 [Rd] (hc : c.Ok) (hv : (exU c o).vc = []) (h : Run c (exU c o) G) : Run c o G:=c84 hc true 400 (vc0 hv) h
theorem s7 [Rd] (h : Run c (exU c o) G) (hc : c.Ok:=by exact ⟨b9,by assumption,j5⟩) (hv : (exU c o).vc = []:=by kernel_rfl) : Run c o G:=
 bh7 hc hv h
theorem d65 [Rd] {ps : List Prop} (hc : c.Ok) (hv : (ex c o).vc = ps) (hp : O0 ps) (h : Run c ⟨(ex c o).cur,(ex c o).k,(ex c o).st,[]⟩ G) : Run c o G:=c84 hc false 400 (vcs hv hp) ⟨h.run⟩
theorem am2 [Rd] {ps : List Prop} (hp : O0 ps) (h : Run c ⟨(ex c o).cur,(ex c o).k,(ex c o).st,[]⟩ G) (hc : c.Ok:=by exact ⟨b9,by assumption,j5⟩) (hv : (ex c o).vc = ps:=by kernel_rfl) : Run c o G:=
 d65 hc hv hp h
theorem s_K [Rd] {f : FuncId} [ci : CallI c.P f] {X : Value} (s : SV) (hc : c.Ok) (hv : (ex c o).vc = []) (hf : J0 f (ex c o) = true) (hok : s.Ok 0) (hX : s.den (fun _=>0) = X)
  (h : ∀ β S w,Up S w → (∀ k,S k → c.S0 k) → Keeps c.K c.w0 w → G.p S w → ∃ args,(C0 (ex c o)).map (SV.den β) = args ∧ Gives c.P f args w fun v w'=>v = X ∧ Ext w w')
  (hn : Run c (I1 (ex c o) s) G) : Run c o G:=by
 refine ab4 hc hv (dc7 f hc (fun _ : Unit=>s) (fun _=>True) (fun _=>.nil) hf (fun β S w h1 h2 h3 h4=>?_) fun _ _=>?_)
 ·obtain ⟨args,ha,hg⟩:=h β S w h1 h2 h3 h4
  refine ⟨args,ha,hg.mono fun v w' hv=>⟨hv.2,(),?_,hok,trivial,trivial⟩⟩
  rw [hv.1,← hX]
  exact SV.den_congr (m:=0) (fun i hi=>absurd hi (Nat.not_lt_zero i)) hok
 exact au5 (fun S w _ h=>h.2) hn
theorem z7 [Rd] {f : FuncId} [ci : CallI c.P f] {X : Value} (s : SV) (hX : s.den (fun _=>0) = X) (h : ∀ β S w,Up S w → (∀ k,S k → c.S0 k) → Keeps c.K c.w0 w → G.p S w → ∃ args,(C0 (ex c o)).map (SV.den β) = args ∧ Gives c.P f args w fun v w'=>v = X ∧ Ext w w') (hn : Run c (I1 (ex c o) s) G) (hc : c.Ok:=by exact ⟨b9,by assumption,j5⟩) (hv : (ex c o).vc = []:=by kernel_rfl) (hf : J0 f (ex c o) = true:=by kernel_rfl) (hok : s.Ok 0:=by exact U1 rfl) : Run c o G:=
 s_K s hc hv hf hok hX h hn
theorem s_1 [Rd] {f : FuncId} [ci : CallI c.P f] (pat : Value → SV) (Δ : Value → Gh) (hc : c.Ok) (hv : (ex c o).vc = []) (hf : J0 f (ex c o) = true) (hok : ∀ a S w,(Δ a).p S w → (pat a).Ok 0 ∧ (pat a).den (fun _=>0) = a)
  (h : ∀ β S w,Up S w → (∀ k,S k → c.S0 k) → Keeps c.K c.w0 w → G.p S w → ∃ args,(C0 (ex c o)).map (SV.den β) = args ∧ Gives c.P f args w fun v w'=>Ext w w' ∧ (Δ v).p S w')
  (hn : ∀ a,Run c (I1 (ex c o) (pat a)) ((Δ a).and G)) : Run c o G:=by
 refine ab4 hc hv (dc7 f hc pat (fun _=>True) Δ hf (fun β S w h1 h2 h3 h4=>?_) fun a _=>hn a)
 obtain ⟨args,ha,hg⟩:=h β S w h1 h2 h3 h4
 refine ⟨args,ha,hg.mono fun v w' hv=>?_⟩
 obtain ⟨e1,e2⟩:=hok v S w' hv.2
 exact ⟨hv.1,v,by rw [SV.den_congr (m:=0) (β':=fun _=>0) (fun i hi=>absurd hi (Nat.not_lt_zero i)) e1,e2],e1,trivial,hv.2⟩
theorem E9 [Rd] {f : FuncId} [ci : CallI c.P f] (pat : Value → SV) (Δ : Value → Gh) (h : ∀ β S w,Up S w → (∀ k,S k → c.S0 k) → Keeps c.K c.w0 w → G.p S w → ∃ args,(C0 (ex c o)).map (SV.den β) = args ∧ Gives c.P f args w fun v w'=>Ext w w' ∧ (Δ v).p S w') (hn : ∀ a,Run c (I1 (ex c o) (pat a)) ((Δ a).and G)) (hc : c.Ok:=by exact ⟨b9,by assumption,j5⟩) (hv : (ex c o).vc = []:=by kernel_rfl) (hf : J0 f (ex c o) = true:=by kernel_rfl) (hok : ∀ a S w,(Δ a).p S w → (pat a).Ok 0 ∧ (pat a).den (fun _=>0) = a:=by exact fun _ _ _ h=>⟨h.ok,rfl⟩) : Run c o G:=
 s_1 pat Δ hc hv hf hok h hn
theorem O3 [Rd] {f : FuncId} [ci : CallI c.P f] (pat : Value → SV) (Δ : Value → Gh) (hok : ∀ a S w,(Δ a).p S w → (pat a).Ok 0 ∧ (pat a).den (fun _=>0) = a) (h : ∀ β S w,Up S w → (∀ k,S k → c.S0 k) → Keeps c.K c.w0 w → G.p S w → ∃ args,(C0 (ex c o)).map (SV.den β) = args ∧ Gives c.P f args w fun v w'=>Ext w w' ∧ (Δ v).p S w') (hn : ∀ a,Run c (I1 (ex c o) (pat a)) ((Δ a).and G)) (hc : c.Ok:=by exact ⟨b9,by assumption,j5⟩) (hv : (ex c o).vc = []:=by kernel_rfl) (hf : J0 f (ex c o) = true:=by kernel_rfl) : Run c o G:=
 s_1 pat Δ hc hv hf hok h hn
theorem d77 [Rd] {p : Prop} (hc : c.Ok) (hv : (ex c o).vc = []) (hd : aj6 (ex c o) = true) (hp : at1 (ex c o) = p) (ht : p → Run c (K8 (ex c o) true) G) (hf : ¬ p → Run c (K8 (ex c o) false) G) : Run c o G:=ab4 hc hv (dv3 hd hp ht hf)
theorem R8 [Rd] {p : Prop} (ht : p → Run c (K8 (ex c o) true) G) (hf : ¬ p → Run c (K8 (ex c o) false) G) (hc : c.Ok:=by exact ⟨b9,by assumption,j5⟩) (hv : (ex c o).vc = []:=by kernel_rfl) (hd : aj6 (ex c o) = true:=by kernel_rfl) (hp : at1 (ex c o) = p:=by kernel_rfl) : Run c o G:=
 d77 hc hv hd hp ht hf
theorem d47 [Rd] {p : Prop} (hc : c.Ok) (hv : (ex c o).vc = []) (hd : aj6 (ex c o) = true) (hp : at1 (ex c o) = p) (h : p) (ht : Run c (K8 (ex c o) true) G) : Run c o G:=ab4 hc hv (d53 hd hp h ht)
theorem ad3 [Rd] {p : Prop} (h : p) (ht : Run c (K8 (ex c o) true) G) (hc : c.Ok:=by exact ⟨b9,by assumption,j5⟩) (hv : (ex c o).vc = []:=by kernel_rfl) (hd : aj6 (ex c o) = true:=by kernel_rfl) (hp : at1 (ex c o) = p:=by kernel_rfl) : Run c o G:=
 d47 hc hv hd hp h ht
theorem d60 [Rd] {p : Prop} (hc : c.Ok) (hv : (ex c o).vc = []) (hd : aj6 (ex c o) = true) (hp : at1 (ex c o) = p) (h : ¬ p) (ht : Run c (K8 (ex c o) false) G) : Run c o G:=ab4 hc hv (fa5 hd hp h ht)
theorem ai1 [Rd] {p : Prop} (h : ¬ p) (ht : Run c (K8 (ex c o) false) G) (hc : c.Ok:=by exact ⟨b9,by assumption,j5⟩) (hv : (ex c o).vc = []:=by kernel_rfl) (hd : aj6 (ex c o) = true:=by kernel_rfl) (hp : at1 (ex c o) = p:=by kernel_rfl) : Run c o G:=
 d60 hc hv hd hp h ht
theorem dt6 [Rd] {p : Prop} (d : Nat) (hc : c.Ok) (hv : (ex c o).vc = []) (hp : ai7 (ex c o).st d = some p) (ht : p → Run c (ab8 (ex c o) d (.one (.bb true))) G) (hf : ¬ p → Run c (ab8 (ex c o) d (.one (.bb false))) G) : Run c o G:=ab4 hc hv (cg6 d hp ht hf)
theorem S3 [Rd] {p : Prop} (d : Nat) (ht : p → Run c (ab8 (ex c o) d (.one (.bb true))) G) (hf : ¬ p → Run c (ab8 (ex c o) d (.one (.bb false))) G) (hc : c.Ok:=by exact ⟨b9,by assumption,j5⟩) (hv : (ex c o).vc = []:=by kernel_rfl) (hp : ai7 (ex c o).st d = some p:=by kernel_rfl) : Run c o G:=
 dt6 d hc hv hp ht hf
theorem ax0 [Rd] {p : Prop} (d : Nat) (hc : c.Ok) (hv : (ex c o).vc = []) (hp : ai7 (ex c o).st d = some p) (h : p) (ht : Run c (ab8 (ex c o) d (.one (.bb true))) G) : Run c o G:=ab4 hc hv (cd5 d hp h ht)
theorem au6 [Rd] {p : Prop} (d : Nat) (hc : c.Ok) (hv : (ex c o).vc = []) (hp : ai7 (ex c o).st d = some p) (h : ¬ p) (ht : Run c (ab8 (ex c o) d (.one (.bb false))) G) : Run c o G:=ab4 hc hv (cq8 d hp h ht)
theorem dh7 [Rd] (bs : List Nat) (t : Nat) (hc : c.Ok) (hv : (ex c o).vc = []) (hmo : c.P.follows .mixedOrders = true) (hd : av1 (ex c o) t = true)
  (h : Hd c (al8 bs (ex c o).st) G (F9 (ex c o)) (fun acc=>∀ η,Run c ⟨.ops (F9 (ex c o)) ((F9 (ex c o)).drop t),(ex c o).k,⟨frH (al8 bs (ex c o).st) acc η,R7 η acc ((al8 bs (ex c o).st).hp ++ S9 η acc)⟩,[]⟩ (aj8 G η acc)) [] ((F9 (ex c o)).take t)) : Run c o G:=
 ab4 hc hv (dp2 bs t hmo hc hd h)
theorem cp4 [Rd] (t : Nat) (hc : c.Ok) (hv : (ex c o).vc = []) (hmo : c.P.follows .mixedOrders = true) (hd : av1 (ex c o) t = true)
  (h : Hd c (ex c o).st G (F9 (ex c o)) (fun acc=>∀ η,Run c ⟨.ops (F9 (ex c o)) ((F9 (ex c o)).drop t),(ex c o).k,⟨frH (ex c o).st acc η,R7 η acc ((ex c o).st.hp ++ S9 η acc)⟩,[]⟩ (aj8 G η acc)) [] ((F9 (ex c o)).take t)) : Run c o G:=
 dh7 [] t hc hv hmo hd h
theorem q6 [Rd] (t : Nat) (h : Hd c (ex c o).st G (F9 (ex c o)) (fun acc=>∀ η,Run c ⟨.ops (F9 (ex c o)) ((F9 (ex c o)).drop t),(ex c o).k,⟨frH (ex c o).st acc η,R7 η acc ((ex c o).st.hp ++ S9 η acc)⟩,[]⟩ (aj8 G η acc)) [] ((F9 (ex c o)).take t)) (hc : c.Ok:=by exact ⟨b9,by assumption,j5⟩) (hv : (ex c o).vc = []:=by kernel_rfl) (hmo : c.P.follows .mixedOrders = true:=by kernel_rfl) (hd : av1 (ex c o) t = true:=by kernel_rfl) : Run c o G:=
 cp4 t hc hv hmo hd h
theorem I3 [Rd] (t : Nat) (hc : c.Ok) (h : Hd c (ex c o).st G (F9 (ex c o)) (fun acc=>∀ η,Run c ⟨.ops (F9 (ex c o)) ((F9 (ex c o)).drop t),(ex c o).k,⟨frH (ex c o).st acc η,R7 η acc ((ex c o).st.hp ++ S9 η acc)⟩,[]⟩ (aj8 G η acc)) [] ((F9 (ex c o)).take t)) (hv : (ex c o).vc = []:=by kernel_rfl) (hmo : c.P.follows .mixedOrders = true:=by kernel_rfl) (hd : av1 (ex c o) t = true:=by kernel_rfl) : Run c o G:=
 cp4 t hc hv hmo hd h
end
theorem d82 [Rd] {P : Program} {fn : Func} {E : Env} {w0 : World} {S0 : Nat → Prop} {Ψ : Value → World → Prop} {rs : List ResultVar} {o : Out} {G : Gh} (v : Value) (hc : (Cx.fn P fn E w0 S0 Ψ).Ok) (hv0 : (ex (Cx.fn P fn E w0 S0 Ψ) o).vc = []) (hrs : fn.results.toList = rs) (he : ag2 (ex (Cx.fn P fn E w0 S0 Ψ) o) = true) (hv : ∀ β,af5 E rs (ex (Cx.fn P fn E w0 S0 Ψ) o).st β = some v)
  (h : ∀ S w,(∀ k,S k → S0 k) → Ext w0 w → G.p S w → Ψ v w) : Run (Cx.fn P fn E w0 S0 Ψ) o G:=ab4 hc hv0 (d50 v hc hrs he hv h)
theorem p9 [Rd] {P : Program} {fn : Func} {E : Env} {w0 : World} {S0 : Nat → Prop} {Ψ : Value → World → Prop} {rs : List ResultVar} {o : Out} {G : Gh} (v : Value) (hrs : fn.results.toList = rs) (h : ∀ S w,(∀ k,S k → S0 k) → Ext w0 w → G.p S w → Ψ v w) (hc : (Cx.fn P fn E w0 S0 Ψ).Ok:=by exact ⟨b9,by assumption,j5⟩) (hv0 : (ex (Cx.fn P fn E w0 S0 Ψ) o).vc = []:=by kernel_rfl) (he : ag2 (ex (Cx.fn P fn E w0 S0 Ψ) o) = true:=by kernel_rfl) (hv : ∀ β,af5 E rs (ex (Cx.fn P fn E w0 S0 Ψ) o).st β = some v:=by intros; kernel_rfl) : Run (Cx.fn P fn E w0 S0 Ψ) o G:=
 d82 v hc hv0 hrs he hv h
theorem d30 [Rd] {P : Program} {fn : Func} {E : Env} {w0 : World} {S0 : Nat → Prop} {Ψ : Value → World → Prop} {Φ : List PanicEntry → World → Prop} {rs : List ResultVar} {o : Out} {G : Gh} (v : Value) (hc : (Cx.fnE P fn E w0 S0 Ψ Φ).Ok) (hv0 : (ex (Cx.fnE P fn E w0 S0 Ψ Φ) o).vc = []) (hrs : fn.results.toList = rs) (he : ag2 (ex (Cx.fnE P fn E w0 S0 Ψ Φ) o) = true) (hv : ∀ β,af5 E rs (ex (Cx.fnE P fn E w0 S0 Ψ Φ) o).st β = some v)
  (h : ∀ S w,(∀ k,S k → S0 k) → Ext w0 w → G.p S w → Ψ v w) : Run (Cx.fnE P fn E w0 S0 Ψ Φ) o G:=ab4 hc hv0 (dv6 v hc hrs he hv h)
section
variable {c : Cx} {st : St} {G : Gh} {all : List Oper} {K : List HRec → Prop} {acc : List HRec} {ops : List Oper}
theorem h_K {f : FuncId} [ci : CallI c.P f] {X : Value} (s : SV) (hf : ∀ η,an1 all st acc ops f η = true) (hok : s.Ok 0) (hX : s.den (fun _=>0) = X)
  (h : ∀ β η S w,Up S w → (∀ k,S k → c.S0 k) → Keeps c.K c.w0 w → G.p S w → depsH acc (opH ops).after.toList η S w → ∃ args,(C0 (cg5 st acc ops η)).map (SV.den β) = args ∧ Gives c.P f args w fun v w'=>v = X ∧ Ext w w')
  (k : Hd c st G all K (.spec ((opH ops).dst.getD 0) (fun _=>s) (fun _=>.nil) :: acc) (ops.drop 1)) : Hd c st G all K acc ops:=
 co0 f (fun _=>s) (fun _=>.nil) hf (fun β η S w h1 h2 h3 h4 h5=>let ⟨args,ha,hg⟩:=h β η S w h1 h2 h3 h4 h5; ⟨args,ha,hg.mono fun v w' hv=>⟨hv.2,hv.1.trans hX.symm,hok,trivial⟩⟩) k
theorem h_1 {f : FuncId} [ci : CallI c.P f] (pat : Value → SV) (Δ : Value → Gh) (hf : ∀ η,an1 all st acc ops f η = true) (hok : ∀ a S w,(Δ a).p S w → (pat a).Ok 0 ∧ (pat a).den (fun _=>0) = a)
  (h : ∀ β η S w,Up S w → (∀ k,S k → c.S0 k) → Keeps c.K c.w0 w → G.p S w → depsH acc (opH ops).after.toList η S w → ∃ args,(C0 (cg5 st acc ops η)).map (SV.den β) = args ∧ Gives c.P f args w fun v w'=>Ext w w' ∧ (Δ v).p S w')
  (k : Hd c st G all K (.spec ((opH ops).dst.getD 0) pat Δ :: acc) (ops.drop 1)) : Hd c st G all K acc ops:=
 co0 f pat Δ hf (fun β η S w h1 h2 h3 h4 h5=>let ⟨args,ha,hg⟩:=h β η S w h1 h2 h3 h4 h5; ⟨args,ha,hg.mono fun v w' hv=>⟨hv.1,(hok v S w' hv.2).2.symm,(hok v S w' hv.2).1,hv.2⟩⟩) k
theorem q9 {f : FuncId} [ci : CallI c.P f] (pat : Value → SV) (Δ : Value → Gh) (h : ∀ β η S w,Up S w → (∀ k,S k → c.S0 k) → Keeps c.K c.w0 w → G.p S w → depsH acc (opH ops).after.toList η S w → ∃ args,(C0 (cg5 st acc ops η)).map (SV.den β) = args ∧ Gives c.P f args w fun v w'=>Ext w w' ∧ (Δ v).p S w') (k : Hd c st G all K (.spec ((opH ops).dst.getD 0) pat Δ :: acc) (ops.drop 1)) (hf : ∀ η,an1 all st acc ops f η = true:=by intros; kernel_rfl) (hok : ∀ a S w,(Δ a).p S w → (pat a).Ok 0 ∧ (pat a).den (fun _=>0) = a:=by exact fun _ _ _ h=>⟨h.ok,rfl⟩) : Hd c st G all K acc ops:=
 h_1 pat Δ hf hok h k
theorem dep {es : List Edge} {η : Nat → Value} {S : Nat → Prop} {w : World} {q : Prop} (h : depsH acc es η S w) (j : Nat) (hj : F5 es j = true) (e : (cu1 η acc j).p S w = q) : q:=e ▸ h.all j hj
theorem n9 {es : List Edge} {η : Nat → Value} {S : Nat → Prop} {w : World} {q : Prop} (h : depsH acc es η S w) (j : Nat) (hj : F5 es j = true:=by kernel_rfl) (e : (cu1 η acc j).p S w = q:=by kernel_rfl) : q:=
 dep h j hj e
end
def an8 (W : List (Nat × Nat)) : List (Nat × SV) → List (Nat × SV)
 | []=>[]
 | p :: r=>bif inW W p.1 then an8 W r else p :: an8 ((p.1,p.1) :: W) r
def au9 (hp : List HE) : List (Nat × HE) → List HE
 | []=>hp
 | (i,x) :: r=>ae1 (au9 hp r) i x
def stM (st : St) (W : List (Nat × Nat)) (ov : List (Nat × SV)) (oh : List (Nat × HE)) : St:=⟨ov ++ an8 W st.fr,au9 st.hp oh⟩
theorem ai4 {hp : List HE} : ∀ {oh : List (Nat × HE)},(au9 hp oh).length = hp.length:=by
 intro oh
 induction oh with
 | nil=>rfl
 | cons p r ih=>obtain ⟨i,x⟩:=p; simp only [au9,S5,List.length_set,ih]
theorem c63 {W : List (Nat × Nat)} {i d : Nat} (h : inW W d = true) : inW ((i,i) :: W) d = true:=by
 simp only [inW]
 cases Nat.ble i d <;> cases Nat.ble d i <;> simp [h]
theorem b31 : ∀ {fr : List (Nat × SV)} {W : List (Nat × Nat)} {d : Nat},inW W d = true → L7 (an8 W fr) d = none:=by
 intro fr
 induction fr with
 | nil=>intro W d _; rfl
 | cons p r ih=>
  obtain ⟨i,x⟩:=p
  intro W d hd
  simp only [an8]
  cases hb : inW W i with
  | true=>exact ih hd
  | false=>
   simp only [cond_false]
   rw [I2,if_neg (fun e=>by rw [e,hd] at hb; cases hb)]
   exact ih (c63 hd)
theorem by1 : ∀ {fr : List (Nat × SV)} {W : List (Nat × Nat)} {d : Nat} {s : SV},L7 (an8 W fr) d = some s → L7 fr d = some s:=by
 intro fr
 induction fr with
 | nil=>intro W d s h; exact h
 | cons p r ih=>
  obtain ⟨i,x⟩:=p
  intro W d s h
  simp only [an8] at h
  rw [I2]
  cases hb : inW W i with
  | true=>
   rw [hb] at h
   by_cases e : i = d
   ·subst e
    have h2 : L7 (an8 W r) i = some s:=h
    rw [b31 hb] at h2
    cases h2
   rw [if_neg e]
   exact ih h
  | false=>
   rw [hb] at h
   simp only [cond_false] at h
   rw [I2] at h
   split
   ·rename_i e
    rwa [if_pos e] at h
   rename_i e
   rw [if_neg e] at h
   exact ih h
theorem Sat.stOk {base : Bs} {st : St} {β : Nat → Nat} {ρ : Fr} {w : World} (h : Sat base st β ρ w) : ap8 st:=by
 refine ⟨fun d s hs=>((h.fr d) s hs).2,fun x hx=>?_⟩
 obtain ⟨i,hi,rfl⟩:=List.mem_iff_getElem.1 hx
 cases he : st.hp[i] with
 | blk T l=>exact (h.mem.blk i T l (by rw [List.getElem?_eq_getElem hi,he])).2
 | row T s v n cs=>trivial
 | gone=>trivial
 | abs A=>trivial
 | hid T l=>trivial
theorem cb8 {st : St} {W : List (Nat × Nat)} {ov : List (Nat × SV)} {oh : List (Nat × HE)} (h : ap8 st) (h1 : ∀ p ∈ ov,p.2.Ok st.hp.length) (h2 : ∀ p ∈ oh,p.2.Ok st.hp.length) : ap8 (stM st W ov oh):=by
 have hl : (stM st W ov oh).hp.length = st.hp.length:=ai4
 refine ⟨fun d s hs=>?_,fun x hx=>?_⟩
 ·rw [hl]
  have hs' : L7 (ov ++ an8 W st.fr) d = some s:=hs
  rw [bb9] at hs'
  cases he : L7 ov d with
  | some y=>
   rw [he] at hs'
   simp only [Option.some.injEq] at hs'
   subst hs'
   exact h1 _ (c65 he)
  | none=>rw [he] at hs'; exact h.1 d s (by1 hs')
 rw [hl]
 have aux : ∀ {oh : List (Nat × HE)},(∀ p ∈ oh,p.2.Ok st.hp.length) → ∀ x ∈ au9 st.hp oh,x.Ok st.hp.length:=by
  intro oh
  induction oh with
  | nil=>intro _ x hx; exact h.2 x hx
  | cons p r ih=>
   obtain ⟨i,y⟩:=p
   intro hp x hx
   simp only [au9,S5] at hx
   rcases List.mem_or_eq_of_mem_set hx with hx | rfl
   ·exact ih (fun p hp'=>hp p (List.mem_cons_of_mem _ hp')) x hx
   exact hp _ (List.mem_cons_self ..)
 exact aux h2 x hx
def bh1 (m : Nat) : Ch → Bool
 | .val _=>false
 | .ag _ _=>false
 | .sl _ _=>false
 | .fn _ cap=>cap.all fun c=>match c with | .inl b=>Nat.blt b m | .inr _=>true
 | .ptr b _=>Nat.blt b m
 | .win b _ _ _=>Nat.blt b m
 | _=>true
theorem a80 {m : Nat} {c : Ch} (h : bh1 m c = true) : c.Ok m:=by
 cases c with
 | val x=>cases h
 | ag n x=>cases h
 | sl x n=>cases h
 | fn g cap=>exact fun b hb=>Nat.le_of_ble_eq_true (List.all_eq_true.1 h _ hb)
 | ptr b o=>exact Nat.le_of_ble_eq_true h
 | win b o n c=>exact Nat.le_of_ble_eq_true h
 | _=>trivial
theorem dy5 {m : Nat} {l : List Ch} (h : l.all (bh1 m) = true) : (SV.agg l).Ok m:=fun c hc=>a80 (List.all_eq_true.1 h c hc)
def d27 (m : Nat) : SV → Bool
 | .one c=>bh1 m c
 | .agg l=>l.all (bh1 m)
 | .tup _=>false
 | .und=>true
theorem B9 {m : Nat} {l : List (Nat × SV)} (h : (l.all fun p=>d27 0 p.2) = true) : ∀ p ∈ l,p.2.Ok m:=by
 intro p hp
 have h1:=List.all_eq_true.1 h p hp
 refine SV.Ok.le (m:=0) ?_ (Nat.zero_le _)
 obtain ⟨d,s⟩:=p
 cases s with
 | one c=>exact a80 h1
 | agg l=>exact dy5 h1
 | tup l=>cases h1
 | und=>trivial
def chB : Ch → Bool
 | .sl (.slice _ n k) m=>Nat.beq n m && Nat.ble m k
 | c=>bh1 0 c
theorem ce4 {c : Ch} (h : chB c = true) : c.Ok 0:=by
 unfold chB at h
 split at h
 ·simp only [Bool.and_eq_true] at h
  obtain rfl:=Nat.eq_of_beq_eq_true h.1
  exact ⟨_,_,rfl,Nat.le_of_ble_eq_true h.2⟩
 exact a80 h
def svB : SV → Bool
 | .one c=>chB c
 | .agg l=>l.all chB
 | .tup l=>l.all fun p=>p.2.all chB
 | .und=>true
theorem U1 {s : SV} (h : svB s = true) : s.Ok 0:=by
 cases s with
 | one c=>exact ce4 h
 | agg l=>exact fun c hc=>ce4 (List.all_eq_true.1 h c hc)
 | tup l=>exact fun p hp c hc=>ce4 (List.all_eq_true.1 (List.all_eq_true.1 h p hp) c hc)
 | und=>trivial
section
variable {c : Cx} {o : Out} {G : Gh} {ι : Type}
theorem ck7 [Rd] (W : List (Nat × Nat)) (ov : ι → List (Nat × SV)) (oh : ι → List (Nat × HE)) (GI : ι → Gh) (pre : ι → Prop) (hc : c.Ok) (hv : (ex c o).vc = [])
  (h1 : ap8 (ex c o).st → Run (c.sub (ar2 c (fun i=>stM (ex c o).st W (ov i) (oh i)) GI pre) (ex c o).k) ⟨(ex c o).cur,[],(ex c o).st,[]⟩ G)
  (h2 : ∀ i,pre i → Run c ⟨.ex .normal,(ex c o).k,stM (ex c o).st W (ov i) (oh i),[]⟩ (GI i)) : Run c o G:=by
 refine ab4 hc hv ⟨fun β ρ w hS hw hG=>?_⟩
 exact (d87 _ GI pre (fun _=>Nat.le_of_eq ai4.symm) (h1 hS.stOk) h2).run β ρ w hS hw hG
theorem d06 [Rd] {W : List (Nat × Nat)} {ov : ι → List (Nat × SV)} {oh : ι → List (Nat × HE)} {st0 : St} {GI : ι → Gh} {pre : ι → Prop} {k : List Kt} (i : ι) (hc : c.Ok) (hso : ap8 st0) (hv : (ex (c.sub (ar2 c (fun i=>stM st0 W (ov i) (oh i)) GI pre) k) o).vc = [])
  (he : ar7 (ex (c.sub (ar2 c (fun i=>stM st0 W (ov i) (oh i)) GI pre) k) o) = true)
  (hf : ∀ β,frV β (ex (c.sub (ar2 c (fun i=>stM st0 W (ov i) (oh i)) GI pre) k) o).st.fr (stM st0 W (ov i) (oh i)).fr = bn5 β (stM st0 W (ov i) (oh i)).fr)
  (hh : ∀ β,Y6 β (ex (c.sub (ar2 c (fun i=>stM st0 W (ov i) (oh i)) GI pre) k) o).st.hp (stM st0 W (ov i) (oh i)).hp = (stM st0 W (ov i) (oh i)).hp.map (HE.den β))
  (hl : Nat.ble (stM st0 W (ov i) (oh i)).hp.length (ex (c.sub (ar2 c (fun i=>stM st0 W (ov i) (oh i)) GI pre) k) o).st.hp.length = true)
  (hp : pre i) (ho : ∀ S w,Keeps c.K c.w0 w → G.p S w → (∀ p ∈ ov i,p.2.Ok st0.hp.length) ∧ ∀ p ∈ oh i,p.2.Ok st0.hp.length) (hg : ∀ S w,Keeps c.K c.w0 w → G.p S w → (GI i).p S w) :
  Run (c.sub (ar2 c (fun i=>stM st0 W (ov i) (oh i)) GI pre) k) o G:=
 ab4 hc.sub hv (dz8 i he hp (cr9 hf hh hl) (fun S w hw h=>let ⟨h1,h2⟩:=ho S w hw h; cb8 hso h1 h2) hg)
theorem L2 [Rd] {W : List (Nat × Nat)} {ov : ι → List (Nat × SV)} {oh : ι → List (Nat × HE)} {st0 : St} {GI : ι → Gh} {pre : ι → Prop} {k : List Kt} (i : ι) (hso : ap8 st0) (hp : pre i) (ho : ∀ S w,Keeps c.K c.w0 w → G.p S w → (∀ p ∈ ov i,p.2.Ok st0.hp.length) ∧ ∀ p ∈ oh i,p.2.Ok st0.hp.length) (hg : ∀ S w,Keeps c.K c.w0 w → G.p S w → (GI i).p S w) (hc : c.Ok:=by exact ⟨b9,by assumption,j5⟩) (hv : (ex (c.sub (ar2 c (fun i=>stM st0 W (ov i) (oh i)) GI pre) k) o).vc = []:=by kernel_rfl) (he : ar7 (ex (c.sub (ar2 c (fun i=>stM st0 W (ov i) (oh i)) GI pre) k) o) = true:=by kernel_rfl) (hf : ∀ β,frV β (ex (c.sub (ar2 c (fun i=>stM st0 W (ov i) (oh i)) GI pre) k) o).st.fr (stM st0 W (ov i) (oh i)).fr = bn5 β (stM st0 W (ov i) (oh i)).fr:=by intros; kernel_rfl) (hh : ∀ β,Y6 β (ex (c.sub (ar2 c (fun i=>stM st0 W (ov i) (oh i)) GI pre) k) o).st.hp (stM st0 W (ov i) (oh i)).hp = (stM st0 W (ov i) (oh i)).hp.map (HE.den β):=by intros; kernel_rfl) (hl : Nat.ble (stM st0 W (ov i) (oh i)).hp.length (ex (c.sub (ar2 c (fun i=>stM st0 W (ov i) (oh i)) GI pre) k) o).st.hp.length = true:=by kernel_rfl) : Run (c.sub (ar2 c (fun i=>stM st0 W (ov i) (oh i)) GI pre) k) o G:=
 d06 i hc hso hv he hf hh hl hp ho hg
theorem ah2 [Rd] (W : List (Nat × Nat)) (ov : ι → List (Nat × SV)) (oh : ι → List (Nat × HE)) (GI : ι → Gh) (pre : ι → Prop) (m : ι → Nat) (i : ι) (hc : c.Ok) (hv : (ex c o).vc = []) (he : cf3 (ex c o) = true)
  (hf : ∀ β,frV β (ex c o).st.fr (stM (ex c o).st W (ov i) (oh i)).fr = bn5 β (stM (ex c o).st W (ov i) (oh i)).fr)
  (hh : ∀ β,Y6 β (ex c o).st.hp (stM (ex c o).st W (ov i) (oh i)).hp = (stM (ex c o).st W (ov i) (oh i)).hp.map (HE.den β))
  (hl : Nat.ble (stM (ex c o).st W (ov i) (oh i)).hp.length (ex c o).st.hp.length = true)
  (hp : pre i) (ho : ∀ S w,Keeps c.K c.w0 w → G.p S w → (∀ p ∈ ov i,p.2.Ok (ex c o).st.hp.length) ∧ ∀ p ∈ oh i,p.2.Ok (ex c o).st.hp.length) (hg : ∀ S w,Keeps c.K c.w0 w → G.p S w → (GI i).p S w)
  (hb : ap8 (ex c o).st → ∀ i,pre i → Run (c.sub (a27 c (fun i=>stM (ex c o).st W (ov i) (oh i)) GI pre m i) (ex c o).k) ⟨.code (az7 (ex c o)),[],stM (ex c o).st W (ov i) (oh i),[]⟩ (GI i)) : Run c o G:=by
 refine ab4 hc hv ⟨fun β ρ w hS hw hG=>?_⟩
 exact (d08 _ GI pre m i (fun _=>Nat.le_of_eq ai4.symm) he hp (cr9 hf hh hl) (fun S w hw h=>let ⟨h1,h2⟩:=ho S w hw h; cb8 hS.stOk h1 h2) hg (hb hS.stOk)).run β ρ w hS hw hG
theorem Z1 [Rd] {W : List (Nat × Nat)} {ov : ι → List (Nat × SV)} {oh : ι → List (Nat × HE)} {st0 : St} {GI : ι → Gh} {pre : ι → Prop} {m : ι → Nat} {j : ι} {k : List Kt} (i : ι) (hc : c.Ok) (hso : ap8 st0) (hv : (ex (c.sub (a27 c (fun i=>stM st0 W (ov i) (oh i)) GI pre m j) k) o).vc = [])
  (he : ar7 (ex (c.sub (a27 c (fun i=>stM st0 W (ov i) (oh i)) GI pre m j) k) o) = true)
  (hf : ∀ β,frV β (ex (c.sub (a27 c (fun i=>stM st0 W (ov i) (oh i)) GI pre m j) k) o).st.fr (stM st0 W (ov i) (oh i)).fr = bn5 β (stM st0 W (ov i) (oh i)).fr)
  (hh : ∀ β,Y6 β (ex (c.sub (a27 c (fun i=>stM st0 W (ov i) (oh i)) GI pre m j) k) o).st.hp (stM st0 W (ov i) (oh i)).hp = (stM st0 W (ov i) (oh i)).hp.map (HE.den β))
  (hl : Nat.ble (stM st0 W (ov i) (oh i)).hp.length (ex (c.sub (a27 c (fun i=>stM st0 W (ov i) (oh i)) GI pre m j) k) o).st.hp.length = true)
  (hp : pre i) (hlt : m i < m j) (ho : ∀ S w,Keeps c.K c.w0 w → G.p S w → (∀ p ∈ ov i,p.2.Ok st0.hp.length) ∧ ∀ p ∈ oh i,p.2.Ok st0.hp.length) (hg : ∀ S w,Keeps c.K c.w0 w → G.p S w → (GI i).p S w) :
  Run (c.sub (a27 c (fun i=>stM st0 W (ov i) (oh i)) GI pre m j) k) o G:=
 ab4 hc.sub hv (dm6 i he hp hlt (cr9 hf hh hl) (fun S w hw h=>let ⟨h1,h2⟩:=ho S w hw h; cb8 hso h1 h2) hg)
theorem ds0 [Rd] {R : Fr → World → Prop} {k : List Kt} (hc : c.Ok) (hv : (ex (c.sub R k) o).vc = []) (he : cp2 (ex (c.sub R k) o) = true) (h : Run c ⟨(ex (c.sub R k) o).cur,k,(ex (c.sub R k) o).st,[]⟩ G) : Run (c.sub R k) o G:=ab4 hc.sub hv (d64 he h)
theorem ag4 [Rd] {R : Fr → World → Prop} {k : List Kt} (h : Run c ⟨(ex (c.sub R k) o).cur,k,(ex (c.sub R k) o).st,[]⟩ G) (hc : c.Ok:=by exact ⟨b9,by assumption,j5⟩) (hv : (ex (c.sub R k) o).vc = []:=by kernel_rfl) (he : cp2 (ex (c.sub R k) o) = true:=by kernel_rfl) : Run (c.sub R k) o G:=
 ds0 hc hv he h
end
abbrev b8 (v : Value) (q : Rat) : Gh:=⟨fun S w=>RatV S w v q,fun h k=>h.keep k,fun h k=>h.mono k⟩
abbrev qG (v : Value) (q : Rat) : Gh:=⟨fun S w=>QV S w v q,fun h k=>h.keep k,fun h k=>h.mono k⟩
abbrev dh4 (v : Value) (z : Int) : Gh:=⟨fun S w=>IntV S 227 .u32 w v z,fun h k=>h.keep k,fun h k=>h.mono k⟩
theorem RatV.ok {S : Nat → Prop} {w : World} {v : Value} {q : Rat} (h : RatV S w v q) : (SV.one (.ag 3 v)).Ok 0:=by
 obtain ⟨m,b,rfl,hm,hb⟩:=h
 exact ⟨[_,m,b],rfl,rfl,c44 rfl hm.one hb.one⟩
theorem QV.ok {S : Nat → Prop} {w : World} {v : Value} {q : Rat} (h : QV S w v q) : (SV.one (.ag 4 v)).Ok 0:=by
 obtain ⟨m,b,rfl,hm,hb⟩:=h
 exact ⟨[_,m,_,b],rfl,rfl,dt0 rfl hm.one rfl hb.one⟩
theorem IntV.ok {S : Nat → Prop} {T : TypeId} {k : IntKind} {w : World} {v : Value} {z : Int} (h : IntV S T k w v z) : (SV.one (.ag 2 v)).Ok 0:=by
 obtain ⟨m,rfl,hm⟩:=h
 exact ⟨[_,m],rfl,rfl,ds3 rfl hm.one⟩
def R5 (v : Value) (i : Nat) : Value:=match v with | .tuple l=>l.getD i undef | _=>undef
theorem gK {P : Program} {f : FuncId} {args : List Value} {w : World} {X Y : Value} (h : Gives P f args w fun v w'=>v = X ∧ Ext w w') (e : X = Y) : Gives P f args w fun v w'=>v = Y ∧ Ext w w':=e ▸ h
abbrev pr (x y : Ch) : SV:=.tup [(false,[x]),(false,[y])]
theorem bo9 {m : Nat} {x y : Ch} (hx : x.Ok m) (hy : y.Ok m) : (pr x y).Ok m:=fun p hp c hc=>by
 simp only [List.mem_cons,List.not_mem_nil,or_false] at hp
 rcases hp with rfl | rfl <;> (simp only [List.mem_singleton] at hc; subst hc; assumption)
def F4 : Value → Value
 | .tuple l=>l.getD 0 undef
 | _=>undef
abbrev ad7 (v : Value) (q : Rat) (e : Int) : Gh:=⟨fun S w=>v = .tuple #[F4 v,.int .i64 e] ∧ RatV S w (F4 v) q,fun h k=>⟨h.1,h.2.keep k⟩,fun h k=>⟨h.1,h.2.mono k⟩⟩
theorem X3 {v : Value} {q : Rat} {e : Int} {S : Nat → Prop} {w : World} (h : (ad7 v q e).p S w) : (pr (.ag 3 (F4 v)) (.lit .i64 e)).Ok 0 ∧ (pr (.ag 3 (F4 v)) (.lit .i64 e)).den (fun _=>0) = v:=⟨bo9 h.2.ok trivial,h.1.symm⟩
theorem d57 {P : Program} {f : FuncId} {args : List Value} {S : Nat → Prop} {w : World} {q X : Rat} {E : Int} (d : dy4 X E q) (h : Gives P f args w fun v w'=>Ext w w' ∧ bm5 S w' v q) : Gives P f args w fun v w'=>Ext w w' ∧ (ad7 v X E).p S w':=
 h.mono fun v w' ⟨k,r,e,hv,ht⟩=>⟨k,by
  subst hv
  rcases d with ⟨h1,rfl,rfl⟩ | ⟨h1,rfl,rfl⟩ <;> rcases ht with ⟨h4,rfl,h6⟩ | ⟨h4,rfl,h6⟩ <;> first | exact ⟨rfl,h6⟩ | exact absurd h1 h4 | exact absurd h4 h1⟩
abbrev bG (F : Value → Gh) (b : Bool) (v : Value) : Gh:=⟨fun S w=>v = .tuple #[R5 v 0,.bool b] ∧ (F (R5 v 0)).p S w,fun h k=>⟨h.1,(F _).keep h.2 k⟩,fun h k=>⟨h.1,(F _).mono h.2 k⟩⟩
theorem Q9 {q : Rat} {n : Nat} (hr : rl q n) (hn : n ≤ 3344) : U5 q:=
 ⟨Nat.lt_of_lt_of_le (F8 _) (Nat.le_trans (ao4 (Nat.le_trans hr.1 hn)) be6),Nat.lt_of_lt_of_le (F8 _) (Nat.le_trans (ao4 (Nat.le_trans hr.2 hn)) be6)⟩
section
variable {c : Cx} {o : Out} {G : Gh} {f : FuncId} [ci : CallI c.P f]
end
def bu8 (o : Out) : Option (Nat × Op):=match o.cur with | .ops _ (o1 :: _)=>(match o1.guard,o1.dst with | none,some d=>some (d,o1.op) | _,_=>none) | _=>none
def ds9 (o : Out) : Option Op:=match o.cur with | .ops _ (o1 :: _)=>(match o1.guard,o1.dst with | none,none=>some o1.op | _,_=>none) | _=>none
def ah1 (o : Out) (s : SV) (hp : List HE) : Out:=match o.cur with | .ops all (o1 :: r)=>⟨.ops all r,o.k,⟨(o1.dst.getD 0,s) :: o.st.fr,hp⟩,[]⟩ | _=>o
def cm2 (o : Out) (hp : List HE) : Out:=match o.cur with | .ops all (o1 :: r)=>⟨.ops all r,o.k,⟨o.st.fr,hp⟩,[]⟩ | _=>o
section
variable {c : Cx} {o : Out} {G : Gh}
theorem bj8 [Rd] {α : Type} {d : Nat} {op : Op} (pat : α → SV) (Δ : α → Gh) (hop : bu8 o = some (d,op))
  (h : ∀ β S w F ty,ah6 β o.st.hp.length o.st.fr (ev F) op → Mem c.bs o.st.hp β w → Up S w → (∀ k,S k → c.S0 k) → Keeps c.K c.w0 w → G.p S w → ∃ a w',Ext w w' ∧ (pat a).Ok o.st.hp.length ∧ (Δ a).p S w' ∧ ah8 c.P (ev F) op ty w ((pat a).den β) ∧ w' = w)
  (hc : c.Ok) (hn : ∀ a,Run c (ah1 o (pat a) o.st.hp) ((Δ a).and G)) : Run c o G:=by
 refine ⟨fun β ρ w hS hw hG=>?_⟩
 unfold bu8 at hop
 cases hcur : o.cur with
 | code x=>rw [hcur] at hop; cases hop
 | ex e=>rw [hcur] at hop; cases hop
 | ops all l=>
  cases l with
  | nil=>rw [hcur] at hop; cases hop
  | cons o1 r=>
   rw [hcur] at hop
   obtain ⟨dst,op',ty,pos,aft,g⟩:=o1
   simp only at hop
   cases g with
   | some x=>cases hop
   | none=>
    cases dst with
    | none=>cases hop
    | some d'=>
     simp only [Option.some.injEq,Prod.mk.injEq] at hop
     obtain ⟨rfl,rfl⟩:=hop
     obtain ⟨a,w',hk,hok,hΔ,hr,rfl⟩:=h β _ w ρ ty (hS.ops _) hS.mem (Sof.up (hc.up.to hw) hS.mem) (fun k hk=>hk.1) hw hG
     refine a28 rfl ?_
     unfold Stp
     rw [hr]
     have h1:=(hn a).run
     unfold ah1 at h1
     rw [hcur] at h1
     exact h1 β _ w' (hS.put rfl hok) hw ⟨hΔ,hG⟩
def du9 (E : Env) (o : Out) : Option (Value × Nat × Int × TypeId × Nat):=
 match bu8 o with
 | some (_,.indexAddr t x ix)=>match opd o.st.fr x,opd o.st.fr ix,F3 E t with
  | some (.one (.sl v n)),some (.one (.int _ i)),.slice e=>(E.get e).map fun te=>(v,n,i,e,te.size)
  | some (.one (.sl v n)),some (.one (.lit _ i)),.slice e=>(E.get e).map fun te=>(v,n,i,e,te.size)
  | _,_,_=>none
 | _=>none
theorem dh8 [Rd] (v : Value) (n : Nat) (i : Int) (e : TypeId) (sz : Nat) (hq : du9 c.E o = some (v,n,i,e,sz)) (hc : c.Ok) (h0 : 0 ≤ i) (h1 : i < n) (hrow : ∀ β S w,Mem c.bs o.st.hp β w → Keeps c.K c.w0 w → G.p S w → ∃ S' T' cs,Row S' T' sz w v n cs)
  (hn : Run c (ah1 o (.one (.val (.pointer (some (adr v (i.toNat * sz)))))) o.st.hp) G) : Run c o G:=by
 unfold du9 at hq
 split at hq <;> first | (cases hq; done) | skip
 rename_i d t x ix hop
 have key : ∀ (ch : Ch) (kk : IntKind),(∀ β,ch.den β = .int kk i) → opd o.st.fr x = some (.one (.sl v n)) → opd o.st.fr ix = some (.one ch) → F3 c.E t = .slice e → ∀ te,c.E.get e = some te → te.size = sz → Run c o G:=by
  intro ch kk hch hx hi hk te hte hsz
  subst hsz
  refine bj8 (α:=Unit) (fun _=>.one (.val (.pointer (some (adr v (i.toNat * te.size)))))) (fun _=>.nil) hop (fun β S w F ty hkn hM hup hS hw hG=>⟨(),w,.refl,rfl,trivial,?_,rfl⟩) hc fun _=>au5 (fun S w _ h=>h.2) hn
  obtain ⟨S',T',cs,hr⟩:=hrow β S w hM hw hG
  have g1:=(hkn x (by simp [Op.operands]) _ hx).1
  have g2:=(hkn ix (by simp [Op.operands]) _ hi).1
  have hkd:=E8 (t:=t) hc.env
  rw [hk] at hkd
  have hkd' : c.P.underlying t = some (.slice e):=hkd
  obtain ⟨z,hty,_⟩:=(hc.env.get hte).ty
  intro d pos aft g
  rcases hr.2 with ⟨_,h2⟩ | ⟨gg,off,cap,arr,fr,hv2,_⟩
  ·omega
  have g1' : ev F x = .slice (some ⟨gg,off,none⟩) n cap:=by rw [g1]; exact hv2
  have g2' : ev F ix = .int kk i:=by rw [g2]; exact hch β
  simp [execOp,g1',g2',Instr.indexAt,asIntOf,run_underlying hkd',h0,h1,hty.runSize w,adr,hv2,Z8,SV.den,Ch.den]
 split at hq <;> first | (cases hq; done) | skip
 ·rename_i v' n' kk i' e' hx hi hk
  cases hte : c.E.get e' with
  | none=>rw [hte] at hq; cases hq
  | some te=>
   rw [hte] at hq
   simp only [Option.map_some,Option.some.injEq,Prod.mk.injEq] at hq
   obtain ⟨rfl,rfl,rfl,rfl,hsz⟩:=hq
   exact key _ kk (fun β=>rfl) hx hi hk te hte hsz
 rename_i v' n' kk i' e' hx hi hk
 cases hte : c.E.get e' with
 | none=>rw [hte] at hq; cases hq
 | some te=>
  rw [hte] at hq
  simp only [Option.map_some,Option.some.injEq,Prod.mk.injEq] at hq
  obtain ⟨rfl,rfl,rfl,rfl,hsz⟩:=hq
  exact key _ kk (fun β=>rfl) hx hi hk te hte hsz
def ldQ (E : Env) (o : Out) : Option (Value × TypeId × Nat × Bool):=
 match bu8 o with
 | some (_,.load T x)=>match opd o.st.fr x with
  | some (.one (.val p))=>(E.get T).map fun te=>(p,T,te.size,te.agg)
  | _=>none
 | _=>none
end
section
variable {base : Bs} {st : St} {β : Nat → Nat} {ρ : Fr} {w w' : World} {d : Nat} {T : TypeId} {s n : Nat} {v : Value} {cs : List Value}
theorem cx3 {bb : Nat} (h : Own bb T s w v n cs) : ∃ a cap,v = .slice a n cap ∧ n ≤ cap:=by
 rcases h.2 with ⟨h1,h2⟩ | ⟨g,cap,cur,rfl,_,_,h3,_⟩
 ·subst h2; exact ⟨none,0,h1,Nat.le_refl _⟩
 exact ⟨_,cap,rfl,h3⟩
theorem cc0 {hp : List HE} {i k : Nat} : m7 β (hp ++ [.row T s v n cs]) i k ↔ (i = hp.length ∧ v.ownBlock = some k) ∨ (i ≠ hp.length ∧ m7 β hp i k):=by
 by_cases e : i = hp.length
 ·subst e
  rw [S4 (e:=.row T s v n cs) (by simp)]
  simp [HE.mine]
 by_cases hl : i < hp.length
 ·unfold m7
  rw [List.getElem?_append_left hl]
  simp [e]
 have h1 : ¬ m7 β hp i k:=ai3 (List.getElem?_eq_none (by omega))
 have h2 : ¬ m7 β (hp ++ [.row T s v n cs]) i k:=ai3 (List.getElem?_eq_none (by simp; omega))
 simp [e,h1,h2]
theorem d93 {S0 : Nat → Prop} {hp : List HE} (hnew : ∀ g,v.ownBlock = some g → w.heap.size ≤ g) : ∀ k,k < w.heap.size → Sof S0 β hp k → Sof S0 β (hp ++ [.row T s v n cs]) k:=by
 intro k hk ⟨h1,h2⟩
 refine ⟨h1,fun i hi=>?_⟩
 rw [cc0] at hi
 rcases hi with ⟨_,hi⟩ | ⟨_,hi⟩
 ·have:=hnew k hi; omega
 exact h2 i hi
theorem aj2 {hp : List HE} {b : Nat} {T' : TypeId} {s' n' : Nat} {v' : Value} {cs' : List Value} (hb : b < hp.length) (i k : Nat) : m7 β (hp.set b (.row T' s' v' n' cs')) i k ↔ (b = i ∧ v'.ownBlock = some k) ∨ (b ≠ i ∧ m7 β hp i k):=by
 by_cases e : b = i
 ·subst e
  rw [S4 (List.getElem?_set_self hb)]
  simp [HE.mine]
 unfold m7
 rw [List.getElem?_set_ne e]
 simp [e]
theorem Sat.setRow {b : Nat} {n' : Nat} {v' : Value} {cs' : List Value} (h : Sat base st β ρ w) (hb : st.hp[b]? = some (.row T s v n cs)) (k : Keeps (fun i=>some i ≠ v.ownBlock) w w') (hown : Own 0 T s w' v' n' cs')
  (hbs : base.n ≤ w.heap.size) (hnew : v'.ownBlock = v.ownBlock ∨ ∀ g,v'.ownBlock = some g → w.heap.size ≤ g) : Sat base ⟨st.fr,st.hp.set b (.row T s v' n' cs')⟩ β ρ w':=by
 have hlen : (st.hp.set b (.row T s v' n' cs')).length = st.hp.length:=by simp
 have hbl:=(List.getElem?_eq_some_iff.1 hb).1
 have hmb : ∀ k',m7 β st.hp b k' ↔ v.ownBlock = some k':=fun k'=>S4 hb
 have oth : ∀ {i : Nat} {k' : Nat},b ≠ i → m7 β st.hp i k' → some k' ≠ v.ownBlock ∧ k' < w.heap.size:=fun {i k'} e hi=>⟨fun e2=>e (h.mem.apart b i k' ((hmb k').2 e2.symm) hi),(h.mem.low i k' hi).2⟩
 refine ⟨fun d=>by rw [hlen]; exact h.fr d,⟨?_,?_,?_,?_,?_⟩,by rw [hlen]; exact h.agr.1,h.agr.2⟩
 ·intro i T' l2 hi
  rw [hlen]
  by_cases e : b = i
  ·subst e
   rw [List.getElem?_set_self hbl] at hi
   cases hi
  rw [List.getElem?_set_ne e] at hi
  obtain ⟨e1,e2⟩:=h.mem.blk i T' l2 hi
  obtain ⟨e3,e4⟩:=oth e (k':=β i) ⟨_,hi,rfl⟩
  exact ⟨(k.block (β i) e4 e3).trans e1,e2⟩
 ·intro i T' s' v2 n2 cs2 hi
  by_cases e : b = i
  ·subst e
   rw [List.getElem?_set_self hbl] at hi
   simp only [Option.some.injEq,HE.row.injEq] at hi
   obtain ⟨rfl,rfl,rfl,rfl,rfl⟩:=hi
   exact hown
  rw [List.getElem?_set_ne e] at hi
  exact ac7 (h.mem.row i T' s' v2 n2 cs2 hi) k fun g hg=>(oth e (k':=g) ⟨_,hi,hg⟩).1
 ·intro i A hi
  by_cases e : b = i
  ·subst e
   rw [List.getElem?_set_self hbl] at hi
   cases hi
  rw [List.getElem?_set_ne e] at hi
  exact A.keep (h.mem.abs i A hi) (fun g hg=>(oth e (k':=g) ⟨_,hi,hg⟩).2) k fun g hg=>(oth e (k':=g) ⟨_,hi,hg⟩).1
 ·intro i k' hk
  rw [aj2 hbl] at hk
  rcases hk with ⟨_,hk⟩ | ⟨_,hk⟩
  ·refine ⟨?_,(hown.lt k' hk).2⟩
   rcases hnew with e5 | e5
   ·exact (h.mem.low b k' ((hmb k').2 (e5.symm.trans hk))).1
   exact .inl (Nat.le_trans hbs (e5 k' hk))
  obtain ⟨e1,e2⟩:=h.mem.low i k' hk
  exact ⟨e1,Nat.lt_of_lt_of_le e2 k.size⟩
 intro i j k' hi hj
 rw [aj2 hbl] at hi hj
 rcases hi with ⟨e1,hi⟩ | ⟨e1,hi⟩ <;> rcases hj with ⟨e2,hj⟩ | ⟨e2,hj⟩
 ·omega
 ·obtain ⟨e3,e4⟩:=oth e2 hj
  rcases hnew with e5 | e5
  ·exact absurd (hi.symm.trans e5) e3
  have:=e5 k' hi; omega
 ·obtain ⟨e3,e4⟩:=oth e1 hi
  rcases hnew with e5 | e5
  ·exact absurd (hj.symm.trans e5) e3
  have:=e5 k' hj; omega
 exact h.mem.apart i j k' hi hj
theorem ch9 {S0 : Nat → Prop} {hp : List HE} {b n' : Nat} {v' : Value} {cs' : List Value} (hb : hp[b]? = some (.row T s v n cs)) (hnew : v'.ownBlock = v.ownBlock ∨ ∀ g,v'.ownBlock = some g → w.heap.size ≤ g) :
  ∀ k,k < w.heap.size → Sof S0 β hp k → Sof S0 β (hp.set b (.row T s v' n' cs')) k:=by
 intro k hk ⟨h1,h2⟩
 have hbl:=(List.getElem?_eq_some_iff.1 hb).1
 refine ⟨h1,fun i hi=>?_⟩
 rw [aj2 hbl] at hi
 rcases hi with ⟨_,hi⟩ | ⟨_,hi⟩
 ·rcases hnew with e | e
  ·exact h2 b ⟨_,hb,e.symm.trans hi⟩
  have:=e k hi; omega
 exact h2 i hi
end
section
variable {c : Cx} {o : Out} {G : Gh}
def mkQ (E : Env) (o : Out) : Option (Int × Int × TypeId × Nat × Nat × List Ch):=
 match bu8 o with
 | some (_,.makeSlice t x y)=>match opd o.st.fr x,opd o.st.fr y,F3 E t with
  | some (.one (.int .i64 i)),some (.one (.int .i64 j)),.slice e=>(E.get e).map fun te=>(i,j,e,te.size,te.bytes,te.zero)
  | some (.one (.lit .i64 i)),some (.one (.lit .i64 j)),.slice e=>(E.get e).map fun te=>(i,j,e,te.size,te.bytes,te.zero)
  | some (.one (.lit .i64 i)),some (.one (.int .i64 j)),.slice e=>(E.get e).map fun te=>(i,j,e,te.size,te.bytes,te.zero)
  | _,_,_=>none
 | _=>none
theorem da1 {β : Nat → Nat} {w : World} {b : Nat} {T : TypeId} {s n : Nat} {v : Value} {cs : List Value} (hb : nth o.st.hp b = some (.row T s v n cs)) (hM : Mem c.bs o.st.hp β w) : Own 0 T s w v n cs:=by
 rw [X9] at hb
 exact hM.row b T s v n cs hb
def stQ (E : Env) (o : Out) : Option (Value × Nat × List Ch):=
 match ds9 o with
 | some (.store T x y)=>match opd o.st.fr x,(opd o.st.fr y).bind SV.chunks,E.get T with
  | some (.one (.val p)),some l,some te=>bif Nat.beq (aa5 l) te.size then some (p,te.size,l) else none
  | _,_,_=>none
 | _=>none
theorem dj0 {base : Nat} {T : TypeId} {s n k m : Nat} {w : World} {g cap : Nat} {cur : Array Value} {cs new : List Value} (hcs : (cur.toList.take (n * s)) = cs) (hk : k + m ≤ n * s) (hcur : n * s ≤ cur.size) (hl : new.length = m) :
  ((cur.toList.take k ++ new ++ cur.toList.drop (k + m)).take (n * s)) = cs.take k ++ new ++ cs.drop (k + m):=by
 subst hcs
 have e1 : (cur.toList.take k).length = k:=by rw [List.length_take,Array.length_toList]; omega
 rw [List.take_append,List.take_of_length_le (l:=cur.toList.take k ++ new) (by simp; omega),List.length_append,e1,hl,List.take_take,Nat.min_eq_left (by omega : k ≤ n * s),List.drop_take,List.take_drop]
theorem fc7 [Rd] {T : TypeId} {s n : Nat} {cs : List Value} (b k : Nat) (v : Value) (sz : Nat) (l : List Ch) (cs' : List Value) (hq : stQ c.E o = some (.pointer (some (adr v k)),sz,l)) (hb : nth o.st.hp b = some (.row T s v n cs)) (hc : c.Ok) (h0 : 0 < sz)
  (hk : k + sz ≤ n * s) (hcs : ∀ β S w,Keeps c.K c.w0 w → G.p S w → cs.take k ++ d8 β l ++ cs.drop (k + sz) = cs')
  (hn : Run c (cm2 o (ae1 o.st.hp b (.row T s v n cs'))) G) : Run c o G:=by
 refine ⟨fun β ρ w hS hw hG=>?_⟩
 unfold stQ at hq
 split at hq <;> first | (cases hq; done) | skip
 rename_i T' x y hop
 split at hq <;> first | (cases hq; done) | skip
 rename_i p l' te' hx hy hte
 cases hsz : Nat.beq (aa5 l') te'.size with
 | false=>rw [hsz] at hq; cases hq
 | true=>
  rw [hsz] at hq
  simp only [cond_true,Option.some.injEq,Prod.mk.injEq] at hq
  obtain ⟨rfl,rfl,rfl⟩:=hq
  have hsz:=Nat.eq_of_beq_eq_true hsz
  unfold ds9 at hop
  cases hcur : o.cur with
  | code x=>rw [hcur] at hop; cases hop
  | ex e=>rw [hcur] at hop; cases hop
  | ops all ll=>
   cases ll with
   | nil=>rw [hcur] at hop; cases hop
   | cons o1 r=>
    rw [hcur] at hop
    obtain ⟨dst,op',ty,pos,aft,g⟩:=o1
    simp only at hop
    cases g with
    | some x=>cases hop
    | none=>
     cases dst with
     | some d'=>cases hop
     | none=>
      simp only [Option.some.injEq] at hop
      subst hop
      have hkn:=hS.ops (.store T' x y)
      have g1 : ev ρ x = .pointer (some (adr v k)):=((hkn x (by simp [Op.operands])) _ hx).1
      cases hyo : opd o.st.fr y with
      | none=>rw [hyo] at hy; cases hy
      | some yv=>
       rw [hyo] at hy
       simp only [Option.bind_some] at hy
       have g2:=(hkn y (by simp [Op.operands])) _ hyo
       obtain ⟨g3,g4⟩:=SV.chunks_ok (β:=β) hy g2.2
       have hlen:=R4 (β:=β) g4
       obtain ⟨z,hty,_⟩:=(hc.env.get hte).ty
       have hown:=da1 hb hS.mem
       rw [X9] at hb
       rcases hown.2 with ⟨_,h2⟩ | ⟨gb,cap,cur,hv,hbg,hg,hnc,hcm,hcz,htk⟩
       ·subst h2; omega
       have hle : n * s ≤ cap * s:=Nat.mul_le_mul_right _ hnc
       have hst:=run_storeCells_at c.P gb k T (d8 β l') 0 cur w hg (by omega) (ag8 g4)
       have hcs2:=hcs β _ w hw hG
       have ha : adr v k = ⟨gb,k,none⟩:=by rw [hv]; simp [adr]
       have hrun : ∀ d pos aft g,(execOp (ev ρ) ⟨d,.store T' x y,ty,pos,aft,g⟩).run c.P w = .ok .skip (w.setRow gb (cur.toList.take (k + 0) ++ d8 β l' ++ cur.toList.drop (k + 0 + (d8 β l').length)).toArray):=by
        intro d pos aft g
        have e10 : (d8 β l').length = te'.size:=by omega
        simp only [Nat.add_zero,e10] at hst ⊢
        simp [execOp,g1,g2.1,Instr.storeAt,Instr.sureAddr,storeVar,hty.runSize w,g3,e10,ha,hst]
       have k1 : Keeps (fun i=>some i ≠ v.ownBlock) w (w.setRow gb (cur.toList.take (k + 0) ++ d8 β l' ++ cur.toList.drop (k + 0 + (d8 β l').length)).toArray):=
        ⟨rfl,rfl,rfl,by simp [World.setRow],fun i _ hi=>setRow_other w _ i _ (fun e=>hi (by rw [hv,e]; rfl))⟩
       have hown2 : Own 0 T s (w.setRow gb (cur.toList.take (k + 0) ++ d8 β l' ++ cur.toList.drop (k + 0 + (d8 β l').length)).toArray) v n cs':=by
        refine ⟨?_,.inr ⟨gb,cap,_,hv,hbg,setRow_heap w gb cur _ T (0,0) hg,hnc,hcm,?_,?_⟩⟩
        ·rw [← hcs2]
         have:=hown.1
         simp [hlen,hsz]
         omega
        ·simp [hlen,hsz]; omega
        rw [← hcs2,Nat.add_zero]
        have:=dj0 (base:=0) (T:=T) (w:=w) (g:=gb) (cap:=cap) (new:=d8 β l') (m:=te'.size) htk hk (by omega) (by omega)
        rw [hlen,hsz]
        exact this
       have hS2:=hS.setRow hb k1 hown2 hw.size (.inl rfl)
       refine a28 rfl ?_
       unfold Stp
       rw [hrun]
       have h1:=hn.run
       unfold cm2 at h1
       rw [hcur,S5] at h1
       have hmb : ∀ i,some i = v.ownBlock → m7 β o.st.hp b i:=fun i hi=>⟨_,hb,hi.symm⟩
       refine h1 β _ _ hS2 ?_ ?_
       ·exact hS.mem.grow hw k1 b fun i hi=>hmb i (Classical.byContradiction hi)
       exact G.mono (G.keep hG (k1.mono fun i hi e=>hi.2 b (hmb i e))) fun i hi hk=>ch9 (w:=w) hb (.inl rfl) i (by simpa [World.setRow] using hi) hk
theorem bt3 {base : Nat} {T : TypeId} {s n : Nat} {w : World} {v : Value} {cs : List Value} (h : Own base T s w v n cs) : ∃ S',Row S' T s w v n cs:=⟨All,Row.of_own h fun _ _=>trivial⟩
def fd8 (E : Env) (o : Out) : Option (Value × Nat × Ch × TypeId × Nat × Nat):=
 match bu8 o with
 | some (_,.call ⟨.builtin .append,args,ts⟩)=>match args.toList,ts.toList with
  | [x,y],[t,t']=>match opd o.st.fr x,opd o.st.fr y,F3 E t with
   | some (.one (.sl v n)),some (.one a),.slice e=>(E.get e).bind fun te=>bif Nat.beq t t' then some (v,n,a,e,te.size,te.bytes) else none
   | _,_,_=>none
  | _,_=>none
 | _=>none
def U3 : Nat → List Kt → List Kt
 | 0,k=>k
 | n + 1,.code (.seq a b) :: k=>.code a :: U3 n (.code b :: k)
 | _ + 1,k=>k
def a59 : List Kt → Bool
 | []=>true
 | .code _ :: k=>a59 k
 | .blk _ :: k=>a59 k
 | _=>false
theorem c61 [Rd] {P : Program} {n : Nat} {Q : G3} : ∀ {m : Nat} {k : List Kt} {e : Exit} {ρ : Fr} {w : World},kQ P n Q (U3 m k) e ρ w → kQ P n Q k e ρ w:=by
 intro m
 induction m with
 | zero=>intro k e ρ w h; exact h
 | succ m ih=>
  intro k e ρ w h
  have key : ∀ {a b : Code} {k' : List Kt},kQ P n Q (.code a :: U3 m (.code b :: k')) e ρ w → kQ P n Q (.code (.seq a b) :: k') e ρ w:=by
   intro a b k' h
   cases e with
   | normal=>exact c19 (bf1 (Q:=kQ P n Q (U3 m (.code b :: k'))) h fun e ρ w h=>ih h)
   | _=>exact ih (k:=.code b :: k') (e:=_) h
  cases k with
  | nil=>exact h
  | cons x r=>
   cases x with
   | blk i=>exact h
   | lp a=>exact h
   | code c=>
    cases c <;> first | exact key h | exact h
theorem d28 [Rd] {P : Program} {n : Nat} {Q Q' : G3} {k2 : List Kt} (hq : ∀ e ρ w,Q' e ρ w → kQ P n Q k2 e ρ w) : ∀ {k1 : List Kt},a59 k1 = true → ∀ {e : Exit} {ρ : Fr} {w : World},kQ P n Q' k1 e ρ w → kQ P n Q (k1 ++ k2) e ρ w:=by
 intro k1
 induction k1 with
 | nil=>intro _ e ρ w h; exact hq e ρ w h
 | cons x r ih=>
  intro hk e ρ w h
  cases x with
  | code a=>
   cases e with
   | normal=>exact bf1 (Q:=kQ P n Q' r) h fun e ρ w h=>ih hk h
   | _=>exact ih (e:=_) hk h
  | blk i=>
   have h' : K5 i (kQ P n Q' r) e ρ w:=h
   show K5 i (kQ P n Q (r ++ k2)) e ρ w
   unfold K5 at h' ⊢
   cases e with
   | exit j=>
    simp only at h' ⊢
    cases hj : Nat.beq j i with
    | true=>rw [hj] at h'; exact ih hk h'
    | false=>rw [hj] at h'; exact ih hk h'
   | _=>exact ih (e:=_) hk h'
  | lp a=>cases hk
theorem dz9 [Rd] {ι : Type} (m j : Nat) (st' : ι → St) (GI : ι → Gh) (pre : ι → Prop) (hl : ∀ i,o.st.hp.length ≤ (st' i).hp.length) (hk : a59 ((U3 m o.k).take j) = true) (h1 : Run (c.sub (ar2 c st' GI pre) ((U3 m o.k).drop j)) ⟨o.cur,(U3 m o.k).take j,o.st,[]⟩ G)
  (h2 : ∀ i,pre i → Run c ⟨.ex .normal,(U3 m o.k).drop j,st' i,[]⟩ (GI i)) : Run c o G:=by
 refine ⟨fun β ρ w hS hw hG=>?_⟩
 refine a90 (Q:=kQ c.P c.n c.Q (U3 m o.k)) (fun e ρ w h=>c61 h) ?_
 refine a90 ?_ (h1.run β ρ w hS hw hG)
 intro e ρ' w' hq
 have e1 : (U3 m o.k).take j ++ (U3 m o.k).drop j = U3 m o.k:=List.take_append_drop ..
 rw [← e1]
 refine d28 ?_ hk hq
 intro e ρ' w' hq
 cases e with
 | normal=>
  obtain ⟨i,hp,hr⟩:=hq
  obtain ⟨β',hS',hw',hG'⟩:=hr.sat (Nat.le_trans hS.agr.1 (hl i))
  exact (h2 i hp).run β' ρ' w' hS' hw' hG'
 | _=>exact hq
theorem ce8 [Rd] {ι : Type} (m j : Nat) (W : List (Nat × Nat)) (ov : ι → List (Nat × SV)) (oh : ι → List (Nat × HE)) (GI : ι → Gh) (pre : ι → Prop) (hc : c.Ok) (hv : (ex c o).vc = []) (hk : a59 ((U3 m (ex c o).k).take j) = true)
  (h1 : ap8 (ex c o).st → Run (c.sub (ar2 c (fun i=>stM (ex c o).st W (ov i) (oh i)) GI pre) ((U3 m (ex c o).k).drop j)) ⟨(ex c o).cur,(U3 m (ex c o).k).take j,(ex c o).st,[]⟩ G)
  (h2 : ∀ i,pre i → Run c ⟨.ex .normal,(U3 m (ex c o).k).drop j,stM (ex c o).st W (ov i) (oh i),[]⟩ (GI i)) : Run c o G:=by
 refine ab4 hc hv ⟨fun β ρ w hS hw hG=>?_⟩
 exact (dz9 m j _ GI pre (fun _=>Nat.le_of_eq ai4.symm) hk (h1 hS.stOk) h2).run β ρ w hS hw hG
end
theorem K0 : ∀ {m : Nat} {l : List Ch},(l.foldr (fun c p=>c.Ok m ∧ p) True) → (SV.agg l).Ok m:=by
 intro m l
 induction l with
 | nil=>intro _ c hc; cases hc
 | cons a r ih=>
  intro h c hc
  rcases List.mem_cons.1 hc with rfl | hc
  ·exact h.1
  exact ih h.2 c hc
def At (S : Nat → Prop) (w : World) (u : Value) (cs : List Value) : Prop:=
 ∃ b o arr T fr,u = .pointer (some ⟨b,o,none⟩) ∧ S b ∧ w.heap[b]? = some (.cells arr T fr) ∧ o + cs.length ≤ arr.size ∧ (arr.toList.drop o).take cs.length = cs
theorem At.keep {S : Nat → Prop} {w w' : World} {u : Value} {cs : List Value} (h : At S w u cs) (k : Keeps S w w') : At S w' u cs:=by
 obtain ⟨b,o,arr,T,fr,h1,h2,h3,h4,h5⟩:=h
 exact ⟨b,o,arr,T,fr,h1,h2,(k.block b (Array.getElem?_eq_some_iff.1 h3).1 h2).trans h3,h4,h5⟩
theorem At.mono {S S' : Nat → Prop} {w : World} {u : Value} {cs : List Value} (h : At S w u cs) (hs : ∀ k,k < w.heap.size → S k → S' k) : At S' w u cs:=by
 obtain ⟨b,o,arr,T,fr,h1,h2,h3,h4,h5⟩:=h
 exact ⟨b,o,arr,T,fr,h1,hs b (Array.getElem?_eq_some_iff.1 h3).1 h2,h3,h4,h5⟩
theorem At.of_row {S : Nat → Prop} {T : TypeId} {s : Nat} {w : World} {v : Value} {n i : Nat} {cs : List Value} (h : Row S T s w v n cs) (hi : i < n) : At S w (.pointer (some (adr v (i * s)))) ((cs.drop (i * s)).take s):=by
 have h1 : (i + 1) * s ≤ n * s:=Nat.mul_le_mul_right _ hi
 rw [Nat.add_mul,Nat.one_mul] at h1
 have hl : ((cs.drop (i * s)).take s).length = s:=by rw [List.length_take,List.length_drop,h.1]; omega
 rcases h.2 with ⟨_,h2⟩ | ⟨b,off,cap,arr,fr,hv,h2,h3,h4,h5,h6,h7⟩
 ·omega
 subst hv
 have h8 : n * s ≤ cap * s:=Nat.mul_le_mul_right _ h2
 refine ⟨b,off + i * s,arr,T,fr,rfl,h4,h5,by rw [hl]; omega,?_⟩
 rw [hl,← h7,List.drop_take,List.drop_drop,List.take_take]
 congr 1
 omega
theorem At.cell {S : Nat → Prop} {w : World} {u : Value} {cs : List Value} (h : At S w u cs) : ∃ b o,u = .pointer (some ⟨b,o,none⟩) ∧ ∀ i,i < cs.length → w.cell? ⟨b,o + i,none⟩ = cs[i]?:=by
 obtain ⟨b,o,arr,T,fr,h1,h2,h3,h4,h5⟩:=h
 refine ⟨b,o,h1,fun i hi=>?_⟩
 simp only [World.cell?,h3]
 have h6 : cs[i]? = ((arr.toList.drop o).take cs.length)[i]?:=by rw [h5]
 rw [h6,List.getElem?_take,if_pos hi,List.getElem?_drop]
 simp
def U2 (g : Bool) (s : Nat) (x : Value) : Prop:=x.cells.toList.length = s ∧ bif g then x = .agg x.cells else x.cells = #[x]
theorem a44 (cs : List Value) : U2 true cs.length (.agg cs.toArray):=⟨by simp [Value.cells],by simp [Value.cells]⟩
theorem At.load {P : Program} {T : TypeId} {s b : Nat} {z : Value} {g : Bool} {S : Nat → Prop} {w : World} {u x : Value} (hty : TyI P T s b z g) (h : At S w u x.cells.toList) (hx : U2 g s x) {ρ : Operand → Value} {ty : TypeId} {y : Operand} (hy : ρ y = u) : ah8 P ρ (.load T y) ty w x:=by
 obtain ⟨b',o,rfl,hc⟩:=h.cell
 obtain ⟨h1,h2⟩:=hx
 have hlv : (loadVar T ⟨b',o,none⟩).run P w = .ok x w:=by
  cases g with
  | true=>
   simp only [cond_true] at h2
   have h3:=aq9 hty h1 hc
   rw [h3]
   congr 1
   rw [h2]
   simp [Value.cells]
  | false=>
   simp only [cond_false] at h2
   have h3:=hc 0 (by rw [h2]; simp)
   rw [h2] at h3
   exact ac4 hty (by simpa using h3)
 intro d pos aft g'
 simp [execOp,hy,Instr.loadAt,Instr.sureAddr,hlv]
abbrev atG (g : Bool) (s : Nat) (Δ : Value → Gh) (u : Value) : Gh:=
 ⟨fun S w=>∃ x,U2 g s x ∧ At S w u x.cells.toList ∧ (Δ x).p S w,fun ⟨x,h1,h2,h3⟩ k=>⟨x,h1,h2.keep k,(Δ x).keep h3 k⟩,fun ⟨x,h1,h2,h3⟩ k=>⟨x,h1,h2.mono k,(Δ x).mono h3 k⟩⟩
structure SeqV {α : Type} (g : Bool) (s : Nat) (F : Value → α → Gh) (S : Nat → Prop) (w : World) (v : Value) (l : List α) : Prop where
 row : ∃ (T : TypeId) (vs : List Value),vs.length = l.length ∧ (∀ x ∈ vs,U2 g s x) ∧ Row S T s w v l.length (vs.flatMap fun x=>x.cells.toList) ∧ ∀ (i : Nat) a x,l[i]? = some a → vs[i]? = some x → (F x a).p S w
section
variable {α : Type} {g : Bool} {s : Nat} {F : Value → α → Gh} {S S' : Nat → Prop} {w w' : World} {v : Value} {l : List α}
theorem SeqV.keep (h : SeqV g s F S w v l) (k : Keeps S w w') : SeqV g s F S w' v l:=let ⟨T,vs,h1,h2,h3,h4⟩:=h.row; ⟨T,vs,h1,h2,h3.keep k,fun i a x ha hx=>(F x a).keep (h4 i a x ha hx) k⟩
theorem SeqV.mono (h : SeqV g s F S w v l) (hs : ∀ k,k < w.heap.size → S k → S' k) : SeqV g s F S' w v l:=let ⟨T,vs,h1,h2,h3,h4⟩:=h.row; ⟨T,vs,h1,h2,h3.mono hs,fun i a x ha hx=>(F x a).mono (h4 i a x ha hx) hs⟩
theorem an6 {vs : List Value} (h : ∀ x ∈ vs,U2 g s x) : ∀ {i : Nat} {x : Value},vs[i]? = some x → ((vs.flatMap fun x=>x.cells.toList).drop (i * s)).take s = x.cells.toList:=by
 induction vs with
 | nil=>intro i x hx; simp at hx
 | cons y r ih=>
  intro i x hx
  have hy:=(h y (List.mem_cons_self ..)).1
  rw [List.flatMap_cons]
  cases i with
  | zero=>
   simp only [List.getElem?_cons_zero,Option.some.injEq] at hx
   subst hx
   rw [Nat.zero_mul,List.drop_zero,List.take_left' hy]
  | succ i=>
   rw [Nat.add_mul,Nat.one_mul,Nat.add_comm,← List.drop_drop,List.drop_left' hy]
   exact ih (fun x hx=>h x (List.mem_cons_of_mem _ hx)) (by simpa using hx)
theorem SeqV.at (h : SeqV g s F S w v l) {i : Nat} {a : α} (hi : l[i]? = some a) : (atG g s (fun x=>F x a) (.pointer (some (adr v (i * s))))).p S w:=by
 obtain ⟨T,vs,h1,h2,h3,h4⟩:=h.row
 have hil:=(List.getElem?_eq_some_iff.1 hi).1
 have hx : vs[i]? = some vs[i]:=List.getElem?_eq_getElem (by omega)
 have hr:=At.of_row h3 hil
 rw [an6 h2 hx] at hr
 exact ⟨vs[i],h2 _ (List.getElem_mem _),hr,h4 i a _ hi hx⟩
theorem SeqV.sl (h : SeqV g s F S w v l) : (SV.one (.sl v l.length)).Ok 0:=by
 obtain ⟨T,vs,h1,h2,h3,h4⟩:=h.row
 exact h3.slice
theorem SeqV.len_le (h : SeqV g s F S w v l) : l.length ≤ maxLen:=by
 obtain ⟨T,vs,h1,h2,h3,h4⟩:=h.row
 exact h3.len_le
end
abbrev A7 (p : Prop) : Gh:=⟨fun _ _=>p,fun h _=>h,fun h _=>h⟩
theorem SeqV.el {α : Type} {g : Bool} {s : Nat} {F : Value → α → Gh} {S : Nat → Prop} {w : World} {v : Value} {l : List α} (h : SeqV g s F S w v l) {i : Int} {k n : Nat} {a : α} (hn : n = l.length) (hi : i = (k : Int)) (ha : l[k]? = some a) :
  0 ≤ i ∧ i < n ∧ (∃ S' T' cs,Row S' T' s w v n cs) ∧ (atG g s (fun x=>F x a) (.pointer (some (adr v (i.toNat * s))))).p S w:=by
 subst hi
 subst hn
 have hk:=(List.getElem?_eq_some_iff.1 ha).1
 obtain ⟨T,vs,h1,h2,h3,h4⟩:=h.row
 exact ⟨by omega,by omega,⟨S,T,_,h3⟩,h.at ha⟩
abbrev d16 {α : Type} (g : Bool) (s : Nat) (F : Value → α → Gh) (v : Value) (l : List α) : Gh:=⟨fun S w=>SeqV g s F S w v l,fun h k=>h.keep k,fun h k=>h.mono k⟩
section
variable {c : Cx} {o : Out} {G : Gh}
theorem bz6 [Rd] (v : Value) (n : Nat) (i : Int) (e : TypeId) (sz : Nat) (Δ : Value → Gh) (hq : du9 c.E o = some (v,n,i,e,sz)) (hc : c.Ok)
  (h : ∀ β S w,Mem c.bs o.st.hp β w → Keeps c.K c.w0 w → G.p S w → 0 ≤ i ∧ i < n ∧ (∃ S' T' cs,Row S' T' sz w v n cs) ∧ (Δ (.pointer (some (adr v (i.toNat * sz))))).p S w)
  (hn : ∀ u,Run c (ah1 o (.one (.val u)) o.st.hp) ((Δ u).and G)) : Run c o G:=by
 refine ⟨fun β ρ w hS hw hG=>?_⟩
 have h1:=h β (Sof c.S0 β o.st.hp) w hS.mem hw hG
 refine (dh8 (G:=(Δ (.pointer (some (adr v (i.toNat * sz))))).and G) v n i e sz hq hc h1.1 h1.2.1 (fun β S w hM hw hG=>(h β S w hM hw hG.2).2.2.1) ?_).run β ρ w hS hw ⟨h1.2.2.2,hG⟩
 exact hn _
theorem bz1 [Rd] (u : Value) (T : TypeId) (sz : Nat) (g : Bool) (pat : Value → SV) (Δ : Value → Gh) (hq : ldQ c.E o = some (u,T,sz,g)) (hc : c.Ok)
  (h : ∀ S w,Keeps c.K c.w0 w → G.p S w → (atG g sz Δ u).p S w) (hok : ∀ a S w,(Δ a).p S w → (pat a).Ok 0 ∧ (pat a).den (fun _=>0) = a)
  (hn : ∀ a,Run c (ah1 o (pat a) o.st.hp) ((Δ a).and G)) : Run c o G:=by
 unfold ldQ at hq
 split at hq <;> first | (cases hq; done) | skip
 rename_i d T' x hop
 split at hq <;> first | (cases hq; done) | skip
 rename_i p hx
 cases hte : c.E.get T' with
 | none=>rw [hte] at hq; cases hq
 | some te=>
  rw [hte] at hq
  simp only [Option.map_some,Option.some.injEq,Prod.mk.injEq] at hq
  obtain ⟨rfl,rfl,rfl,rfl⟩:=hq
  refine bj8 pat Δ hop (fun β S w F ty hkn hM hup hS hw hG=>?_) hc hn
  obtain ⟨a,h1,h2,h3⟩:=h S w hw hG
  obtain ⟨h4,h5⟩:=hok a S w h3
  have g1 : ev F x = p:=(hkn x (by simp [Op.operands]) _ hx).1
  obtain ⟨z,hty,_⟩:=(hc.env.get hte).ty
  refine ⟨a,w,.refl,h4.le (Nat.zero_le _),h3,?_,rfl⟩
  rw [SV.den_congr (m:=0) (β':=fun _=>0) (fun i hi=>absurd hi (Nat.not_lt_zero i)) h4,h5]
  exact h2.load hty h1 g1
end
section
variable {c : Cx} {st : St} {G : Gh} {all : List Oper} {K : List HRec → Prop} {acc : List HRec} {ops : List Oper}
def ap1 (all : List Oper) (st : St) (acc : List HRec) (ops : List Oper) (η : Nat → Value) : Bool:=I7 all (frH st acc η) (opH ops) && (opH ops).dst.isSome && !ops.isEmpty
theorem a69 (p : Value → SV) (Δ : Value → Gh) (hok : ∀ η,ap1 all st acc ops η = true)
  (h : ∀ β η S w F m ty,ah6 β m (frH st acc η) (ev F) (opH ops).op → Up S w → Mem c.bs st.hp β w → (∀ k,S k → c.S0 k) → Keeps c.K c.w0 w → G.p S w → depsH acc (opH ops).after.toList η S w → ∃ v,ah8 c.P (ev F) (opH ops).op ty w v ∧ v = (p v).den (fun _=>0) ∧ (p v).Ok 0 ∧ (Δ v).p S w)
  (k : Hd c st G all K (.spec ((opH ops).dst.getD 0) p Δ :: acc) (ops.drop 1)) : Hd c st G all K acc ops:=by
 cases ops with
 | nil=>have:=hok η0; simp [ap1] at this
 | cons o r=>
  refine ⟨⟨.spec ((opH (o :: r)).dst.getD 0) p Δ,⟨?_,fun η=>?_⟩,k.run⟩⟩
  ·have:=hok η0
   simp only [ap1,Bool.and_eq_true] at this
   cases hx : o.dst with
   | none=>have h2:=this.1.2; simp [opH,hx] at h2
   | some d=>simp [opH,hx]
  have h1:=hok η
  simp only [ap1,Bool.and_eq_true] at h1
  refine ⟨h1.1.1,fun β S w F m hkn hup hM hS hw hG hd=>?_⟩
  obtain ⟨dst,op,ty,pos,aft,g⟩:=o
  obtain ⟨v,e1,e2,e3,e4⟩:=h β η S w F m ty hkn hup hM hS hw hG hd
  have e0:=e1 dst pos aft g
  unfold b95
  simp only [opH] at e0
  rw [e0]
  exact ⟨.refl,e2,e3,e4⟩
def d91 (c : Cx) (st : St) (acc : List HRec) (ops : List Oper) (η : Nat → Value) : Option (Value × Nat × Int × TypeId × Nat):=
 match (opH ops).op with
 | .indexAddr t x ix=>match opd (frH st acc η) x,opd (frH st acc η) ix,F3 c.E t with
  | some (.one (.sl v n)),some (.one (.int _ i)),.slice e=>(c.E.get e).map fun te=>(v,n,i,e,te.size)
  | some (.one (.sl v n)),some (.one (.lit _ i)),.slice e=>(c.E.get e).map fun te=>(v,n,i,e,te.size)
  | _,_,_=>none
 | _=>none
theorem d21 (v : (Nat → Value) → Value) (n : Nat) (i : Int) (e : TypeId) (sz : Nat) (Δ : Value → Gh) (hok : ∀ η,ap1 all st acc ops η = true) (hq : ∀ η,d91 c st acc ops η = some (v η,n,i,e,sz)) (hc : c.Ok)
  (h : ∀ β η S w,Mem c.bs st.hp β w → Keeps c.K c.w0 w → G.p S w → depsH acc (opH ops).after.toList η S w → 0 ≤ i ∧ i < n ∧ (∃ S' T' cs,Row S' T' sz w (v η) n cs) ∧ (Δ (.pointer (some (adr (v η) (i.toNat * sz))))).p S w)
  (k : Hd c st G all K (.spec ((opH ops).dst.getD 0) (fun u=>.one (.val u)) Δ :: acc) (ops.drop 1)) : Hd c st G all K acc ops:=by
 refine a69 (fun u=>.one (.val u)) Δ hok (fun β η S w F m ty hkn hup hM hS hw hG hd=>?_) k
 obtain ⟨h0,h1,⟨S',T',cs,hr⟩,h3⟩:=h β η S w hM hw hG hd
 have hq:=hq η
 unfold d91 at hq
 split at hq <;> first | (cases hq; done) | skip
 rename_i t x ix hop
 refine ⟨.pointer (some (adr (v η) (i.toNat * sz))),?_,rfl,(rfl : Value.oneCell' _ = true),h3⟩
 rw [hop] at hkn ⊢
 have key : ∀ (ch : Ch) (kk : IntKind) (v' : Value) (n' : Nat) (i' : Int) (e' : TypeId),(∀ β,ch.den β = .int kk i') → opd (frH st acc η) x = some (.one (.sl v' n')) → opd (frH st acc η) ix = some (.one ch) → F3 c.E t = .slice e' →
   ((c.E.get e').map fun te=>(v',n',i',e',te.size)) = some (v η,n,i,e,sz) → ah8 c.P (ev F) (.indexAddr t x ix) ty w (.pointer (some (adr (v η) (i.toNat * sz)))):=by
  intro ch kk v' n' i' e' hch hx hi hk hq
  cases hte : c.E.get e' with
  | none=>rw [hte] at hq; cases hq
  | some te=>
   rw [hte] at hq
   simp only [Option.map_some,Option.some.injEq,Prod.mk.injEq] at hq
   obtain ⟨rfl,rfl,rfl,rfl,rfl⟩:=hq
   have g1:=(hkn x (by simp [Op.operands]) _ hx).1
   have g2:=(hkn ix (by simp [Op.operands]) _ hi).1
   have hkd:=E8 (t:=t) hc.env
   rw [hk] at hkd
   have hkd' : c.P.underlying t = some (.slice e'):=hkd
   obtain ⟨z,hty,_⟩:=(hc.env.get hte).ty
   intro d pos aft g
   rcases hr.2 with ⟨_,h2⟩ | ⟨gg,off,cap,arr,fr,hv2,_⟩
   ·omega
   have g1' : ev F x = .slice (some ⟨gg,off,none⟩) n' cap:=by rw [g1]; exact hv2
   have g2' : ev F ix = .int kk i':=by rw [g2]; exact hch β
   simp [execOp,g1',g2',Instr.indexAt,asIntOf,run_underlying hkd',h0,h1,hty.runSize w,adr,hv2,Z8]
 split at hq <;> first | (cases hq; done) | skip
 ·exact key _ _ _ _ _ _ (fun β=>rfl) (by assumption) (by assumption) (by assumption) hq
 exact key _ _ _ _ _ _ (fun β=>rfl) (by assumption) (by assumption) (by assumption) hq
def ldH (c : Cx) (st : St) (acc : List HRec) (ops : List Oper) (η : Nat → Value) : Option (Value × TypeId × Nat × Bool):=
 match (opH ops).op with
 | .load T x=>match opd (frH st acc η) x with
  | some (.one (.val p))=>(c.E.get T).map fun te=>(p,T,te.size,te.agg)
  | _=>none
 | _=>none
theorem d31 (u : (Nat → Value) → Value) (T : TypeId) (sz : Nat) (g : Bool) (pat : Value → SV) (Δ : Value → Gh) (hok : ∀ η,ap1 all st acc ops η = true) (hq : ∀ η,ldH c st acc ops η = some (u η,T,sz,g)) (hc : c.Ok)
  (hpat : ∀ a S w,(Δ a).p S w → (pat a).Ok 0 ∧ (pat a).den (fun _=>0) = a) (h : ∀ β η S w,Mem c.bs st.hp β w → Keeps c.K c.w0 w → G.p S w → depsH acc (opH ops).after.toList η S w → ∃ S' x,U2 g sz x ∧ At S' w (u η) x.cells.toList ∧ (Δ x).p S w)
  (k : Hd c st G all K (.spec ((opH ops).dst.getD 0) pat Δ :: acc) (ops.drop 1)) : Hd c st G all K acc ops:=by
 refine a69 pat Δ hok (fun β η S w F m ty hkn hup hM hS hw hG hd=>?_) k
 obtain ⟨S',a,h1,h2,h3⟩:=h β η S w hM hw hG hd
 obtain ⟨h4,h5⟩:=hpat a S w h3
 have hq:=hq η
 unfold ldH at hq
 split at hq <;> first | (cases hq; done) | skip
 rename_i T' x hop
 split at hq <;> first | (cases hq; done) | skip
 rename_i p hx
 cases hte : c.E.get T' with
 | none=>rw [hte] at hq; cases hq
 | some te=>
  rw [hte] at hq
  simp only [Option.map_some,Option.some.injEq,Prod.mk.injEq] at hq
  obtain ⟨rfl,rfl,rfl,rfl⟩:=hq
  rw [hop] at hkn ⊢
  have g1 : ev F x = u η:=(hkn x (by simp [Op.operands]) _ hx).1
  obtain ⟨z,hty,_⟩:=(hc.env.get hte).ty
  exact ⟨a,h2.load hty h1 g1,h5.symm,h4,h3⟩
theorem B8 (u : (Nat → Value) → Value) (T : TypeId) (sz : Nat) (g : Bool) (pat : Value → SV) (Δ : Value → Gh) (hc : c.Ok) (h : ∀ β η S w,Mem c.bs st.hp β w → Keeps c.K c.w0 w → G.p S w → depsH acc (opH ops).after.toList η S w → ∃ S' x,U2 g sz x ∧ At S' w (u η) x.cells.toList ∧ (Δ x).p S w) (k : Hd c st G all K (.spec ((opH ops).dst.getD 0) pat Δ :: acc) (ops.drop 1)) (hok : ∀ η,ap1 all st acc ops η = true:=by intros; kernel_rfl) (hq : ∀ η,ldH c st acc ops η = some (u η,T,sz,g):=by intros; kernel_rfl) (hpat : ∀ a S w,(Δ a).p S w → (pat a).Ok 0 ∧ (pat a).den (fun _=>0) = a:=by exact fun _ _ _ h=>⟨h.ok,rfl⟩) : Hd c st G all K acc ops:=
 d31 u T sz g pat Δ hok hq hc hpat h k
end
section
variable {c : Cx} {o : Out} {G : Gh}
theorem cj0 {β : Nat → Nat} {w : World} (b : Nat) (T : TypeId) (s n : Nat) (v : Value) (cs : List Value) (hb : nth o.st.hp b = some (.row T s v n cs)) (hM : Mem c.bs o.st.hp β w) : ∃ S',Row S' T s w v n cs:=bt3 (da1 hb hM)
end
section
variable {c : Cx} {o : Out} {G : Gh}
end
end Go.Proofs.YtmkhgjccoolfjaaGreatDoor
end

/- SymL SymM Env SymN SymO SymP SymQ SymR SymS Gh SymT SymU SymW SymX VG View1 View2 -/
import Derived.Test.YtpheooheinfbgaaGreatDoorPascalB3
import Derived.Test.YtpheooheinfbgaaGreatDoorPascalB1
import Derived.KernelRfl
import Derived.Test.YtpheooheinfbgaaGreatDoorPascalB2
section
set_option linter.unusedVariables false
set_option linter.unusedSimpArgs false
namespace Go.Proofs.YtpheooheinfbgaaGreatDoor
open Go Go.RowKit
section
variable {c : Cx} {o : Out} {G : Gh} {un : Bool}
theorem bj2 (hc : c.Ok) (un : Bool) (N : Nat) (hv : VcOk (exec c.E un N o).vc) (h : Run c (exec c.E un N o) G) : Run c o G:=cd7 hc hv.all h
theorem vc0 {l : List Prop} (h : l = []) : VcOk l:=by subst h; exact ⟨trivial⟩
theorem vcs {l ps : List Prop} (h : l = ps) (hp : AllT ps) : VcOk l:=by subst h; exact ⟨hp⟩
theorem Sof.up {base : Bs} {hp : List HE} {β : Nat → Nat} {w : World} {S0 : Nat → Prop} (hS : Up S0 w) (hm : Mem base hp β w) : Up (Sof S0 β hp) w:=
 fun k hk=>⟨hS k hk,fun i hi=>by have:=(hm.low i k hi).2; omega⟩
theorem T9 {G' : Gh} (h : ∀ S w,Keeps c.K c.w0 w → G.p S w → G'.p S w) (k : Run c o G') : Run c o G:=
 ⟨fun β ρ w hS hw hG=>k.run β ρ w hS hw (h _ w hw hG)⟩
def allSV : List (Option SV) → Option (List SV)
 | []=>some []
 | x :: r=>match x,allSV r with | some s,some l=>some (s :: l) | _,_=>none
def capSV : Nat ⊕ Value → SV
 | .inl b=>.one (.ptr b 0)
 | .inr x=>.one (.val x)
def callOf (st : St) : Cur → Option (FuncId × List SV × Nat)
 | .ops _ (o1 :: _)=>match o1.guard,o1.dst,o1.op with
  | none,some d,.call cl=>match cl.callee with
   | .value x=>match opd st.fr x with
    | some (.one (.fn f cap))=>match allSV (cl.args.toList.map (opd st.fr)) with
     | some l=>some (f,l ++ cap.map capSV,d)
     | none=>none
    | _=>none
   | _=>none
  | _,_,_=>none
 | _=>none
def isCall (f : FuncId) (o : Out) : Bool:=match callOf o.st o.cur with | some (g,_,_)=>Nat.beq g f | none=>false
def callArgs (o : Out) : List SV:=match callOf o.st o.cur with | some (_,l,_)=>l | none=>[]
def callNext (o : Out) (s : SV) : Out:=match o.cur with | .ops all (o1 :: r)=>⟨.ops all r,o.k,⟨(o1.dst.getD 0,s) :: o.st.fr,o.st.hp⟩,[]⟩ | _=>o
theorem bs1 {β : Nat → Nat} {m : Nat} {fr : List (Nat × SV)} {ρ : Fr} (hk : ∀ d,Kn β m (look fr d) (ρ d)) : ∀ {xs : List Operand} {l : List SV},allSV (xs.map (opd fr)) = some l → xs.map (ev ρ) = l.map (SV.den β):=by
 intro xs
 induction xs with
 | nil=>intro l h; simp only [List.map_nil,allSV,Option.some.injEq] at h; subst h; rfl
 | cons x r ih=>
  intro l h
  simp only [List.map_cons,allSV] at h
  split at h <;> first | (cases h; done) | skip
  rename_i s l' e1 e2
  simp only [Option.some.injEq] at h
  subst h
  rw [List.map_cons,List.map_cons,ih e2,(W8 (fun t _=>hk t) _ e1).1]
theorem av8 {β : Nat → Nat} (l : List (Nat ⊕ Value)) : (l.map capSV).map (SV.den β) = l.map (capDen β):=by
 rw [List.map_map]
 refine List.map_congr_left fun x _=>?_
 cases x <;> rfl
theorem ag9 {P : Program} {n : Nat} {Q : Post} {ch : List PanicEntry} {ρ : Fr} {w : World} : ∀ {k : List Kt},Q (.panic ch) ρ w → kQ P n Q k (.panic ch) ρ w:=by
 intro k
 induction k with
 | nil=>exact id
 | cons x k ih=>intro h; cases x <;> exact ih h
theorem as1 {f : FuncId} [ci : CallI c.P f] {β : Nat → Nat} {ρ : Fr} {w : World} (hf : isCall f o = true) (hS : Sat c.bs o.st β ρ w) :
  ∃ all o1 r d,o.cur = .ops all (o1 :: r) ∧ o1.guard = none ∧ o1.dst = some d ∧ (∀ s,callNext o s = ⟨.ops all r,o.k,⟨(d,s) :: o.st.fr,o.st.hp⟩,[]⟩) ∧
   (execOp (ev ρ) o1).run c.P w = .ok (.enter f ((callArgs o).map (SV.den β)).toArray) w:=by
 unfold isCall at hf
 cases hco : callOf o.st o.cur with
 | none=>rw [hco] at hf; cases hf
 | some x=>
  obtain ⟨g,l,d⟩:=x
  rw [hco] at hf
  obtain rfl : g = f:=Nat.eq_of_beq_eq_true hf
  have hargs : callArgs o = l:=by unfold callArgs; rw [hco]
  unfold callOf at hco
  split at hco <;> first | (cases hco; done) | skip
  rename_i all o1 r hcur
  split at hco <;> first | (cases hco; done) | skip
  rename_i d' cl hg hd hop
  split at hco <;> first | (cases hco; done) | skip
  rename_i x hcl
  split at hco <;> first | (cases hco; done) | skip
  rename_i f' cap hx
  split at hco <;> first | (cases hco; done) | skip
  rename_i l' hl
  simp only [Option.some.injEq,Prod.mk.injEq] at hco
  obtain ⟨rfl,rfl,rfl⟩:=hco
  refine ⟨all,o1,r,d',hcur,hg,hd,fun s=>by unfold callNext; rw [hcur]; simp only [hd,Option.getD_some],?_⟩
  have h1:=(W8 (ρ:=ρ) (fun t _=>hS.fr t) _ hx).1
  have h2:=bs1 hS.fr hl
  rw [hargs,List.map_append,av8,← h2]
  obtain ⟨dst,op,ty,pos,aft,g⟩:=o1
  simp only at hop hg hd
  subst hop
  obtain ⟨callee,args,ts⟩:=cl
  simp only at hcl
  subst hcl
  simp [execOp,resolve,Deferred.ofValue,h1,SV.den,Ch.den,invoke,ci.run]
theorem ao1 {α : Type} (f : FuncId) [ci : CallI c.P f] (hc : c.Ok) (pat : α → SV) (pre : α → Prop) (Δ : α → Gh) (hf : isCall f o = true)
  (h : ∀ β S w,Up S w → Mem c.bs o.st.hp β w → (∀ k,S k → c.S0 k) → Keeps c.K c.w0 w → G.p S w → ∃ args,(callArgs o).map (SV.den β) = args ∧ Gives c.P f args w fun v w'=>Ext w w' ∧ ∃ a,v = (pat a).den β ∧ (pat a).Ok o.st.hp.length ∧ pre a ∧ (Δ a).p S w')
  (hn : ∀ a,pre a → Run c (callNext o (pat a)) ((Δ a).and G)) : Run c o G:=by
 refine ⟨fun β ρ w hS hw hG=>?_⟩
 obtain ⟨all,o1,r,d,hcur,hg,hd,hnx,hr⟩:=as1 hf hS
 obtain ⟨args,ha,hgv⟩:=h β _ w (Sof.up (hc.up.to hw) hS.mem) hS.mem (fun k hk=>hk.1) hw hG
 rw [hcur]
 show WpR c.P c.n all (kQ c.P c.n c.Q o.k) (o1 :: r) ρ w
 refine R5 hg ?_
 unfold Stp
 rw [hr,ha]
 refine hgv.mono ?_
 rintro v w' ⟨hk,a,rfl,hok,hp,hΔ⟩
 have h1:=hn a hp
 rw [hnx] at h1
 have h2:=h1.run β _ w' ((hS.to hk).put rfl hok) (hw.trans (.of hk)) ⟨hΔ,G.keep hG (.of hk)⟩
 rw [hd]
 exact h2
theorem bw5 {α : Type} (f : FuncId) [ci : CallI c.P f] (hc : c.Ok) (pat : α → SV) (pre : α → Prop) (Δ : α → Gh) (hf : isCall f o = true)
  (h : ∀ β S w,Up S w → (∀ k,S k → c.S0 k) → Keeps c.K c.w0 w → G.p S w → ∃ args,(callArgs o).map (SV.den β) = args ∧ Gives c.P f args w fun v w'=>Ext w w' ∧ ∃ a,v = (pat a).den β ∧ (pat a).Ok 0 ∧ pre a ∧ (Δ a).p S w')
  (hn : ∀ a,pre a → Run c (callNext o (pat a)) ((Δ a).and G)) : Run c o G:=
 ao1 f hc pat pre Δ hf (fun β S w h1 _ h2 h3 h4=>let ⟨args,ha,hg⟩:=h β S w h1 h2 h3 h4; ⟨args,ha,hg.mono fun v w' ⟨k,a,e1,e2,e3,e4⟩=>⟨k,a,e1,e2.le (Nat.zero_le _),e3,e4⟩⟩) hn
theorem a79 {α : Type} (f : FuncId) [ci : CallI c.P f] (hc : c.Ok) (pat : α → SV) (pre : α → Prop) (Δ : α → Gh) (hf : isCall f o = true)
  (h : ∀ β S w,Up S w → Mem c.bs o.st.hp β w → (∀ k,S k → c.S0 k) → Keeps c.K c.w0 w → G.p S w → ∃ args,(callArgs o).map (SV.den β) = args ∧ GivesE c.P f args w (fun v w'=>Ext w w' ∧ ∃ a,v = (pat a).den β ∧ (pat a).Ok 0 ∧ pre a ∧ (Δ a).p S w') fun ch w'=>∀ ρ,c.Q (.panic ch) ρ w')
  (hn : ∀ a,pre a → Run c (callNext o (pat a)) ((Δ a).and G)) : Run c o G:=by
 refine ⟨fun β ρ w hS hw hG=>?_⟩
 obtain ⟨all,o1,r,d,hcur,hg,hd,hnx,hr⟩:=as1 hf hS
 obtain ⟨args,ha,hgv⟩:=h β _ w (Sof.up (hc.up.to hw) hS.mem) hS.mem (fun k hk=>hk.1) hw hG
 rw [hcur]
 show WpR c.P c.n all (kQ c.P c.n c.Q o.k) (o1 :: r) ρ w
 rw [ha] at hr
 refine ao5 hg hd hr hgv ?_ fun ch w' hp=>ag9 (hp ρ)
 rintro v w' ⟨hk,a,rfl,hok,hp,hΔ⟩
 have h1:=hn a hp
 rw [hnx] at h1
 exact h1.run β _ w' ((hS.to hk).put rfl (hok.le (Nat.zero_le _))) (hw.trans (.of hk)) ⟨hΔ,G.keep hG (.of hk)⟩
theorem ca9 {α : Type} (f : FuncId) [ci : CallI c.P f] (hc : c.Ok) (pat : α → SV) (pre : α → Prop) (Δ : α → Gh) (hf : isCall f o = true)
  (h : ∀ β S w,Up S w → (∀ k,S k → c.S0 k) → Keeps c.K c.w0 w → G.p S w → ∃ args,(callArgs o).map (SV.den β) = args ∧ GivesE c.P f args w (fun v w'=>Ext w w' ∧ ∃ a,v = (pat a).den β ∧ (pat a).Ok 0 ∧ pre a ∧ (Δ a).p S w') fun ch w'=>∀ ρ,c.Q (.panic ch) ρ w')
  (hn : ∀ a,pre a → Run c (callNext o (pat a)) ((Δ a).and G)) : Run c o G:=
 a79 f hc pat pre Δ hf (fun β S w h1 _ h2 h3 h4=>h β S w h1 h2 h3 h4) hn
def condOf (st : St) : Cur → Option (Prop × Code × Code)
 | .code (.cond x a b)=>match opd st.fr x with | some (.one (.tp p))=>some (p,a,b) | _=>none
 | _=>none
def isCond (o : Out) : Bool:=(condOf o.st o.cur).isSome
def condP (o : Out) : Prop:=match condOf o.st o.cur with | some (p,_,_)=>p | none=>False
def condNext (o : Out) (b : Bool) : Out:=match condOf o.st o.cur with | some (_,x,y)=>⟨.code (bif b then x else y),o.k,o.st,[]⟩ | none=>o
theorem cf9 {p : Prop} (hc : isCond o = true) (hp : condP o = p) (ht : p → Run c (condNext o true) G) (hf : ¬ p → Run c (condNext o false) G) : Run c o G:=by
 refine ⟨fun β ρ w hS hw hG=>?_⟩
 unfold isCond at hc
 cases hco : condOf o.st o.cur with
 | none=>rw [hco] at hc; cases hc
 | some x=>
  obtain ⟨q,a,b⟩:=x
  have e1 : condP o = q:=by unfold condP; rw [hco]
  have e2 : condNext o true = ⟨.code a,o.k,o.st,[]⟩:=by unfold condNext; rw [hco]; rfl
  have e3 : condNext o false = ⟨.code b,o.k,o.st,[]⟩:=by unfold condNext; rw [hco]; rfl
  rw [e1] at hp
  subst hp
  rw [e2] at ht
  rw [e3] at hf
  unfold condOf at hco
  split at hco <;> first | (cases hco; done) | skip
  rename_i x a' b' hcur
  split at hco <;> first | (cases hco; done) | skip
  rename_i p' hx
  simp only [Option.some.injEq,Prod.mk.injEq] at hco
  obtain ⟨rfl,rfl,rfl⟩:=hco
  rw [hcur]
  exact j3 ((W8 (fun t _=>hS.fr t) _ hx).1) (fun h=>(ht h).run β ρ w hS hw hG) (fun h=>(hf h).run β ρ w hS hw hG)
theorem cn8 {p : Prop} (hc : isCond o = true) (hp : condP o = p) (h : p) (ht : Run c (condNext o true) G) : Run c o G:=cf9 hc hp (fun _=>ht) fun n=>absurd h n
theorem cq3 {p : Prop} (hc : isCond o = true) (hp : condP o = p) (h : ¬ p) (ht : Run c (condNext o false) G) : Run c o G:=cf9 hc hp (fun n=>absurd n h) fun _=>ht
def tstSlot (st : St) (d : Nat) : Option Prop:=match look st.fr d with | some (.one (.tp p))=>some p | _=>none
def setSlot (o : Out) (d : Nat) (s : SV) : Out:=⟨o.cur,o.k,⟨(d,s) :: o.st.fr,o.st.hp⟩,[]⟩
theorem bf2 {p : Prop} (d : Nat) (hp : tstSlot o.st d = some p) (ht : p → Run c (setSlot o d (.one (.bb true))) G) (hf : ¬ p → Run c (setSlot o d (.one (.bb false))) G) : Run c o G:=by
 refine ⟨fun β ρ w hS hw hG=>?_⟩
 unfold tstSlot at hp
 split at hp <;> first | (cases hp; done) | skip
 rename_i q hq
 simp only [Option.some.injEq] at hp
 subst hp
 have h1:=((hS.fr d) _ hq).1
 by_cases h : q
 ·have h2 : ρ d = .bool true:=by rw [h1]; exact congrArg Value.bool (l9 h)
  have h3:=(ht h).run β (upd ρ d (.bool true)) w (hS.put rfl trivial) hw hG
  rwa [Y7 h2] at h3
 ·have h2 : ρ d = .bool false:=by rw [h1]; exact congrArg Value.bool (j6 h)
  have h3:=(hf h).run β (upd ρ d (.bool false)) w (hS.put rfl trivial) hw hG
  rwa [Y7 h2] at h3
theorem bg1 {p : Prop} (d : Nat) (hp : tstSlot o.st d = some p) (h : p) (ht : Run c (setSlot o d (.one (.bb true))) G) : Run c o G:=bf2 d hp (fun _=>ht) fun n=>absurd h n
theorem bo9 {p : Prop} (d : Nat) (hp : tstSlot o.st d = some p) (h : ¬ p) (ht : Run c (setSlot o d (.one (.bb false))) G) : Run c o G:=bf2 d hp (fun n=>absurd n h) fun _=>ht
noncomputable def slotV (β : Nat → Nat) (st : St) (d : Nat) : Option Value:=(look st.fr d).map (SV.den β)
theorem cn1 (d : Nat) (s : SV) (h : ∀ β,slotV β o.st d = some (s.den β)) (hok : s.Ok 0) (k : Run c (setSlot o d s) G) : Run c o G:=by
 refine ⟨fun β ρ w hS hw hG=>?_⟩
 have h1:=h β
 unfold slotV at h1
 cases hl : look o.st.fr d with
 | none=>rw [hl] at h1; cases h1
 | some s0=>
  rw [hl] at h1
  simp only [Option.map_some,Option.some.injEq] at h1
  have h2:=((hS.fr d) _ hl).1
  rw [h1] at h2
  have h3:=k.run β (upd ρ d (s.den β)) w (hS.put rfl (hok.le (Nat.zero_le _))) hw hG
  rwa [Y7 h2] at h3
noncomputable def resSV (E : Env) (st : St) : List ResultVar → Option (List SV)
 | []=>some []
 | .tmp t :: r=>match look st.fr t,resSV E st r with | some s,some l=>some (s :: l) | _,_=>none
 | .cell a T :: r=>match effLoad E st.hp T (look st.fr a),resSV E st r with | some (.put s _),some l=>some (s :: l) | _,_=>none
theorem a74 {base : Bs} {β : Nat → Nat} {ρ : Fr} {w : World} {st : St} (hE : EnvOk c.P c.E) (hS : Sat base st β ρ w) : ∀ {rs : List ResultVar} {l : List SV},resSV c.E st rs = some l → resAll c.P ρ w rs (l.map (SV.den β)):=by
 intro rs
 induction rs with
 | nil=>intro l h; simp only [resSV,Option.some.injEq] at h; subst h; rfl
 | cons r rs ih=>
  intro l h
  cases r with
  | tmp t=>
   simp only [resSV] at h
   split at h <;> first | (cases h; done) | skip
   rename_i s l' e1 e2
   simp only [Option.some.injEq] at h
   subst h
   exact ⟨_,_,((hS.fr t) _ e1).1.symm,ih e2,rfl⟩
  | cell a T=>
   simp only [resSV] at h
   split at h <;> first | (cases h; done) | skip
   rename_i s vc l' e1 e2
   simp only [Option.some.injEq] at h
   subst h
   refine ⟨_,_,?_,ih e2,rfl⟩
   obtain ⟨h1,h2⟩:=ad7 (P:=c.P) (ty:=0) (x:=.tmp a) hE hS.mem (W8 (fun t _=>hS.fr t)) e1
   have h3 := h1 none "" #[] none
   unfold effLoad at e1
   split at e1 <;> first | (cases e1; done) | skip
   rename_i b o ha
   have h4 : ρ a = .pointer (some ⟨β b,o,none⟩):=((hS.fr a) _ ha).1
   refine ⟨_,h4,?_⟩
   have h5 : ev ρ (.tmp a) = .pointer (some ⟨β b,o,none⟩):=h4
   simp only [execOp,h5,Instr.loadAt,Instr.sureAddr,Sem.run_bind,Sem.run_pure,Result.andThen] at h3
   cases hl : (loadVar T ⟨β b,o,none⟩).run c.P w with
   | ok v w2=>rw [hl] at h3; simp only [Result.ok.injEq,Next.value.injEq] at h3; rw [h3.1,h3.2]
   | halt x w2=>rw [hl] at h3; cases h3
def isEnd (o : Out) : Bool:=match o.cur,o.k with
 | .ex .ret,[]=>true
 | .ex .normal,[]=>true
 | _,_=>false
noncomputable def resV' (E : Env) (rs : List ResultVar) (st : St) (β : Nat → Nat) : Option Value:=(resSV E st rs).map fun l=>shut (l.map (SV.den β))
theorem cl4 {fn : Func} {Ψ : Value → World → Prop} {rs : List ResultVar} (v : Value) (hc : c.Ok) (hQ : c.Q = endQ c.P fn Ψ) (hrs : fn.results.toList = rs) (he : isEnd o = true) (hv : ∀ β,resV' c.E rs o.st β = some v)
  (h : ∀ S w,(∀ k,S k → c.S0 k) → Keeps c.K c.w0 w → G.p S w → Ψ v w) : Run c o G:=by
 refine ⟨fun β ρ w hS hw hG=>?_⟩
 have h1:=hv β
 unfold resV' at h1
 cases hl : resSV c.E o.st rs with
 | none=>rw [hl] at h1; cases h1
 | some l=>
  rw [hl] at h1
  simp only [Option.map_some,Option.some.injEq] at h1
  have h2:=a74 hc.env hS hl
  have h3:=h _ w (fun k hk=>hk.1) hw hG
  have hend : ∀ e,e = Exit.ret ∨ e = Exit.normal → endQ c.P fn Ψ e ρ w:=by
   rintro e (rfl | rfl) <;> exact ⟨_,hrs ▸ h2,h1 ▸ h3⟩
  unfold isEnd at he
  split at he <;> first | (cases he; done) | skip
  ·rename_i e1 e2
   rw [e1,e2]
   show c.Q .ret ρ w
   rw [hQ]
   exact hend _ (.inl rfl)
  ·rename_i e1 e2
   rw [e1,e2]
   show c.Q .normal ρ w
   rw [hQ]
   exact hend _ (.inr rfl)
end
abbrev Cx.fn (P : Program) (fn : Func) (E : Env) (w0 : World) (S0 : Nat → Prop) (Ψ : Value → World → Prop) : Cx:=⟨P,fn.ntmps,E,w0,S0,All,endQ P fn Ψ⟩
abbrev Cx.fnE (P : Program) (fn : Func) (E : Env) (w0 : World) (S0 : Nat → Prop) (Ψ : Value → World → Prop) (Φ : List PanicEntry → World → Prop) : Cx:=⟨P,fn.ntmps,E,w0,S0,All,endE P fn Ψ Φ⟩
theorem cp1 {P : Program} {fn : Func} {E : Env} {w0 : World} {S0 : Nat → Prop} {Ψ : Value → World → Prop} {rs : List ResultVar} {o : Out} {G : Gh} (v : Value) (hc : (Cx.fn P fn E w0 S0 Ψ).Ok) (hrs : fn.results.toList = rs) (he : isEnd o = true) (hv : ∀ β,resV' E rs o.st β = some v)
  (h : ∀ S w,(∀ k,S k → S0 k) → Ext w0 w → G.p S w → Ψ v w) : Run (Cx.fn P fn E w0 S0 Ψ) o G:=cl4 v hc rfl hrs he hv h
def frOf : Nat → List SV → List (Nat × SV)
 | _,[]=>[]
 | i,s :: r=>(i,s) :: frOf (i + 1) r
theorem au2 {β : Nat → Nat} {m : Nat} : ∀ {l : List SV} {i d : Nat},(∀ s ∈ l,s.Ok m) → Kn β m (look (frOf i l) d) (if i ≤ d then (l.map (SV.den β)).getD (d - i) undef else undef):=by
 intro l
 induction l with
 | nil=>intro i d _ s hs; cases hs
 | cons x r ih=>
  intro i d hok s hs
  simp only [frOf] at hs
  rw [F2] at hs
  split at hs
  ·rename_i e
   subst e
   simp only [Option.some.injEq] at hs
   subst hs
   refine ⟨by simp,hok _ (List.mem_cons_self ..)⟩
  ·rename_i e
   have h1:=ih (i:=i + 1) (d:=d) (fun s hs=>hok s (List.mem_cons_of_mem _ hs)) s hs
   refine ⟨?_,h1.2⟩
   rw [← h1.1]
   by_cases hd : i + 1 ≤ d
   ·rw [if_pos hd,if_pos (by omega),List.map_cons,show d - i = (d - (i + 1)) + 1 by omega]
    rfl
   ·rw [if_neg hd,if_neg (by omega)]
def SVsOk : List SV → Prop
 | []=>True
 | s :: r=>s.Ok 0 ∧ SVsOk r
theorem SVsOk.all : ∀ {l : List SV},SVsOk l → ∀ s ∈ l,s.Ok 0:=by
 intro l
 induction l with
 | nil=>intro _ s hs; cases hs
 | cons x r ih=>
  intro h s hs
  rcases List.mem_cons.1 hs with rfl | hs
  ·exact h.1
  ·exact ih h.2 s hs
theorem at8 {base : Bs} {w : World} {l : List SV} (hok : SVsOk l) : Sat base ⟨frOf 0 l,[]⟩ (fun _=>0) (fun i=>(l.map (SV.den fun _=>0)).getD i undef) w:=by
 refine ⟨fun d s hs=>?_,⟨fun i T l hi=>by simp at hi,fun i T s v n cs hi=>by simp at hi,fun i A hi=>by simp at hi,fun i k hk=>by simp [mineAt] at hk,fun i j k hk=>by simp [mineAt] at hk⟩⟩
 have h:=au2 (β:=fun _=>0) (m:=0) (i:=0) (d:=d) hok.all s hs
 simpa using h
theorem o8 {P : Program} {E : Env} {S0 : Nat → Prop} {f : FuncId} {fn : Func} {code : Code} {l : List SV} {args : List Value} {w : World} {Ψ : Value → World → Prop} {G : Gh} (hf : P.funcs[f]? = some fn) (hb : fn.body = some code) (hok : codeOk fn.ntmps code = true)
  (hn : Nat.ble args.length fn.ntmps = true) (hl : SVsOk l) (ha : l.map (SV.den fun _=>0) = args) (hG : G.p S0 w)
  (h : Run (Cx.fn P fn E w S0 Ψ) ⟨.code code,[],⟨frOf 0 l,[]⟩,[]⟩ G) : Gives P f args w Ψ:=by
 refine j7 hf hb hok hn ?_
 subst ha
 exact h.run _ _ w (at8 hl) .refl (G.mono hG fun k _ hk=>⟨hk,fun i hi=>by simp [mineAt] at hi⟩)
theorem M7 {P : Program} {E : Env} {S0 : Nat → Prop} {f : FuncId} {fn : Func} {code : Code} {l : List SV} {args : List Value} {w : World} {Ψ : Value → World → Prop} {Φ : List PanicEntry → World → Prop} {G : Gh} (hf : P.funcs[f]? = some fn) (hb : fn.body = some code) (hok : codeOk fn.ntmps code = true)
  (hn : Nat.ble args.length fn.ntmps = true) (hl : SVsOk l) (ha : l.map (SV.den fun _=>0) = args) (hG : G.p S0 w)
  (h : Run (Cx.fnE P fn E w S0 Ψ Φ) ⟨.code code,[],⟨frOf 0 l,[]⟩,[]⟩ G) : GivesE P f args w Ψ Φ:=by
 refine ai8 hf hb hok hn ?_
 subst ha
 exact h.run _ _ w (at8 hl) .refl (G.mono hG fun k _ hk=>⟨hk,fun i hi=>by simp [mineAt] at hi⟩)
end Go.Proofs.YtpheooheinfbgaaGreatDoor
end
section
set_option linter.unusedVariables false
set_option linter.unusedSimpArgs false
namespace Go.Proofs.YtpheooheinfbgaaGreatDoor
open Go Go.RowKit
inductive HV where
 | blk (T : TypeId) (cs : List Value)
 | row (T : TypeId) (s : Nat) (v : Value) (n : Nat) (cs : List Value)
 | gone
 | abs (A : AbsE)
 | hid (T : TypeId) (cs : List Value)
noncomputable def HE.den (β : Nat → Nat) : HE → HV
 | .blk T l=>.blk T (cellsL β l)
 | .row T s v n cs=>.row T s v n cs
 | .gone=>.gone
 | .abs A=>.abs A
 | .hid T l=>.hid T (cellsL β l)
noncomputable def keepH (β : Nat → Nat) : List HE → List HE → List HV
 | _,[]=>[]
 | [],_ :: r=>.gone :: keepH β [] r
 | _ :: q,.gone :: r=>.gone :: keepH β q r
 | h :: q,.blk _ _ :: r=>h.den β :: keepH β q r
 | h :: q,.row _ _ _ _ _ :: r=>h.den β :: keepH β q r
 | h :: q,.abs _ :: r=>h.den β :: keepH β q r
 | h :: q,.hid _ _ :: r=>h.den β :: keepH β q r
noncomputable def frV (β : Nat → Nat) (fr : List (Nat × SV)) : List (Nat × SV) → List (Option Value)
 | []=>[]
 | (d,_) :: r=>(look fr d).map (SV.den β) :: frV β fr r
noncomputable def frV' (β : Nat → Nat) : List (Nat × SV) → List (Option Value)
 | []=>[]
 | (_,s) :: r=>some (s.den β) :: frV' β r
def SubS (st st' : St) : Prop:=∀ β,frV β st.fr st'.fr = frV' β st'.fr ∧ keepH β st.hp st'.hp = st'.hp.map (HE.den β) ∧ st'.hp.length ≤ st.hp.length
theorem ci1 {st st' : St} (h1 : ∀ β,frV β st.fr st'.fr = frV' β st'.fr) (h2 : ∀ β,keepH β st.hp st'.hp = st'.hp.map (HE.den β)) (h3 : Nat.ble st'.hp.length st.hp.length = true) : SubS st st':=fun β=>⟨h1 β,h2 β,Nat.le_of_ble_eq_true h3⟩
def HE.Ok (m : Nat) : HE → Prop
 | .blk _ l=>∀ c ∈ l,c.Ok m
 | _=>True
def StOk (st : St) : Prop:=(∀ d s,look st.fr d = some s → s.Ok st.hp.length) ∧ ∀ h ∈ st.hp,h.Ok st.hp.length
theorem b17 {β : Nat → Nat} {fr : List (Nat × SV)} : ∀ {fr' : List (Nat × SV)},frV β fr fr' = frV' β fr' → ∀ d s',look fr' d = some s' → ∃ s,look fr d = some s ∧ s.den β = s'.den β:=by
 intro fr'
 induction fr' with
 | nil=>intro _ d s' h; cases h
 | cons p r ih=>
  obtain ⟨i,x⟩:=p
  intro h d s' hs
  simp only [frV,frV',List.cons.injEq] at h
  rw [F2] at hs
  split at hs
  ·rename_i e
   subst e
   simp only [Option.some.injEq] at hs
   subst hs
   cases hl : look fr i with
   | none=>rw [hl] at h; cases h.1
   | some s=>rw [hl] at h; exact ⟨s,rfl,by simpa using h.1⟩
  ·exact ih h.2 d s' hs
theorem b34 {fr : List (Nat × SV)} : ∀ {d : Nat} {s : SV},look fr d = some s → (d,s) ∈ fr:=by
 induction fr with
 | nil=>intro d s h; cases h
 | cons p r ih=>
  obtain ⟨i,x⟩:=p
  intro d s h
  rw [F2] at h
  split at h
  ·rename_i e
   subst e
   simp only [Option.some.injEq] at h
   subst h
   exact List.mem_cons_self ..
  ·exact List.mem_cons_of_mem _ (ih h)
theorem ab3 {β : Nat → Nat} : ∀ {hp hp' : List HE},keepH β hp hp' = hp'.map (HE.den β) → hp'.length ≤ hp.length → ∀ (i : Nat) (h' : HE),hp'[i]? = some h' → h' = .gone ∨ ∃ h,hp[i]? = some h ∧ h.den β = h'.den β:=by
 intro hp hp'
 induction hp' generalizing hp with
 | nil=>intro _ _ i h' hi; simp at hi
 | cons x r ih=>
  intro h hl i h' hi
  cases hp with
  | nil=>simp at hl
  | cons y q=>
   have hl' : r.length ≤ q.length:=by simpa using hl
   cases i with
   | zero=>
    simp only [List.getElem?_cons_zero,Option.some.injEq] at hi
    subst hi
    cases x with
    | gone=>exact .inl rfl
    | blk T l=>simp only [keepH,List.map_cons,List.cons.injEq] at h; exact .inr ⟨y,rfl,h.1⟩
    | row T s v n cs=>simp only [keepH,List.map_cons,List.cons.injEq] at h; exact .inr ⟨y,rfl,h.1⟩
    | abs A=>simp only [keepH,List.map_cons,List.cons.injEq] at h; exact .inr ⟨y,rfl,h.1⟩
    | hid T l=>simp only [keepH,List.map_cons,List.cons.injEq] at h; exact .inr ⟨y,rfl,h.1⟩
   | succ i=>
    simp only [List.getElem?_cons_succ] at hi ⊢
    cases x <;> simp only [keepH,List.map_cons,List.cons.injEq] at h <;> exact ih h.2 hl' i h' hi
theorem b45 {β : Nat → Nat} {h h' : HE} {b : Nat} (e : h.den β = h'.den β) : h.mine b = h'.mine b:=by
 cases h <;> cases h' <;> simp only [HE.den,HV.row.injEq,HV.abs.injEq,reduceCtorEq] at e <;> first | rfl | (subst e; rfl) | (obtain ⟨rfl,rfl,rfl,rfl,rfl⟩:=e; rfl)
theorem Sat.sub {base : Bs} {st st' : St} {β : Nat → Nat} {ρ : Fr} {w : World} (h : Sat base st β ρ w) (hs : SubS st st') (hok : StOk st') : Sat base st' β ρ w ∧ ∀ S0 k,Sof S0 β st.hp k → Sof S0 β st'.hp k:=by
 obtain ⟨h1,h2,h3⟩:=hs β
 have hm : ∀ i k,mineAt β st'.hp i k → mineAt β st.hp i k:=by
  rintro i k ⟨h',hi,hk⟩
  rcases ab3 h2 h3 i h' hi with rfl | ⟨x,hx,hd⟩
  ·cases hk
  ·exact ⟨x,hx,by rw [b45 hd]; exact hk⟩
 refine ⟨⟨fun d s' hs'=>?_,⟨?_,?_,?_,?_,?_⟩⟩,fun S0 k hk=>⟨hk.1,fun i hi=>hk.2 i (hm i k hi)⟩⟩
 ·obtain ⟨s,hl,hd⟩:=b17 h1 d s' hs'
  exact ⟨((h.fr d) s hl).1.trans hd,hok.1 _ _ hs'⟩
 ·intro i T l hi
  rcases ab3 h2 h3 i _ hi with e | ⟨x,hx,hd⟩
  ·cases e
  ·cases x with
   | blk T' l'=>
    simp only [HE.den,HV.blk.injEq] at hd
    obtain ⟨rfl,hd⟩:=hd
    rw [← hd]
    exact ⟨(h.mem.blk i T' l' hx).1,hok.2 _ (List.mem_of_getElem? hi)⟩
   | row T s v n cs=>cases hd
   | gone=>cases hd
   | abs A=>cases hd
   | hid T2 l2=>cases hd
 ·intro i T s v n cs hi
  rcases ab3 h2 h3 i _ hi with e | ⟨x,hx,hd⟩
  ·cases e
  ·cases x with
   | blk T' l'=>cases hd
   | row T' s' v' n' cs'=>
    simp only [HE.den,HV.row.injEq] at hd
    obtain ⟨rfl,rfl,rfl,rfl,rfl⟩:=hd
    exact h.mem.row i _ _ _ _ _ hx
   | gone=>cases hd
   | abs A=>cases hd
   | hid T2 l2=>cases hd
 ·intro i A hi
  rcases ab3 h2 h3 i _ hi with e | ⟨x,hx,hd⟩
  ·cases e
  ·cases x with
   | blk T' l'=>cases hd
   | row T' s' v' n' cs'=>cases hd
   | gone=>cases hd
   | abs A'=>
    simp only [HE.den,HV.abs.injEq] at hd
    subst hd
    exact h.mem.abs i _ hx
   | hid T2 l2=>cases hd
 ·exact fun i k hk=>h.mem.low i k (hm i k hk)
 ·exact fun i j k hi hj=>h.mem.apart i j k (hm i k hi) (hm j k hj)
section
variable {c : Cx} {o : Out} {G : Gh} {ι : Type}
def RelI (c : Cx) (st' : ι → St) (GI : ι → Gh) (i : ι) (ρ : Fr) (w : World) : Prop:=∃ β,Sat c.bs (st' i) β ρ w ∧ Keeps c.K c.w0 w ∧ (GI i).p (Sof c.S0 β (st' i).hp) w
def MidR (c : Cx) (st' : ι → St) (GI : ι → Gh) (pre : ι → Prop) : Fr → World → Prop:=fun ρ w=>∃ i,pre i ∧ RelI c st' GI i ρ w
def LoopR (c : Cx) (st' : ι → St) (GI : ι → Gh) (pre : ι → Prop) (m : ι → Nat) (i : ι) : Fr → World → Prop:=fun ρ w=>∃ i',pre i' ∧ m i' < m i ∧ RelI c st' GI i' ρ w
abbrev Cx.sub (c : Cx) (R : Fr → World → Prop) (k : List Kt) : Cx:=⟨c.P,c.n,c.E,c.w0,c.S0,c.K,thenQ R (kQ c.P c.n c.Q k)⟩
theorem Cx.Ok.sub {R : Fr → World → Prop} {k : List Kt} (h : c.Ok) : (c.sub R k).Ok:=⟨h.env,h.up,h.lent⟩
theorem bc5 {st' : ι → St} {GI : ι → Gh} {β : Nat → Nat} {ρ : Fr} {w : World} (i : ι) (hS : Sat c.bs o.st β ρ w) (hw : Keeps c.K c.w0 w) (hG : G.p (Sof c.S0 β o.st.hp) w) (hsub : SubS o.st (st' i)) (hok : ∀ S w,Keeps c.K c.w0 w → G.p S w → StOk (st' i)) (hg : ∀ S w,Keeps c.K c.w0 w → G.p S w → (GI i).p S w) :
  RelI c st' GI i ρ w:=by
 obtain ⟨h1,h2⟩:=hS.sub hsub (hok _ _ hw hG)
 exact ⟨β,h1,hw,(GI i).mono (hg _ _ hw hG) fun k _ hk=>h2 c.S0 k hk⟩
def isNorm (o : Out) : Bool:=match o.cur,o.k with | .ex .normal,[]=>true | _,_=>false
theorem at5 (h : isNorm o = true) : o.cur = .ex .normal ∧ o.k = []:=by
 unfold isNorm at h
 split at h
 ·rename_i h1 h2; exact ⟨h1,h2⟩
 ·cases h
theorem cg6 {st' : ι → St} {GI : ι → Gh} {pre : ι → Prop} {k : List Kt} (i : ι) (he : isNorm o = true) (hp : pre i) (hsub : SubS o.st (st' i)) (hok : ∀ S w,Keeps c.K c.w0 w → G.p S w → StOk (st' i)) (hg : ∀ S w,Keeps c.K c.w0 w → G.p S w → (GI i).p S w) :
  Run (c.sub (MidR c st' GI pre) k) o G:=by
 refine ⟨fun β ρ w hS hw hG=>?_⟩
 obtain ⟨h1,h2⟩:=at5 he
 rw [h1,h2]
 exact ⟨i,hp,bc5 i hS hw hG hsub hok hg⟩
theorem b76 {st' : ι → St} {GI : ι → Gh} {pre : ι → Prop} {m : ι → Nat} {j : ι} {k : List Kt} (i : ι) (he : isNorm o = true) (hp : pre i) (hlt : m i < m j) (hsub : SubS o.st (st' i)) (hok : ∀ S w,Keeps c.K c.w0 w → G.p S w → StOk (st' i)) (hg : ∀ S w,Keeps c.K c.w0 w → G.p S w → (GI i).p S w) :
  Run (c.sub (LoopR c st' GI pre m j) k) o G:=by
 refine ⟨fun β ρ w hS hw hG=>?_⟩
 obtain ⟨h1,h2⟩:=at5 he
 rw [h1,h2]
 exact ⟨i,hp,hlt,bc5 i hS hw hG hsub hok hg⟩
def isOut (o : Out) : Bool:=match o.cur,o.k with | .ex .normal,_=>false | .ex _,[]=>true | _,_=>false
theorem cn4 {R : Fr → World → Prop} {k : List Kt} (he : isOut o = true) (h : Run c ⟨o.cur,k,o.st,[]⟩ G) : Run (c.sub R k) o G:=by
 refine ⟨fun β ρ w hS hw hG=>?_⟩
 have h1:=h.run β ρ w hS hw hG
 unfold isOut at he
 cases hc : o.cur with
 | code x=>rw [hc] at he; cases he
 | ops all r=>rw [hc] at he; cases he
 | ex e=>
  cases hk : o.k with
  | cons x r=>rw [hc,hk] at he; cases e <;> cases he
  | nil=>
   rw [hc,hk] at he
   rw [hc] at h1
   cases e with
   | normal=>cases he
   | _=>exact h1
theorem br7 {P : Program} {n : Nat} {Q Q' : Post} (hq : ∀ e ρ w,Q e ρ w → Q' e ρ w) {ρ : Fr} {w : World} : ∀ {cur : Cur},curX P n Q cur ρ w → curX P n Q' cur ρ w:=by
 intro cur h
 cases cur with
 | code x=>exact wp_mono h hq
 | ops all rest=>
  show WpR P n all Q' rest ρ w
  have h' : WpR P n all Q rest ρ w:=h
  unfold WpR at *
  intro hok D a hm
  refine al6 ?_ _ _ _ (h' hok D a hm)
  rintro e a w ⟨ρ',hm',hq'⟩
  exact ⟨ρ',hm',hq _ _ _ hq'⟩
 | ex e=>exact hq _ _ _ h
theorem co2 (st' : ι → St) (GI : ι → Gh) (pre : ι → Prop) (h1 : Run (c.sub (MidR c st' GI pre) o.k) ⟨o.cur,[],o.st,[]⟩ G) (h2 : ∀ i,pre i → Run c ⟨.ex .normal,o.k,st' i,[]⟩ (GI i)) : Run c o G:=by
 refine ⟨fun β ρ w hS hw hG=>?_⟩
 refine br7 ?_ (h1.run β ρ w hS hw hG)
 intro e ρ' w' hq
 cases e with
 | normal=>
  obtain ⟨i,hp,β',hS',hw',hG'⟩:=hq
  exact (h2 i hp).run β' ρ' w' hS' hw' hG'
 | _=>exact hq
def isLoop (o : Out) : Bool:=match o.cur with | .code (.loop _)=>true | _=>false
def loopBody (o : Out) : Code:=match o.cur with | .code (.loop c)=>c | _=>.skip
theorem ci4 (st' : ι → St) (GI : ι → Gh) (pre : ι → Prop) (m : ι → Nat) (i : ι) (he : isLoop o = true) (hp : pre i) (hsub : SubS o.st (st' i)) (hok : ∀ S w,Keeps c.K c.w0 w → G.p S w → StOk (st' i)) (hg : ∀ S w,Keeps c.K c.w0 w → G.p S w → (GI i).p S w)
  (hb : ∀ i,pre i → Run (c.sub (LoopR c st' GI pre m i) o.k) ⟨.code (loopBody o),[],st' i,[]⟩ (GI i)) : Run c o G:=by
 refine ⟨fun β ρ w hS hw hG=>?_⟩
 have hrel:=bc5 i hS hw hG hsub hok hg
 unfold isLoop at he
 split at he <;> first | (cases he; done) | skip
 rename_i x hx
 have hbd : loopBody o = x:=by unfold loopBody; rw [hx]
 rw [hx]
 show Wp c.P c.n (.loop x) (kQ c.P c.n c.Q o.k) ρ w
 have key : ∀ N i ρ w,m i = N → pre i → RelI c st' GI i ρ w → LH c.P c.n x (kQ c.P c.n c.Q o.k) ρ w:=by
  intro N
  induction N using Nat.strongRecOn with
  | _ N ih=>
   intro i ρ w hm hp ⟨β,hS,hw,hG⟩
   have h1:=(hb i hp).run β ρ w hS hw hG
   rw [hbd] at h1
   refine bs2 (wp_mono h1 ?_)
   intro e ρ' w' hq
   cases e with
   | normal=>
    obtain ⟨i',hp',hlt,hr⟩:=hq
    exact ih (m i') (by omega) i' ρ' w' rfl hp' hr
   | _=>exact hq
 exact a61 (key _ i ρ w rfl hp hrel)
end
end Go.Proofs.YtpheooheinfbgaaGreatDoor
end
section
namespace Go.Proofs.YtpheooheinfbgaaGreatDoor
open Go
theorem ty2 : TyOk Tryz.prog 2 ⟨1,8,false,zeroD (Go.Value.int Go.IntKind.i64 0),.int Go.IntKind.i64⟩:=A6 (inferInstance : TyI Tryz.prog 2 1 8 (Go.Value.int Go.IntKind.i64 0) false) rfl (Tryz.underlying2)
theorem ty3 : TyOk Tryz.prog 3 ⟨1,8,false,zeroD (Go.Value.int Go.IntKind.i64 0),.int Go.IntKind.i64⟩:=A6 (inferInstance : TyI Tryz.prog 3 1 8 (Go.Value.int Go.IntKind.i64 0) false) rfl (Tryz.underlying3)
theorem ty4 : TyOk Tryz.prog 4 ⟨1,1,false,zeroD (Go.Value.bool false),.bool⟩:=A6 (inferInstance : TyI Tryz.prog 4 1 1 (Go.Value.bool false) false) rfl (Tryz.underlying4)
theorem ty9 : TyOk Tryz.prog 9 ⟨1,16,false,zeroD (Go.Value.string { data:=#[] }),.str⟩:=A6 (inferInstance : TyI Tryz.prog 9 1 16 (Go.Value.string { data:=#[] }) false) rfl (Tryz.underlying9)
theorem ct0 : TyOk Tryz.prog 22 ⟨1,24,false,zeroD (Go.Value.slice none 0 0),.slice 35⟩:=A6 (inferInstance : TyI Tryz.prog 22 1 24 (Go.Value.slice none 0 0) false) rfl (Tryz.underlying22)
theorem cr5 : TyOk Tryz.prog 23 ⟨1,24,false,zeroD (Go.Value.slice none 0 0),.slice 32⟩:=A6 (inferInstance : TyI Tryz.prog 23 1 24 (Go.Value.slice none 0 0) false) rfl (Tryz.underlying23)
theorem cq2 : TyOk Tryz.prog 24 ⟨1,24,false,zeroD (Go.Value.slice none 0 0),.slice 44⟩:=A6 (inferInstance : TyI Tryz.prog 24 1 24 (Go.Value.slice none 0 0) false) rfl (Tryz.underlying24)
theorem cq6 : TyOk Tryz.prog 26 ⟨1,24,false,zeroD (Go.Value.slice none 0 0),.slice 3⟩:=A6 (inferInstance : TyI Tryz.prog 26 1 24 (Go.Value.slice none 0 0) false) rfl (Tryz.underlying26)
theorem cq4 : TyOk Tryz.prog 28 ⟨2,32,true,zeroD (Go.Value.agg #[Go.Value.bool false,Go.Value.slice none 0 0]),.struct [(0,1,false),(1,1,false)]⟩:=A6 (inferInstance : TyI Tryz.prog 28 2 32 (Go.Value.agg #[Go.Value.bool false,Go.Value.slice none 0 0]) true) rfl (⟨_,Tryz.underlying28,by kernel_rfl,fun w=>by kernel_rfl⟩)
theorem ct9 : TyOk Tryz.prog 30 ⟨4,64,true,zeroD (Go.Value.agg #[Go.Value.bool false,Go.Value.slice none 0 0,Go.Value.bool false,Go.Value.slice none 0 0]),.struct [(0,2,true),(2,2,true)]⟩:=A6 (inferInstance : TyI Tryz.prog 30 4 64 (Go.Value.agg #[Go.Value.bool false,Go.Value.slice none 0 0,Go.Value.bool false,Go.Value.slice none 0 0]) true) rfl (⟨_,Tryz.underlying30,by kernel_rfl,fun w=>by kernel_rfl⟩)
theorem cp9 : TyOk Tryz.prog 31 ⟨12,192,true,zeroD (Go.Value.agg #[Go.Value.bool false,Go.Value.slice none 0 0,Go.Value.bool false,Go.Value.slice none 0 0,Go.Value.bool false,Go.Value.slice none 0 0,Go.Value.bool false,Go.Value.slice none 0 0,Go.Value.bool false,Go.Value.slice none 0 0,Go.Value.bool false,Go.Value.slice none 0 0]),.array 3 30⟩:=A6 (inferInstance : TyI Tryz.prog 31 12 192 (Go.Value.agg #[Go.Value.bool false,Go.Value.slice none 0 0,Go.Value.bool false,Go.Value.slice none 0 0,Go.Value.bool false,Go.Value.slice none 0 0,Go.Value.bool false,Go.Value.slice none 0 0,Go.Value.bool false,Go.Value.slice none 0 0,Go.Value.bool false,Go.Value.slice none 0 0]) true) rfl (Tryz.underlying31)
theorem cr9 : TyOk Tryz.prog 32 ⟨12,192,true,zeroD (Go.Value.agg #[Go.Value.bool false,Go.Value.slice none 0 0,Go.Value.bool false,Go.Value.slice none 0 0,Go.Value.bool false,Go.Value.slice none 0 0,Go.Value.bool false,Go.Value.slice none 0 0,Go.Value.bool false,Go.Value.slice none 0 0,Go.Value.bool false,Go.Value.slice none 0 0]),.array 3 30⟩:=A6 (inferInstance : TyI Tryz.prog 32 12 192 (Go.Value.agg #[Go.Value.bool false,Go.Value.slice none 0 0,Go.Value.bool false,Go.Value.slice none 0 0,Go.Value.bool false,Go.Value.slice none 0 0,Go.Value.bool false,Go.Value.slice none 0 0,Go.Value.bool false,Go.Value.slice none 0 0,Go.Value.bool false,Go.Value.slice none 0 0]) true) rfl (Tryz.underlying32)
theorem cs4 : TyOk Tryz.prog 34 ⟨6,48,true,zeroD (Go.Value.agg #[Go.Value.int Go.IntKind.i64 0,Go.Value.int Go.IntKind.i64 0,Go.Value.int Go.IntKind.i64 0,Go.Value.int Go.IntKind.i64 0,Go.Value.int Go.IntKind.i64 0,Go.Value.int Go.IntKind.i64 0]),.array 6 3⟩:=A6 (inferInstance : TyI Tryz.prog 34 6 48 (Go.Value.agg #[Go.Value.int Go.IntKind.i64 0,Go.Value.int Go.IntKind.i64 0,Go.Value.int Go.IntKind.i64 0,Go.Value.int Go.IntKind.i64 0,Go.Value.int Go.IntKind.i64 0,Go.Value.int Go.IntKind.i64 0]) true) rfl (Tryz.underlying34)
theorem cs8 : TyOk Tryz.prog 35 ⟨6,48,true,zeroD (Go.Value.agg #[Go.Value.int Go.IntKind.i64 0,Go.Value.int Go.IntKind.i64 0,Go.Value.int Go.IntKind.i64 0,Go.Value.int Go.IntKind.i64 0,Go.Value.int Go.IntKind.i64 0,Go.Value.int Go.IntKind.i64 0]),.array 6 3⟩:=A6 (inferInstance : TyI Tryz.prog 35 6 48 (Go.Value.agg #[Go.Value.int Go.IntKind.i64 0,Go.Value.int Go.IntKind.i64 0,Go.Value.int Go.IntKind.i64 0,Go.Value.int Go.IntKind.i64 0,Go.Value.int Go.IntKind.i64 0,Go.Value.int Go.IntKind.i64 0]) true) rfl (Tryz.underlying35)
theorem cq5 : TyOk Tryz.prog 36 ⟨1,8,false,zeroD (Go.Value.int Go.IntKind.u64 0),.int Go.IntKind.u64⟩:=A6 (inferInstance : TyI Tryz.prog 36 1 8 (Go.Value.int Go.IntKind.u64 0) false) rfl (Tryz.underlying36)
theorem ct2 : TyOk Tryz.prog 40 ⟨2,32,true,zeroD (Go.Value.agg #[Go.Value.bool false,Go.Value.slice none 0 0]),.struct [(0,1,false),(1,1,false)]⟩:=A6 (inferInstance : TyI Tryz.prog 40 2 32 (Go.Value.agg #[Go.Value.bool false,Go.Value.slice none 0 0]) true) rfl (⟨_,Tryz.underlying40,by kernel_rfl,fun w=>by kernel_rfl⟩)
theorem cq9 : TyOk Tryz.prog 42 ⟨3,56,true,zeroD (Go.Value.agg #[Go.Value.bool false,Go.Value.slice none 0 0,Go.Value.slice none 0 0]),.struct [(0,2,true),(2,1,false)]⟩:=A6 (inferInstance : TyI Tryz.prog 42 3 56 (Go.Value.agg #[Go.Value.bool false,Go.Value.slice none 0 0,Go.Value.slice none 0 0]) true) rfl (⟨_,Tryz.underlying42,by kernel_rfl,fun w=>by kernel_rfl⟩)
theorem cr3 : TyOk Tryz.prog 44 ⟨9,168,true,zeroD (Go.Value.agg #[Go.Value.bool false,Go.Value.slice none 0 0,Go.Value.slice none 0 0,Go.Value.bool false,Go.Value.slice none 0 0,Go.Value.slice none 0 0,Go.Value.bool false,Go.Value.slice none 0 0,Go.Value.slice none 0 0]),.array 3 42⟩:=A6 (inferInstance : TyI Tryz.prog 44 9 168 (Go.Value.agg #[Go.Value.bool false,Go.Value.slice none 0 0,Go.Value.slice none 0 0,Go.Value.bool false,Go.Value.slice none 0 0,Go.Value.slice none 0 0,Go.Value.bool false,Go.Value.slice none 0 0,Go.Value.slice none 0 0]) true) rfl (Tryz.underlying44)
theorem ct7 : TyOk Tryz.prog 46 ⟨1,8,false,zeroD (Go.Value.int Go.IntKind.i64 0),.int Go.IntKind.i64⟩:=A6 (inferInstance : TyI Tryz.prog 46 1 8 (Go.Value.int Go.IntKind.i64 0) false) rfl (Tryz.underlying46)
theorem ct1 : TyOk Tryz.prog 60 ⟨9,72,true,zeroD (Go.Value.agg #[Go.Value.int Go.IntKind.i64 0,Go.Value.int Go.IntKind.i64 0,Go.Value.int Go.IntKind.i64 0,Go.Value.int Go.IntKind.i64 0,Go.Value.int Go.IntKind.i64 0,Go.Value.int Go.IntKind.i64 0,Go.Value.int Go.IntKind.i64 0,Go.Value.int Go.IntKind.i64 0,Go.Value.int Go.IntKind.i64 0]),.array 9 3⟩:=A6 (inferInstance : TyI Tryz.prog 60 9 72 (Go.Value.agg #[Go.Value.int Go.IntKind.i64 0,Go.Value.int Go.IntKind.i64 0,Go.Value.int Go.IntKind.i64 0,Go.Value.int Go.IntKind.i64 0,Go.Value.int Go.IntKind.i64 0,Go.Value.int Go.IntKind.i64 0,Go.Value.int Go.IntKind.i64 0,Go.Value.int Go.IntKind.i64 0,Go.Value.int Go.IntKind.i64 0]) true) rfl (Tryz.underlying60)
theorem cs5 : TyOk Tryz.prog 62 ⟨36,576,true,zeroD (Go.Value.agg #[Go.Value.bool false,Go.Value.slice none 0 0,Go.Value.bool false,Go.Value.slice none 0 0,Go.Value.bool false,Go.Value.slice none 0 0,Go.Value.bool false,Go.Value.slice none 0 0,Go.Value.bool false,Go.Value.slice none 0 0,Go.Value.bool false,Go.Value.slice none 0 0,Go.Value.bool false,Go.Value.slice none 0 0,Go.Value.bool false,Go.Value.slice none 0 0,Go.Value.bool false,Go.Value.slice none 0 0,Go.Value.bool false,Go.Value.slice none 0 0,Go.Value.bool false,Go.Value.slice none 0 0,Go.Value.bool false,Go.Value.slice none 0 0,Go.Value.bool false,Go.Value.slice none 0 0,Go.Value.bool false,Go.Value.slice none 0 0,Go.Value.bool false,Go.Value.slice none 0 0,Go.Value.bool false,Go.Value.slice none 0 0,Go.Value.bool false,Go.Value.slice none 0 0,Go.Value.bool false,Go.Value.slice none 0 0]),.array 3 31⟩:=A6 (⟨by kernel_rfl,by rfl,by kernel_rfl⟩ : TyI Tryz.prog 62 36 576 (Go.Value.agg #[Go.Value.bool false,Go.Value.slice none 0 0,Go.Value.bool false,Go.Value.slice none 0 0,Go.Value.bool false,Go.Value.slice none 0 0,Go.Value.bool false,Go.Value.slice none 0 0,Go.Value.bool false,Go.Value.slice none 0 0,Go.Value.bool false,Go.Value.slice none 0 0,Go.Value.bool false,Go.Value.slice none 0 0,Go.Value.bool false,Go.Value.slice none 0 0,Go.Value.bool false,Go.Value.slice none 0 0,Go.Value.bool false,Go.Value.slice none 0 0,Go.Value.bool false,Go.Value.slice none 0 0,Go.Value.bool false,Go.Value.slice none 0 0,Go.Value.bool false,Go.Value.slice none 0 0,Go.Value.bool false,Go.Value.slice none 0 0,Go.Value.bool false,Go.Value.slice none 0 0,Go.Value.bool false,Go.Value.slice none 0 0,Go.Value.bool false,Go.Value.slice none 0 0,Go.Value.bool false,Go.Value.slice none 0 0]) true) rfl (Tryz.underlying62)
theorem ct3 : TyOk Tryz.prog 64 ⟨54,1008,true,zeroD (Go.Value.agg #[Go.Value.bool false,Go.Value.slice none 0 0,Go.Value.slice none 0 0,Go.Value.bool false,Go.Value.slice none 0 0,Go.Value.slice none 0 0,Go.Value.bool false,Go.Value.slice none 0 0,Go.Value.slice none 0 0,Go.Value.bool false,Go.Value.slice none 0 0,Go.Value.slice none 0 0,Go.Value.bool false,Go.Value.slice none 0 0,Go.Value.slice none 0 0,Go.Value.bool false,Go.Value.slice none 0 0,Go.Value.slice none 0 0,Go.Value.bool false,Go.Value.slice none 0 0,Go.Value.slice none 0 0,Go.Value.bool false,Go.Value.slice none 0 0,Go.Value.slice none 0 0,Go.Value.bool false,Go.Value.slice none 0 0,Go.Value.slice none 0 0,Go.Value.bool false,Go.Value.slice none 0 0,Go.Value.slice none 0 0,Go.Value.bool false,Go.Value.slice none 0 0,Go.Value.slice none 0 0,Go.Value.bool false,Go.Value.slice none 0 0,Go.Value.slice none 0 0,Go.Value.bool false,Go.Value.slice none 0 0,Go.Value.slice none 0 0,Go.Value.bool false,Go.Value.slice none 0 0,Go.Value.slice none 0 0,Go.Value.bool false,Go.Value.slice none 0 0,Go.Value.slice none 0 0,Go.Value.bool false,Go.Value.slice none 0 0,Go.Value.slice none 0 0,Go.Value.bool false,Go.Value.slice none 0 0,Go.Value.slice none 0 0,Go.Value.bool false,Go.Value.slice none 0 0,Go.Value.slice none 0 0]),.array 6 44⟩:=A6 (⟨by kernel_rfl,by rfl,by kernel_rfl⟩ : TyI Tryz.prog 64 54 1008 (Go.Value.agg #[Go.Value.bool false,Go.Value.slice none 0 0,Go.Value.slice none 0 0,Go.Value.bool false,Go.Value.slice none 0 0,Go.Value.slice none 0 0,Go.Value.bool false,Go.Value.slice none 0 0,Go.Value.slice none 0 0,Go.Value.bool false,Go.Value.slice none 0 0,Go.Value.slice none 0 0,Go.Value.bool false,Go.Value.slice none 0 0,Go.Value.slice none 0 0,Go.Value.bool false,Go.Value.slice none 0 0,Go.Value.slice none 0 0,Go.Value.bool false,Go.Value.slice none 0 0,Go.Value.slice none 0 0,Go.Value.bool false,Go.Value.slice none 0 0,Go.Value.slice none 0 0,Go.Value.bool false,Go.Value.slice none 0 0,Go.Value.slice none 0 0,Go.Value.bool false,Go.Value.slice none 0 0,Go.Value.slice none 0 0,Go.Value.bool false,Go.Value.slice none 0 0,Go.Value.slice none 0 0,Go.Value.bool false,Go.Value.slice none 0 0,Go.Value.slice none 0 0,Go.Value.bool false,Go.Value.slice none 0 0,Go.Value.slice none 0 0,Go.Value.bool false,Go.Value.slice none 0 0,Go.Value.slice none 0 0,Go.Value.bool false,Go.Value.slice none 0 0,Go.Value.slice none 0 0,Go.Value.bool false,Go.Value.slice none 0 0,Go.Value.slice none 0 0,Go.Value.bool false,Go.Value.slice none 0 0,Go.Value.slice none 0 0,Go.Value.bool false,Go.Value.slice none 0 0,Go.Value.slice none 0 0]) true) rfl (Tryz.underlying64)
theorem cq0 : TyOk Tryz.prog 65 ⟨11,11,true,zeroD (Go.Value.agg #[Go.Value.bool false,Go.Value.bool false,Go.Value.bool false,Go.Value.bool false,Go.Value.bool false,Go.Value.bool false,Go.Value.bool false,Go.Value.bool false,Go.Value.bool false,Go.Value.bool false,Go.Value.bool false]),.array 11 4⟩:=A6 (inferInstance : TyI Tryz.prog 65 11 11 (Go.Value.agg #[Go.Value.bool false,Go.Value.bool false,Go.Value.bool false,Go.Value.bool false,Go.Value.bool false,Go.Value.bool false,Go.Value.bool false,Go.Value.bool false,Go.Value.bool false,Go.Value.bool false,Go.Value.bool false]) true) rfl (Tryz.underlying65)
theorem ct4 : TyOk Tryz.prog 71 ⟨3,24,true,zeroD (Go.Value.agg #[Go.Value.int Go.IntKind.i64 0,Go.Value.int Go.IntKind.i64 0,Go.Value.int Go.IntKind.i64 0]),.array 3 2⟩:=A6 (inferInstance : TyI Tryz.prog 71 3 24 (Go.Value.agg #[Go.Value.int Go.IntKind.i64 0,Go.Value.int Go.IntKind.i64 0,Go.Value.int Go.IntKind.i64 0]) true) rfl (Tryz.underlying71)
theorem cp8 : TyOk Tryz.prog 72 ⟨27,504,true,zeroD (Go.Value.agg #[Go.Value.bool false,Go.Value.slice none 0 0,Go.Value.slice none 0 0,Go.Value.bool false,Go.Value.slice none 0 0,Go.Value.slice none 0 0,Go.Value.bool false,Go.Value.slice none 0 0,Go.Value.slice none 0 0,Go.Value.bool false,Go.Value.slice none 0 0,Go.Value.slice none 0 0,Go.Value.bool false,Go.Value.slice none 0 0,Go.Value.slice none 0 0,Go.Value.bool false,Go.Value.slice none 0 0,Go.Value.slice none 0 0,Go.Value.bool false,Go.Value.slice none 0 0,Go.Value.slice none 0 0,Go.Value.bool false,Go.Value.slice none 0 0,Go.Value.slice none 0 0,Go.Value.bool false,Go.Value.slice none 0 0,Go.Value.slice none 0 0]),.array 3 44⟩:=A6 (⟨by kernel_rfl,by rfl,by kernel_rfl⟩ : TyI Tryz.prog 72 27 504 (Go.Value.agg #[Go.Value.bool false,Go.Value.slice none 0 0,Go.Value.slice none 0 0,Go.Value.bool false,Go.Value.slice none 0 0,Go.Value.slice none 0 0,Go.Value.bool false,Go.Value.slice none 0 0,Go.Value.slice none 0 0,Go.Value.bool false,Go.Value.slice none 0 0,Go.Value.slice none 0 0,Go.Value.bool false,Go.Value.slice none 0 0,Go.Value.slice none 0 0,Go.Value.bool false,Go.Value.slice none 0 0,Go.Value.slice none 0 0,Go.Value.bool false,Go.Value.slice none 0 0,Go.Value.slice none 0 0,Go.Value.bool false,Go.Value.slice none 0 0,Go.Value.slice none 0 0,Go.Value.bool false,Go.Value.slice none 0 0,Go.Value.slice none 0 0]) true) rfl (Tryz.underlying72)
theorem cu0 : TyOk Tryz.prog 82 ⟨1,24,false,zeroD (Go.Value.slice none 0 0),.slice 30⟩:=A6 (inferInstance : TyI Tryz.prog 82 1 24 (Go.Value.slice none 0 0) false) rfl (Tryz.underlying82)
theorem cn5 : TyOk Tryz.prog 108 ⟨1,8,true,zeroD (Go.Value.agg #[Go.Value.int Go.IntKind.i64 0]),.struct [(0,1,false)]⟩:=A6 (inferInstance : TyI Tryz.prog 108 1 8 (Go.Value.agg #[Go.Value.int Go.IntKind.i64 0]) true) rfl (⟨_,Tryz.underlying108,by kernel_rfl,fun w=>by kernel_rfl⟩)
theorem co3 : TyOk Tryz.prog 111 ⟨1,24,false,zeroD (Go.Value.slice none 0 0),.slice 42⟩:=A6 (inferInstance : TyI Tryz.prog 111 1 24 (Go.Value.slice none 0 0) false) rfl (Tryz.underlying111)
theorem cp3 : TyOk Tryz.prog 114 ⟨4,64,true,zeroD (Go.Value.agg #[Go.Value.bool false,Go.Value.slice none 0 0,Go.Value.slice none 0 0,Go.Value.bool false]),.struct [(0,3,true),(3,1,false)]⟩:=A6 (inferInstance : TyI Tryz.prog 114 4 64 (Go.Value.agg #[Go.Value.bool false,Go.Value.slice none 0 0,Go.Value.slice none 0 0,Go.Value.bool false]) true) rfl (⟨_,Tryz.underlying114,by kernel_rfl,fun w=>by kernel_rfl⟩)
def env : Env:=[(2,⟨1,8,false,zeroD (Go.Value.int Go.IntKind.i64 0),.int Go.IntKind.i64⟩),(3,⟨1,8,false,zeroD (Go.Value.int Go.IntKind.i64 0),.int Go.IntKind.i64⟩),(4,⟨1,1,false,zeroD (Go.Value.bool false),.bool⟩),(9,⟨1,16,false,zeroD (Go.Value.string { data:=#[] }),.str⟩),(22,⟨1,24,false,zeroD (Go.Value.slice none 0 0),.slice 35⟩),(23,⟨1,24,false,zeroD (Go.Value.slice none 0 0),.slice 32⟩),(24,⟨1,24,false,zeroD (Go.Value.slice none 0 0),.slice 44⟩),(26,⟨1,24,false,zeroD (Go.Value.slice none 0 0),.slice 3⟩),(28,⟨2,32,true,zeroD (Go.Value.agg #[Go.Value.bool false,Go.Value.slice none 0 0]),.struct [(0,1,false),(1,1,false)]⟩),(30,⟨4,64,true,zeroD (Go.Value.agg #[Go.Value.bool false,Go.Value.slice none 0 0,Go.Value.bool false,Go.Value.slice none 0 0]),.struct [(0,2,true),(2,2,true)]⟩),(31,⟨12,192,true,zeroD (Go.Value.agg #[Go.Value.bool false,Go.Value.slice none 0 0,Go.Value.bool false,Go.Value.slice none 0 0,Go.Value.bool false,Go.Value.slice none 0 0,Go.Value.bool false,Go.Value.slice none 0 0,Go.Value.bool false,Go.Value.slice none 0 0,Go.Value.bool false,Go.Value.slice none 0 0]),.array 3 30⟩),(32,⟨12,192,true,zeroD (Go.Value.agg #[Go.Value.bool false,Go.Value.slice none 0 0,Go.Value.bool false,Go.Value.slice none 0 0,Go.Value.bool false,Go.Value.slice none 0 0,Go.Value.bool false,Go.Value.slice none 0 0,Go.Value.bool false,Go.Value.slice none 0 0,Go.Value.bool false,Go.Value.slice none 0 0]),.array 3 30⟩),(34,⟨6,48,true,zeroD (Go.Value.agg #[Go.Value.int Go.IntKind.i64 0,Go.Value.int Go.IntKind.i64 0,Go.Value.int Go.IntKind.i64 0,Go.Value.int Go.IntKind.i64 0,Go.Value.int Go.IntKind.i64 0,Go.Value.int Go.IntKind.i64 0]),.array 6 3⟩),(35,⟨6,48,true,zeroD (Go.Value.agg #[Go.Value.int Go.IntKind.i64 0,Go.Value.int Go.IntKind.i64 0,Go.Value.int Go.IntKind.i64 0,Go.Value.int Go.IntKind.i64 0,Go.Value.int Go.IntKind.i64 0,Go.Value.int Go.IntKind.i64 0]),.array 6 3⟩),(36,⟨1,8,false,zeroD (Go.Value.int Go.IntKind.u64 0),.int Go.IntKind.u64⟩),(40,⟨2,32,true,zeroD (Go.Value.agg #[Go.Value.bool false,Go.Value.slice none 0 0]),.struct [(0,1,false),(1,1,false)]⟩),(42,⟨3,56,true,zeroD (Go.Value.agg #[Go.Value.bool false,Go.Value.slice none 0 0,Go.Value.slice none 0 0]),.struct [(0,2,true),(2,1,false)]⟩),(44,⟨9,168,true,zeroD (Go.Value.agg #[Go.Value.bool false,Go.Value.slice none 0 0,Go.Value.slice none 0 0,Go.Value.bool false,Go.Value.slice none 0 0,Go.Value.slice none 0 0,Go.Value.bool false,Go.Value.slice none 0 0,Go.Value.slice none 0 0]),.array 3 42⟩),(46,⟨1,8,false,zeroD (Go.Value.int Go.IntKind.i64 0),.int Go.IntKind.i64⟩),(60,⟨9,72,true,zeroD (Go.Value.agg #[Go.Value.int Go.IntKind.i64 0,Go.Value.int Go.IntKind.i64 0,Go.Value.int Go.IntKind.i64 0,Go.Value.int Go.IntKind.i64 0,Go.Value.int Go.IntKind.i64 0,Go.Value.int Go.IntKind.i64 0,Go.Value.int Go.IntKind.i64 0,Go.Value.int Go.IntKind.i64 0,Go.Value.int Go.IntKind.i64 0]),.array 9 3⟩),(62,⟨36,576,true,zeroD (Go.Value.agg #[Go.Value.bool false,Go.Value.slice none 0 0,Go.Value.bool false,Go.Value.slice none 0 0,Go.Value.bool false,Go.Value.slice none 0 0,Go.Value.bool false,Go.Value.slice none 0 0,Go.Value.bool false,Go.Value.slice none 0 0,Go.Value.bool false,Go.Value.slice none 0 0,Go.Value.bool false,Go.Value.slice none 0 0,Go.Value.bool false,Go.Value.slice none 0 0,Go.Value.bool false,Go.Value.slice none 0 0,Go.Value.bool false,Go.Value.slice none 0 0,Go.Value.bool false,Go.Value.slice none 0 0,Go.Value.bool false,Go.Value.slice none 0 0,Go.Value.bool false,Go.Value.slice none 0 0,Go.Value.bool false,Go.Value.slice none 0 0,Go.Value.bool false,Go.Value.slice none 0 0,Go.Value.bool false,Go.Value.slice none 0 0,Go.Value.bool false,Go.Value.slice none 0 0,Go.Value.bool false,Go.Value.slice none 0 0]),.array 3 31⟩),(64,⟨54,1008,true,zeroD (Go.Value.agg #[Go.Value.bool false,Go.Value.slice none 0 0,Go.Value.slice none 0 0,Go.Value.bool false,Go.Value.slice none 0 0,Go.Value.slice none 0 0,Go.Value.bool false,Go.Value.slice none 0 0,Go.Value.slice none 0 0,Go.Value.bool false,Go.Value.slice none 0 0,Go.Value.slice none 0 0,Go.Value.bool false,Go.Value.slice none 0 0,Go.Value.slice none 0 0,Go.Value.bool false,Go.Value.slice none 0 0,Go.Value.slice none 0 0,Go.Value.bool false,Go.Value.slice none 0 0,Go.Value.slice none 0 0,Go.Value.bool false,Go.Value.slice none 0 0,Go.Value.slice none 0 0,Go.Value.bool false,Go.Value.slice none 0 0,Go.Value.slice none 0 0,Go.Value.bool false,Go.Value.slice none 0 0,Go.Value.slice none 0 0,Go.Value.bool false,Go.Value.slice none 0 0,Go.Value.slice none 0 0,Go.Value.bool false,Go.Value.slice none 0 0,Go.Value.slice none 0 0,Go.Value.bool false,Go.Value.slice none 0 0,Go.Value.slice none 0 0,Go.Value.bool false,Go.Value.slice none 0 0,Go.Value.slice none 0 0,Go.Value.bool false,Go.Value.slice none 0 0,Go.Value.slice none 0 0,Go.Value.bool false,Go.Value.slice none 0 0,Go.Value.slice none 0 0,Go.Value.bool false,Go.Value.slice none 0 0,Go.Value.slice none 0 0,Go.Value.bool false,Go.Value.slice none 0 0,Go.Value.slice none 0 0]),.array 6 44⟩),(65,⟨11,11,true,zeroD (Go.Value.agg #[Go.Value.bool false,Go.Value.bool false,Go.Value.bool false,Go.Value.bool false,Go.Value.bool false,Go.Value.bool false,Go.Value.bool false,Go.Value.bool false,Go.Value.bool false,Go.Value.bool false,Go.Value.bool false]),.array 11 4⟩),(71,⟨3,24,true,zeroD (Go.Value.agg #[Go.Value.int Go.IntKind.i64 0,Go.Value.int Go.IntKind.i64 0,Go.Value.int Go.IntKind.i64 0]),.array 3 2⟩),(72,⟨27,504,true,zeroD (Go.Value.agg #[Go.Value.bool false,Go.Value.slice none 0 0,Go.Value.slice none 0 0,Go.Value.bool false,Go.Value.slice none 0 0,Go.Value.slice none 0 0,Go.Value.bool false,Go.Value.slice none 0 0,Go.Value.slice none 0 0,Go.Value.bool false,Go.Value.slice none 0 0,Go.Value.slice none 0 0,Go.Value.bool false,Go.Value.slice none 0 0,Go.Value.slice none 0 0,Go.Value.bool false,Go.Value.slice none 0 0,Go.Value.slice none 0 0,Go.Value.bool false,Go.Value.slice none 0 0,Go.Value.slice none 0 0,Go.Value.bool false,Go.Value.slice none 0 0,Go.Value.slice none 0 0,Go.Value.bool false,Go.Value.slice none 0 0,Go.Value.slice none 0 0]),.array 3 44⟩),(82,⟨1,24,false,zeroD (Go.Value.slice none 0 0),.slice 30⟩),(108,⟨1,8,true,zeroD (Go.Value.agg #[Go.Value.int Go.IntKind.i64 0]),.struct [(0,1,false)]⟩),(111,⟨1,24,false,zeroD (Go.Value.slice none 0 0),.slice 42⟩),(114,⟨4,64,true,zeroD (Go.Value.agg #[Go.Value.bool false,Go.Value.slice none 0 0,Go.Value.slice none 0 0,Go.Value.bool false]),.struct [(0,3,true),(3,1,false)]⟩)]
theorem a8 : EnvOk Tryz.prog env:=p9 ty2 (p9 ty3 (p9 ty4 (p9 ty9 (p9 ct0 (p9 cr5 (p9 cq2 (p9 cq6 (p9 cq4 (p9 ct9 (p9 cp9 (p9 cr9 (p9 cs4 (p9 cs8 (p9 cq5 (p9 ct2 (p9 cq9 (p9 cr3 (p9 ct7 (p9 ct1 (p9 cs5 (p9 ct3 (p9 cq0 (p9 ct4 (p9 cp8 (p9 cu0 (p9 cn5 (p9 co3 (p9 cp3 (bm0)))))))))))))))))))))))))))))
end Go.Proofs.YtpheooheinfbgaaGreatDoor
end
section
set_option linter.unusedVariables false
set_option linter.unusedSimpArgs false
namespace Go.Proofs.YtpheooheinfbgaaGreatDoor
open Go Go.RowKit
inductive HRec where
 | val (d : Nat) (sv : (Nat → Value) → SV)
 | mk (d : Nat) (T : TypeId) (l : (Nat → Value) → List Ch)
 | spec (d : Nat) (p : Value → SV) (Δ : Value → Gh)
 | st (k : Nat) (l : (Nat → Value) → List Ch)
 | same
 | sto (b : Nat) (T : TypeId) (l0 : List Ch) (l : (Nat → Value) → List Ch)
def HRec.d : HRec → Option Nat
 | .val d _=>some d
 | .mk d _ _=>some d
 | .spec d _ _=>some d
 | .st _ _=>none
 | .same=>none
 | .sto _ _ _ _=>none
def cnt : List HRec → Nat
 | []=>0
 | .mk _ _ _ :: r=>cnt r + 1
 | .val _ _ :: r=>cnt r
 | .spec _ _ _ :: r=>cnt r
 | .st _ _ :: r=>cnt r
 | .same :: r=>cnt r
 | .sto _ _ _ _ :: r=>cnt r
def HRec.sv (m0 m n : Nat) (η : Nat → Value) : HRec → SV
 | .val _ sv=>sv η
 | .mk _ _ _=>.one (.ptr (m0 + m) 0)
 | .spec _ p _=>p (η n)
 | .st _ _=>.und
 | .same=>.und
 | .sto _ _ _ _=>.und
def accFr (m0 : Nat) (η : Nat → Value) : List HRec → List (Nat × SV)
 | []=>[]
 | h :: r=>match h.d with | some d=>(d,h.sv m0 (cnt r) r.length η) :: accFr m0 η r | none=>accFr m0 η r
def frH (st : St) (acc : List HRec) (η : Nat → Value) : List (Nat × SV):=accFr st.hp.length η acc ++ st.fr
def stOf : List HRec → Nat → Option ((Nat → Value) → List Ch)
 | [],_=>none
 | .st k l :: r,j=>bif Nat.beq k j then some l else stOf r j
 | .val _ _ :: r,j=>stOf r j
 | .mk _ _ _ :: r,j=>stOf r j
 | .spec _ _ _ :: r,j=>stOf r j
 | .same :: r,j=>stOf r j
 | .sto _ _ _ _ :: r,j=>stOf r j
def accNwF (F : Nat → Option ((Nat → Value) → List Ch)) (η : Nat → Value) : List HRec → List HE
 | []=>[]
 | .mk _ T l :: r=>accNwF F η r ++ [.blk T (((F r.length).getD l) η)]
 | .val _ _ :: r=>accNwF F η r
 | .spec _ _ _ :: r=>accNwF F η r
 | .st _ _ :: r=>accNwF F η r
 | .same :: r=>accNwF F η r
 | .sto _ _ _ _ :: r=>accNwF F η r
def accNw (η : Nat → Value) (acc : List HRec) : List HE:=accNwF (stOf acc) η acc
def accG (G : Gh) (η : Nat → Value) : List HRec → Gh
 | []=>G
 | .spec _ _ Δ :: r=>(Δ (η r.length)).and (accG G η r)
 | .val _ _ :: r=>accG G η r
 | .mk _ _ _ :: r=>accG G η r
 | .st _ _ :: r=>accG G η r
 | .same :: r=>accG G η r
 | .sto _ _ _ _ :: r=>accG G η r
def stoIdx : List HRec → List Nat
 | []=>[]
 | .sto b _ _ _ :: r=>b :: stoIdx r
 | .val _ _ :: r=>stoIdx r
 | .mk _ _ _ :: r=>stoIdx r
 | .spec _ _ _ :: r=>stoIdx r
 | .st _ _ :: r=>stoIdx r
 | .same :: r=>stoIdx r
def stoHp (η : Nat → Value) : List HRec → List HE → List HE
 | [],hp=>hp
 | .sto b T _ l :: r,hp=>setN (stoHp η r hp) b (.blk T (l η))
 | .val _ _ :: r,hp=>stoHp η r hp
 | .mk _ _ _ :: r,hp=>stoHp η r hp
 | .spec _ _ _ :: r,hp=>stoHp η r hp
 | .st _ _ :: r,hp=>stoHp η r hp
 | .same :: r,hp=>stoHp η r hp
def HE.hide : HE → HE
 | .blk T l=>.hid T l
 | e=>e
def hide1 : List HE → Nat → List HE
 | [],_=>[]
 | h :: r,0=>h.hide :: r
 | h :: r,i + 1=>h :: hide1 r i
def hideN : List Nat → List HE → List HE
 | [],hp=>hp
 | b :: r,hp=>hide1 (hideN r hp) b
def noHid : List HE → Bool
 | []=>true
 | .hid _ _ :: _=>false
 | .blk _ _ :: r=>noHid r
 | .row _ _ _ _ _ :: r=>noHid r
 | .gone :: r=>noHid r
 | .abs _ :: r=>noHid r
def memN : List Nat → Nat → Bool
 | [],_=>false
 | b :: r,i=>bif Nat.beq b i then true else memN r i
def accD (η : Nat → Value) : List HRec → Nat → Gh
 | [],_=>.nil
 | h :: r,j=>bif Nat.beq r.length j then (match h with | .spec _ _ Δ=>Δ (η j) | _=>.nil) else accD η r j
structure depsH (acc : List HRec) (es : List Edge) (η : Nat → Value) (S : Nat → Prop) (w : World) : Prop where
 all : ∀ j,hasEdge es j = true → (accD η acc j).p S w
noncomputable def hput (E : Env) (hp : List HE) (fr : List (Nat × SV)) (o : Oper) : Option (SV × List Prop):=match putOnly (effV E fr hp o.op) with | some (.put s vc)=>some (s,vc) | _=>none
noncomputable def hval (E : Env) (hp : List HE) (all : List Oper) (fr : List (Nat × SV)) (o : Oper) : Option (SV × List Prop):=
 match o.guard with
 | none=>hput E hp fr o
 | some (j,want)=>match dstAt all j with
  | none=>none
  | some g=>match look fr g with
   | some (.one (.bb x))=>bif x == want then hput E hp fr o else some (.und,[])
   | some .und=>some (.und,[])
   | _=>none
def guardRun (all : List Oper) (fr : List (Nat × SV)) (o : Oper) : Bool:=
 match o.guard with
 | none=>true
 | some (j,want)=>match dstAt all j with
  | none=>false
  | some g=>match look fr g with | some (.one (.bb x))=>x == want | _=>false
def effM (E : Env) (fr : List (Nat × SV)) (k : Nat) : Op → Option Eff
 | .alloc T=>mkOnly (effAlloc E T k)
 | .box T x=>mkOnly (effBox T k (opd fr x))
 | _=>none
def effSt (E : Env) (fr : List (Nat × SV)) (b : Nat) (lc : List Ch) : Op → Option (List Ch)
 | .store T' x y=>match opd fr x,opd fr y,E.get T' with
  | some (.one (.ptr b' o)),some yv,some ti=>match yv.chunks with
   | some new=>bif Nat.beq b b' && Nat.beq (sizeL new) ti.size then stL lc o ti.size new else none
   | none=>none
  | _,_,_=>none
 | _=>none
theorem a71 {P : Program} {E : Env} {β : Nat → Nat} {m b : Nat} {T : TypeId} {fr : List (Nat × SV)} {w : World} {ty : TypeId} {ρ : Operand → Value} {o : Op} {lc l' : List Ch} (hE : EnvOk P E) (hk : OpsKn β m fr ρ o) (hok : ∀ c ∈ lc,c.Ok m) (hb : Blk w (β b) T (cellsL β lc)) (h : effSt E fr b lc o = some l') :
  (∀ c ∈ l',c.Ok m) ∧ ∃ w',Wrt (β b) w w' ∧ Blk w' (β b) T (cellsL β l') ∧ ∀ d pos aft g,(execOp ρ ⟨d,o,ty,pos,aft,g⟩).run P w = .ok .skip w':=by
 unfold effSt at h
 split at h <;> first | (cases h; done) | skip
 rename_i T' x y
 have hx:=hk x (by simp [Op.operands])
 have hy:=hk y (by simp [Op.operands])
 split at h <;> first | (cases h; done) | skip
 rename_i b' o yv ti e1 e2 e3
 have h1:=(hx _ e1).1
 have h2:=hy _ e2
 split at h <;> first | (cases h; done) | skip
 rename_i new e4
 cases hs : (Nat.beq b b' && Nat.beq (sizeL new) ti.size) with
 | false=>rw [hs] at h; cases h
 | true=>
  rw [hs] at h
  simp only [cond_true] at h
  simp only [Bool.and_eq_true] at hs
  obtain rfl:=Nat.eq_of_beq_eq_true hs.1
  have hsz:=Nat.eq_of_beq_eq_true hs.2
  obtain ⟨h3,h4⟩:=SV.chunks_ok (β:=β) e4 h2.2
  obtain ⟨h5,h6,h7⟩:=ax7 (β:=β) h hok h4
  obtain ⟨z,hty,_⟩:=(hE.get e3).ty
  have hlen:=G9 (β:=β) h4
  have h8:=run_storeCells_at P (β b) o T (cellsL β new) 0 (cellsL β lc).toArray w hb (by simp; omega) (N5 h4)
  have e9 : ((cellsL β lc).toArray.toList.take (o + 0) ++ cellsL β new ++ (cellsL β lc).toArray.toList.drop (o + 0 + (cellsL β new).length)).toArray = (cellsL β l').toArray:=by
   rw [← h5]
   simp [hlen,hsz]
  rw [e9] at h8
  refine ⟨h7,w.setRow (β b) (cellsL β l').toArray,⟨rfl,rfl,rfl,by simp [World.setRow],fun k _ hk=>setRow_other w _ k _ hk⟩,setRow_heap w _ _ _ T (0,0) hb,fun d pos aft g=>?_⟩
  have e10 : (cellsL β new).length = ti.size:=by omega
  have h11 : ρ x = .pointer (some ⟨β b,o,none⟩):=h1
  simp [execOp,h11,h2.1,Instr.storeAt,Instr.sureAddr,storeVar,hty.runSize w,h3,e10,h8]
def OpRun (P : Program) (σ : Operand → Value) (o : Oper) (w : World) (Ψ : Value → World → Prop) (Φ : List PanicEntry → World → Prop) : Prop:=
 match (execOp σ o).run P w with
 | .ok (.value v) w'=>Ψ v w'
 | .ok (.enter f args) w'=>GivesE P f args.toList w' Ψ Φ
 | _=>False
def Loc (c : Cx) (st : St) (G : Gh) (all : List Oper) (acc : List HRec) (o : Oper) : HRec → Prop
 | .val d sv=>o.dst = some d ∧ ∀ η,∃ s vc,hval c.E st.hp all (frH st acc η) o = some (s,vc) ∧
   ∀ S w,Keeps c.K c.w0 w → (∀ k,S k → c.S0 k) → G.p S w → depsH acc o.after.toList η S w → AllT vc ∧ ∀ β,s.den β = (sv η).den β ∧ ∀ m,s.Ok m → (sv η).Ok m
 | .mk d T l=>o.dst = some d ∧ ∀ η,guardRun all (frH st acc η) o = true ∧ effM c.E (frH st acc η) (st.hp.length + cnt acc) o.op = some (.mk T (l η) (.one (.ptr (st.hp.length + cnt acc) 0)))
 | .st k l=>o.dst = none ∧ hasEdge o.after.toList k = true ∧ (∀ j l',acc.reverse[j]? = some (.st k l') → hasEdge o.after.toList j = true) ∧ ∃ d T lc,acc.reverse[k]? = some (.mk d T lc) ∧
   ∀ η,guardRun all (frH st acc η) o = true ∧ effSt c.E (frH st acc η) (st.hp.length + cnt (acc.drop (acc.length - k))) (((stOf acc k).getD lc) η) o.op = some (l η)
 | .same=>o.dst = none ∧ ∀ η,guardRun all (frH st acc η) o = true ∧ ∀ β F w m,OpsKn β m (frH st acc η) (ev F) o.op → Mem c.bs st.hp β w → (execOp (ev F) o).run c.P w = .ok .skip w
 | .sto b T l0 l=>o.dst = none ∧ memN (stoIdx acc) b = false ∧ nth st.hp b = some (.hid T l0) ∧ ∀ η,guardRun all (frH st acc η) o = true ∧ effSt c.E (frH st acc η) b l0 o.op = some (l η)
 | .spec d p Δ=>o.dst = some d ∧ ∀ η,guardRun all (frH st acc η) o = true ∧ ∀ β S w F m,OpsKn β m (frH st acc η) (ev F) o.op → Up S w → Mem c.bs st.hp β w → (∀ k,S k → c.S0 k) → Keeps c.K c.w0 w → G.p S w → depsH acc o.after.toList η S w →
   OpRun c.P (ev F) o w (fun v w'=>Ext w w' ∧ v = (p v).den (fun _=>0) ∧ (p v).Ok 0 ∧ (Δ v).p S w') fun ch w'=>∀ ρ,c.Q (.panic ch) ρ w'
def HdI (c : Cx) (st : St) (G : Gh) (all : List Oper) (K : List HRec → Prop) : List HRec → List Oper → Prop
 | acc,[]=>K acc
 | acc,o :: r=>∃ h,Loc c st G all acc o h ∧ HdI c st G all K (h :: acc) r
structure Hd (c : Cx) (st : St) (G : Gh) (all : List Oper) (K : List HRec → Prop) (acc : List HRec) (ops : List Oper) : Prop where
 run : HdI c st G all K acc ops
theorem ce3 {c : Cx} {st : St} {G : Gh} {all : List Oper} {K : List HRec → Prop} : ∀ (r : List Oper) (acc : List HRec),HdI c st G all K acc r →
  ∃ L : List HRec,L.length = r.length ∧ K (L.reverse ++ acc) ∧ ∀ k (hk : k < r.length),∃ h,L[k]? = some h ∧ Loc c st G all ((L.take k).reverse ++ acc) r[k] h:=by
 intro r
 induction r with
 | nil=>intro acc h; exact ⟨[],rfl,h,fun k hk=>absurd hk (by simp)⟩
 | cons o r ih=>
  rintro acc ⟨h0,hl,hr⟩
  obtain ⟨L,h1,h2,h3⟩:=ih _ hr
  refine ⟨h0 :: L,by simp [h1],by simpa using h2,fun k hk=>?_⟩
  cases k with
  | zero=>exact ⟨h0,rfl,by simpa using hl⟩
  | succ k=>
   obtain ⟨h,h4,h5⟩:=h3 k (by simpa using hk)
   exact ⟨h,by simpa using h4,by simpa using h5⟩
section
variable {m0 : Nat} {η : Nat → Value}
theorem am7 {a b : List (Nat × SV)} {d : Nat} : look (a ++ b) d = match look a d with | some s=>some s | none=>look b d:=by
 induction a with
 | nil=>rfl
 | cons p r ih=>
  obtain ⟨i,x⟩:=p
  rw [List.cons_append,F2,F2]
  split
  ·rfl
  ·exact ih
theorem bc1 : ∀ {acc : List HRec} {d : Nat} {s : SV},look (accFr m0 η acc) d = some s → ∃ n h r,acc.drop n = h :: r ∧ h.d = some d ∧ s = h.sv m0 (cnt r) r.length η:=by
 intro acc
 induction acc with
 | nil=>intro d s h; cases h
 | cons x r ih=>
  intro d s h
  have next : look (accFr m0 η r) d = some s → ∃ n h r',(x :: r).drop n = h :: r' ∧ h.d = some d ∧ s = h.sv m0 (cnt r') r'.length η:=fun h=>by
   obtain ⟨n,y,q,h1,h2,h3⟩:=ih h
   exact ⟨n + 1,y,q,by simpa using h1,h2,h3⟩
  simp only [accFr] at h
  cases hx : x.d with
  | none=>rw [hx] at h; exact next h
  | some d'=>
   rw [hx] at h
   simp only at h
   rw [F2] at h
   split at h
   ·rename_i e
    simp only [Option.some.injEq] at h
    exact ⟨0,x,r,rfl,by rw [hx,e],h.symm⟩
   ·exact next h
theorem am9 : ∀ {acc : List HRec} {d : Nat},look (accFr m0 η acc) d = none → ∀ h ∈ acc,h.d ≠ some d:=by
 intro acc
 induction acc with
 | nil=>intro d h x hx; cases hx
 | cons x r ih=>
  intro d h y hy
  simp only [accFr] at h
  cases hx : x.d with
  | none=>
   rw [hx] at h
   rcases List.mem_cons.1 hy with rfl | hy
   ·rw [hx]; simp
   ·exact ih h y hy
  | some d'=>
   rw [hx] at h
   simp only at h
   rw [F2] at h
   split at h
   ·cases h
   ·rename_i e
    rcases List.mem_cons.1 hy with rfl | hy
    ·rw [hx]; simpa using e
    ·exact ih h y hy
theorem bi3 {F : Nat → Option ((Nat → Value) → List Ch)} : ∀ {acc : List HRec},(accNwF F η acc).length = cnt acc:=by
 intro acc
 induction acc with
 | nil=>rfl
 | cons h r ih=>cases h <;> simp [accNwF,cnt,ih]
theorem bs9 {acc : List HRec} : (accNw η acc).length = cnt acc:=bi3
theorem b62 : ∀ {acc : List HRec} {n : Nat},cnt (acc.drop n) ≤ cnt acc:=by
 intro acc
 induction acc with
 | nil=>intro n; simp
 | cons h r ih=>
  intro n
  cases n with
  | zero=>exact Nat.le_refl _
  | succ n=>have:=@ih n; cases h <;> simp only [List.drop_succ_cons,cnt] <;> omega
theorem be9 {F : Nat → Option ((Nat → Value) → List Ch)} : ∀ {acc : List HRec} {j : Nat} {x : HE},(accNwF F η acc)[j]? = some x → ∃ n d T l r,acc.drop n = .mk d T l :: r ∧ cnt r = j ∧ x = .blk T (((F r.length).getD l) η):=by
 intro acc
 induction acc with
 | nil=>intro j x h; simp [accNwF] at h
 | cons y r ih=>
  intro j x h
  have next : (accNwF F η r)[j]? = some x → ∃ n d T l q,(y :: r).drop n = .mk d T l :: q ∧ cnt q = j ∧ x = .blk T (((F q.length).getD l) η):=fun h=>by
   obtain ⟨n,d',T,l,q,h1,h2,h3⟩:=ih h
   exact ⟨n + 1,d',T,l,q,by simpa using h1,h2,h3⟩
  cases y with
  | val d sv=>exact next h
  | spec d p Δ=>exact next h
  | st k l=>exact next h
  | same=>exact next h
  | sto b T l0 l=>exact next h
  | mk d T l=>
   simp only [accNwF] at h
   by_cases hj : j < (accNwF F η r).length
   ·rw [List.getElem?_append_left hj] at h
    exact next h
   ·have hl:=(List.getElem?_eq_some_iff.1 h).1
    simp at hl
    have e : j = (accNwF F η r).length:=by omega
    subst e
    simp at h
    exact ⟨0,d,T,l,r,rfl,bi3.symm,h.symm⟩
theorem bn2 {acc : List HRec} {j : Nat} {x : HE} (h : (accNw η acc)[j]? = some x) : ∃ n d T l r,acc.drop n = .mk d T l :: r ∧ cnt r = j ∧ x = .blk T (((stOf acc r.length).getD l) η):=be9 h
theorem ci8 {G : Gh} {S : Nat → Prop} {w : World} : ∀ {acc : List HRec},G.p S w → (∀ n d p Δ r,acc.drop n = .spec d p Δ :: r → (Δ (η r.length)).p S w) → (accG G η acc).p S w:=by
 intro acc
 induction acc with
 | nil=>intro h _; exact h
 | cons y r ih=>
  intro h k
  have h2:=ih h fun n d p Δ q hq=>k (n + 1) d p Δ q (by simpa using hq)
  cases y with
  | val d sv=>exact h2
  | mk d T l=>exact h2
  | st k l=>exact h2
  | same=>exact h2
  | sto b T l0 l=>exact h2
  | spec d p Δ=>exact ⟨k 0 d p Δ r rfl,h2⟩
theorem cm8 {S : Nat → Prop} {w : World} {j : Nat} : ∀ {acc : List HRec},(∀ n d p Δ r,acc.drop n = .spec d p Δ :: r → r.length = j → (Δ (η j)).p S w) → (accD η acc j).p S w:=by
 intro acc
 induction acc with
 | nil=>intro _; trivial
 | cons y r ih=>
  intro k
  simp only [accD]
  cases hb : Nat.beq r.length j with
  | true=>
   have e:=Nat.eq_of_beq_eq_true hb
   cases y with
   | val d sv=>trivial
   | mk d T l=>trivial
   | st k l=>trivial
   | same=>trivial
   | sto b T l0 l=>trivial
   | spec d p Δ=>exact k 0 d p Δ r rfl e
  | false=>exact ih fun n d p Δ q hq=>k (n + 1) d p Δ q (by simpa using hq)
end
theorem bp3 {k : Nat} {l : (Nat → Value) → List Ch} : ∀ {acc : List HRec},stOf acc k = some l → ∃ n : Nat,acc[n]? = some (HRec.st k l) ∧ ∀ (m : Nat) l',m < n → acc[m]? ≠ some (HRec.st k l'):=by
 intro acc
 induction acc with
 | nil=>intro h; cases h
 | cons x r ih=>
  intro h
  have next : stOf r k = some l → (∀ l',x ≠ .st k l') → ∃ n : Nat,(x :: r)[n]? = some (HRec.st k l) ∧ ∀ (m : Nat) l',m < n → (x :: r)[m]? ≠ some (HRec.st k l'):=fun h hx=>by
   obtain ⟨n,h1,h2⟩:=ih h
   refine ⟨n + 1,by simpa using h1,fun m l' hm=>?_⟩
   cases m with
   | zero=>simpa using hx l'
   | succ m=>simpa using h2 m l' (by omega)
  cases x with
  | val d sv=>exact next h fun l' e=>by cases e
  | mk d T lc=>exact next h fun l' e=>by cases e
  | spec d p Δ=>exact next h fun l' e=>by cases e
  | same=>exact next h fun l' e=>by cases e
  | sto b T l0 lq=>exact next h fun l' e=>by cases e
  | st k' l2=>
   simp only [stOf] at h
   cases hb : Nat.beq k' k with
   | true=>
    rw [hb] at h
    simp only [cond_true,Option.some.injEq] at h
    obtain rfl:=Nat.eq_of_beq_eq_true hb
    subst h
    exact ⟨0,rfl,fun m l' hm=>absurd hm (Nat.not_lt_zero m)⟩
   | false=>
    rw [hb] at h
    refine next h fun l' e=>?_
    cases e
    simp at hb
theorem bn8 {k : Nat} : ∀ {acc : List HRec},stOf acc k = none → ∀ (m : Nat) l',acc[m]? ≠ some (HRec.st k l'):=by
 intro acc
 induction acc with
 | nil=>intro h m l'; simp
 | cons x r ih=>
  intro h m l'
  have next : stOf r k = none → (∀ l',x ≠ .st k l') → (x :: r)[m]? ≠ some (HRec.st k l'):=fun h hx=>by
   cases m with
   | zero=>simpa using hx l'
   | succ m=>simpa using ih h m l'
  cases x with
  | val d sv=>exact next h fun l' e=>by cases e
  | mk d T lc=>exact next h fun l' e=>by cases e
  | spec d p Δ=>exact next h fun l' e=>by cases e
  | same=>exact next h fun l' e=>by cases e
  | sto b T l0 lq=>exact next h fun l' e=>by cases e
  | st k' l2=>
   simp only [stOf] at h
   cases hb : Nat.beq k' k with
   | true=>rw [hb] at h; cases h
   | false=>
    rw [hb] at h
    refine next h fun l' e=>?_
    cases e
    simp at hb
theorem ca1 {c : Cx} {base : Bs} {hp : List HE} {all : List Oper} {fr : List (Nat × SV)} {o : Oper} {s : SV} {vc : List Prop} {β : Nat → Nat} {m n : Nat} {D : List Deferred} {a : Act} {ρ : Fr} {w : World} (hE : EnvOk c.P c.E) (hle : hp.length ≤ m) (hm : Mt n D a ρ) (hM : Mem base hp β w)
  (hk : OpsKn β m fr (ev ρ) o.op) (hg : ∀ j b,o.guard = some (j,b) → ∀ g,dstAt all j = some g → Kn β m (look fr g) (ρ g)) (h : hval c.E hp all fr o = some (s,vc)) (hv : AllT vc) :
  s.Ok m ∧ ((Region.wanted o (yielded all.toArray a.tmps) = true ∧ (execOp (ev ρ) o).run c.P w = .ok (.value (s.den β)) w) ∨ (Region.wanted o (yielded all.toArray a.tmps) = false ∧ s.den β = undef)):=by
 obtain ⟨dst,op,ty,pos,aft,g⟩:=o
 have hput' : hput c.E hp fr ⟨dst,op,ty,pos,aft,g⟩ = some (s,vc) → s.Ok m ∧ (execOp (ev ρ) ⟨dst,op,ty,pos,aft,g⟩).run c.P w = .ok (.value (s.den β)) w:=by
  intro h
  unfold hput at h
  simp only at h
  split at h <;> first | (cases h; done) | skip
  rename_i s' vc' he
  simp only [Option.some.injEq,Prod.mk.injEq] at h
  obtain ⟨rfl,rfl⟩:=h
  obtain ⟨h1,h2⟩:=a01 (P:=c.P) (ty:=ty) hle hE hM hk (S6 he).1 hv
  exact ⟨h2,h1 _ _ _ _⟩
 unfold hval at h
 simp only at h
 split at h
 ·obtain ⟨h1,h2⟩:=hput' h
  exact ⟨h1,.inl ⟨rfl,h2⟩⟩
 ·rename_i j want
  split at h <;> first | (cases h; done) | skip
  rename_i gs hd
  have hkg:=hg j want rfl gs hd
  split at h <;> first | (cases h; done) | skip
  ·rename_i x hx
   have hv1 : ρ gs = .bool x:=(hkg _ hx).1
   have hy:=W0 hm hd hv1
   cases hb : (x == want) with
   | true=>
    rw [hb] at h
    obtain ⟨h1,h2⟩:=hput' h
    refine ⟨h1,.inl ⟨?_,h2⟩⟩
    unfold Region.wanted
    simp only [hy]
    have:=eq_of_beq hb
    subst this
    simp
   | false=>
    rw [hb] at h
    simp only [cond_false,Option.some.injEq,Prod.mk.injEq] at h
    obtain ⟨rfl,rfl⟩:=h
    refine ⟨trivial,.inr ⟨?_,rfl⟩⟩
    unfold Region.wanted
    simp only [hy]
    simpa using hb
  ·rename_i hx
   have hv1 : ρ gs = undef:=(hkg _ hx).1
   have hy:=ac4 hm hd hv1
   simp only [Option.some.injEq,Prod.mk.injEq] at h
   obtain ⟨rfl,rfl⟩:=h
   refine ⟨trivial,.inr ⟨?_,rfl⟩⟩
   unfold Region.wanted
   simp only [hy]
   rfl
theorem O9 {all : List Oper} {fr : List (Nat × SV)} {o : Oper} {β : Nat → Nat} {m n : Nat} {D : List Deferred} {a : Act} {ρ : Fr} (hm : Mt n D a ρ)
  (hg : ∀ j b,o.guard = some (j,b) → ∀ g,dstAt all j = some g → Kn β m (look fr g) (ρ g)) (h : guardRun all fr o = true) : Region.wanted o (yielded all.toArray a.tmps) = true:=by
 obtain ⟨dst,op,ty,pos,aft,g⟩:=o
 unfold guardRun at h
 unfold Region.wanted
 simp only at h hg ⊢
 split at h
 ·rfl
 ·rename_i j want
  split at h <;> first | (cases h; done) | skip
  rename_i gs hd
  split at h <;> first | (cases h; done) | skip
  rename_i x hx
  have hv1 : ρ gs = .bool x:=((hg j want rfl gs hd) _ hx).1
  simp only [W0 hm hd hv1]
  have:=eq_of_beq h
  subst this
  simp
end Go.Proofs.YtpheooheinfbgaaGreatDoor
end
section
set_option linter.unusedVariables false
set_option linter.unusedSimpArgs false
namespace Go.Proofs.YtpheooheinfbgaaGreatDoor
open Go Go.RowKit
section
variable {L : List HRec}
abbrev accAt (L : List HRec) (k : Nat) : List HRec:=(L.take k).reverse
theorem N7 {k : Nat} (h : k ≤ L.length) : (accAt L k).length = k:=by simp; omega
theorem ad3 {i k : Nat} {h : HRec} (hi : i ≤ L.length) (hk : k < i) (hh : L[k]? = some h) : (accAt L i).drop (i - 1 - k) = h :: accAt L k:=by
 have hkl : k < L.length:=by omega
 have e : L.take i = L.take k ++ h :: (L.take i).drop (k + 1):=by
  have h1 : L[k] = h:=by rw [List.getElem?_eq_getElem hkl] at hh; exact Option.some.inj hh
  have h2 : (L.take i).drop k = h :: (L.take i).drop (k + 1):=by
   rw [List.drop_eq_getElem_cons (by simp; omega)]
   congr 1
   rw [List.getElem_take]
   exact h1
  rw [← h2]
  have h3 : L.take k = (L.take i).take k:=by rw [List.take_take]; congr 1; omega
  rw [h3,List.take_append_drop]
 unfold accAt
 rw [e,List.reverse_append,List.reverse_cons,List.append_assoc]
 rw [List.drop_append]
 have hl : ((L.take i).drop (k + 1)).reverse.length = i - 1 - k:=by simp; omega
 rw [hl,List.drop_eq_nil_of_le (by omega),Nat.sub_self]
 rfl
theorem ae5 {i n : Nat} {h : HRec} {r : List HRec} (hi : i ≤ L.length) (hd : (accAt L i).drop n = h :: r) : ∃ k,k < i ∧ L[k]? = some h ∧ r = accAt L k:=by
 have hn : n < i:=by
  have:=congrArg List.length hd
  simp only [List.length_drop,N7 hi,List.length_cons] at this
  omega
 have hkl : i - 1 - n < L.length:=by omega
 have h1:=ad3 (k:=i - 1 - n) hi (by omega) (List.getElem?_eq_getElem hkl)
 rw [show i - 1 - (i - 1 - n) = n by omega,hd] at h1
 simp only [List.cons.injEq] at h1
 exact ⟨i - 1 - n,by omega,by rw [List.getElem?_eq_getElem hkl,h1.1],h1.2⟩
theorem bh5 {i k d : Nat} {T : TypeId} {l : (Nat → Value) → List Ch} (hi : i ≤ L.length) (hk : k < i) (hh : L[k]? = some (.mk d T l)) : cnt (accAt L k) < cnt (accAt L i):=by
 have h1:=ad3 hi hk hh
 have h2:=@b62 (accAt L i) (i - 1 - k)
 rw [h1] at h2
 simp only [cnt] at h2
 omega
end
theorem ak6 {L : List HRec} {i m : Nat} (hi : i ≤ L.length) (hm : m < i) : (accAt L i)[m]? = L[i - 1 - m]?:=by
 unfold accAt
 rw [List.getElem?_reverse (by rw [List.length_take]; omega),List.length_take,Nat.min_eq_left hi,List.getElem?_take,if_pos (by omega)]
def Cont (t : Nat) (L : List HRec) (lst : Nat → Prop) (k : Nat) (lc lf : (Nat → Value) → List Ch) : Prop:=
 (lf = lc ∧ ∀ j l',j < t → lst j → L[j]? ≠ some (HRec.st k l')) ∨ ∃ j,j < t ∧ lst j ∧ L[j]? = some (HRec.st k lf) ∧ ∀ j' l',j' < t → lst j' → L[j']? = some (HRec.st k l') → j' ≤ j
theorem Cont.add {t : Nat} {L : List HRec} {lst : Nat → Prop} {k i : Nat} {lc lf : (Nat → Value) → List Ch} (h : Cont t L lst k lc lf) (hn : ∀ l',L[i]? ≠ some (HRec.st k l')) : Cont t L (fun j=>j = i ∨ lst j) k lc lf:=by
 rcases h with ⟨h1,h2⟩ | ⟨j,h1,h2,h3,h4⟩
 ·refine .inl ⟨h1,fun j l' hj hl=>?_⟩
  rcases hl with rfl | hl
  ·exact hn l'
  ·exact h2 j l' hj hl
 ·refine .inr ⟨j,h1,.inr h2,h3,fun j' l' hj' hl hg=>?_⟩
  rcases hl with rfl | hl
  ·exact absurd hg (hn l')
  ·exact h4 j' l' hj' hl hg
theorem Cont.eq {t : Nat} {L : List HRec} {lst : Nat → Prop} {k i : Nat} {lc lf : (Nat → Value) → List Ch} (h : Cont t L lst k lc lf) (hi : i ≤ L.length) (hit : i ≤ t) (hl : ∀ j l',j < t → L[j]? = some (HRec.st k l') → (lst j ↔ j < i)) : (stOf (accAt L i) k).getD lc = lf:=by
 cases hs : stOf (accAt L i) k with
 | none=>
  have hn:=bn8 hs
  have hn' : ∀ j l',j < i → L[j]? ≠ some (HRec.st k l'):=fun j l' hj=>by
   have:=hn (i - 1 - j) l'
   rwa [ak6 hi (by omega),show i - 1 - (i - 1 - j) = j by omega] at this
  rcases h with ⟨h1,h2⟩ | ⟨j,h1,h2,h3,h4⟩
  ·exact h1.symm
  ·exact absurd h3 (hn' j lf ((hl j lf h1 h3).1 h2))
 | some l=>
  obtain ⟨n,h5,h6⟩:=bp3 hs
  have hni : n < i:=by
   have:=(List.getElem?_eq_some_iff.1 h5).1
   rwa [N7 hi] at this
  rw [ak6 hi hni] at h5
  have h7:=(hl _ l (by omega) h5).2 (by omega)
  rcases h with ⟨h1,h2⟩ | ⟨j,h1,h2,h3,h4⟩
  ·exact absurd h5 (h2 _ l (by omega) h7)
  ·have h8:=h4 _ l (by omega) h7 h5
   have h9:=(hl j lf h1 h3).1 h2
   rcases Nat.lt_or_ge (i - 1 - n) j with h10 | h10
   ·have:=h6 (i - 1 - j) lf (by omega)
    rw [ak6 hi (by omega),show i - 1 - (i - 1 - j) = j by omega] at this
    exact absurd h3 this
   ·have e : j = i - 1 - n:=by omega
    rw [e,h5] at h3
    simpa using h3
section
variable {c : Cx} {st : St} {G : Gh} {l : List Oper} {t M : Nat} {L : List HRec} {β0 : Nat → Nat} {ρ0 : Fr} {w00 : World}
def idxOf (st : St) (L : List HRec) (k : Nat) : Nat:=st.hp.length + cnt (accAt L k)
structure Comp (st : St) (t : Nat) (L : List HRec) (β0 : Nat → Nat) (lst : Nat → Prop) (v : Nat → Value) (β : Nat → Nat) (η' : Nat → Value) (β' : Nat → Nat) : Prop where
 res : ∀ k,k < t → lst k → ∀ d p Δ,L[k]? = some (.spec d p Δ) → η' k = v k
 old : ∀ i,i < st.hp.length → β' i = β0 i
 blk : ∀ k,k < t → lst k → ∀ d T lc,L[k]? = some (.mk d T lc) → β' (idxOf st L k) = β (idxOf st L k)
def SL (c : Cx) (st : St) (t : Nat) (L : List HRec) (β0 : Nat → Nat) (lst : Nat → Prop) (β : Nat → Nat) : Nat → Prop:=
 fun b=>Sof c.S0 β0 st.hp b ∧ ∀ k,k < t → lst k → ∀ d T lc,L[k]? = some (.mk d T lc) → β (idxOf st L k) ≠ b
def NTg (t : Nat) (L : List HRec) (β0 : Nat → Nat) (g : Nat) : Prop:=∀ k b T l0 l,k < t → L[k]? = some (HRec.sto b T l0 l) → g ≠ β0 b
def TgOk (st : St) (t : Nat) (L : List HRec) : Prop:=∀ k b T l0 l,k < t → L[k]? = some (HRec.sto b T l0 l) → st.hp[b]? = some (.hid T l0) ∧ ∀ k' T' l0' l',k' < t → L[k']? = some (HRec.sto b T' l0' l') → k' = k
theorem Mem.keeps {base : Bs} {hp : List HE} {β : Nat → Nat} {S : Nat → Prop} {w w' : World} (h : Mem base hp β w) (k : Keeps S w w') (hs : ∀ i g,mineAt β hp i g → (∀ T l,hp[i]? ≠ some (.hid T l)) → S g) : Mem base hp β w':=by
 refine ⟨fun i T l hi=>⟨?_,(h.blk i T l hi).2⟩,fun i T s v n cs hi=>?_,fun i A hi=>?_,fun i g hg=>⟨(h.low i g hg).1,Nat.lt_of_lt_of_le (h.low i g hg).2 k.size⟩,h.apart⟩
 ·have h1:=(h.blk i T l hi).1
  have hm : mineAt β hp i (β i):=⟨_,hi,rfl⟩
  exact (k.block _ (h.low i _ hm).2 (hs i _ hm fun T l e=>by rw [hi] at e; cases e)).trans h1
 ·exact aa3 (h.row i T s v n cs hi) k fun g hg=>hs i g ⟨_,hi,hg⟩ fun T l e=>by rw [hi] at e; cases e
 ·exact A.keep (h.abs i A hi) (fun k' hk=>(h.low i k' ⟨_,hi,hk⟩).2) k fun g hg=>hs i g ⟨_,hi,hg⟩ fun T l e=>by rw [hi] at e; cases e
theorem TgOk.mine {β0 : Nat → Nat} (hT : TgOk st t L) {k b : Nat} {T : TypeId} {l0 : List Ch} {lf : (Nat → Value) → List Ch} (hk : k < t) (h : L[k]? = some (HRec.sto b T l0 lf)) : mineAt β0 st.hp b (β0 b):=⟨_,(hT k b T l0 lf hk h).1,rfl⟩
theorem TgOk.mem {base : Bs} {β0 : Nat → Nat} {w w' : World} (hT : TgOk st t L) (h : Mem base st.hp β0 w) (k : Keeps (NTg t L β0) w w') : Mem base st.hp β0 w':=by
 refine h.keeps k fun i g hg hn k b T l0 lf hk hs e=>?_
 subst e
 have:=h.apart i b _ hg (hT.mine hk hs)
 subst this
 exact hn _ _ (hT k _ T l0 lf hk hs).1
structure HInv (c : Cx) (st : St) (G : Gh) (t M : Nat) (L : List HRec) (β0 : Nat → Nat) (ρ0 : Fr) (w00 : World) (lst : Nat → Prop) (ρ' : Fr) (v : Nat → Value) (β : Nat → Nat) (w' : World) : Prop where
 ext : Keeps (NTg t L β0) w00 w'
 old : ∀ i,i < st.hp.length → β i = β0 i
 out : ∀ s,(∀ k,k < t → ∀ h,L[k]? = some h → h.d ≠ some s) → ρ' s = ρ0 s
 val : ∀ k,k < t → lst k → ∀ h,L[k]? = some h → ∀ d,h.d = some d → ∀ η' β',Comp st t L β0 lst v β η' β' → ρ' d = (h.sv st.hp.length (cnt (accAt L k)) k η').den β' ∧ (h.sv st.hp.length (cnt (accAt L k)) k η').Ok M
 made : ∀ k,k < t → lst k → ∀ d T lc,L[k]? = some (.mk d T lc) → w00.heap.size ≤ β (idxOf st L k) ∧ β (idxOf st L k) < w'.heap.size ∧ ∃ lf,Cont t L lst k lc lf ∧ ∀ η' β',Comp st t L β0 lst v β η' β' → Blk w' (β (idxOf st L k)) T (cellsL β' (lf η')) ∧ ∀ ch ∈ lf η',ch.Ok M
 stl : ∀ j,j < t → lst j → ∀ k l,L[j]? = some (.st k l) → lst k ∧ ∀ j' l',j' < j → L[j']? = some (HRec.st k l') → lst j'
 apart : ∀ k k',k < t → k' < t → lst k → lst k' → ∀ d T lc d' T' lc',L[k]? = some (.mk d T lc) → L[k']? = some (.mk d' T' lc') → β (idxOf st L k) = β (idxOf st L k') → k = k'
 gh : G.p (SL c st t L β0 lst β) w'
 spec : ∀ k,k < t → lst k → ∀ d p Δ,L[k]? = some (.spec d p Δ) → (Δ (v k)).p (SL c st t L β0 lst β) w'
 sto : ∀ k,k < t → ∀ b T l0 l,L[k]? = some (.sto b T l0 l) → (¬ lst k → Blk w' (β0 b) T (cellsL β0 l0)) ∧ (lst k → ∀ η' β',Comp st t L β0 lst v β η' β' → Blk w' (β0 b) T (cellsL β' (l η')) ∧ ∀ ch ∈ l η',ch.Ok M)
theorem ah6 {lst : Nat → Prop} {v v2 : Nat → Value} {β β2 : Nat → Nat} {w' w2 : World} {i : Nat} (h : ∀ k,k < t → ∀ b T l0 l,L[k]? = some (.sto b T l0 l) → (¬ lst k → Blk w' (β0 b) T (cellsL β0 l0)) ∧ (lst k → ∀ η' β',Comp st t L β0 lst v β η' β' → Blk w' (β0 b) T (cellsL β' (l η')) ∧ ∀ ch ∈ l η',ch.Ok M))
  (hn : ∀ b T l0 l,L[i]? ≠ some (.sto b T l0 l)) (hc : ∀ {η' β'},Comp st t L β0 (fun k=>k = i ∨ lst k) v2 β2 η' β' → Comp st t L β0 lst v β η' β') (hk : ∀ k b T l0 l cs,k < t → L[k]? = some (.sto b T l0 l) → Blk w' (β0 b) T cs → Blk w2 (β0 b) T cs) :
  ∀ k,k < t → ∀ b T l0 l,L[k]? = some (.sto b T l0 l) → (¬ (k = i ∨ lst k) → Blk w2 (β0 b) T (cellsL β0 l0)) ∧ ((k = i ∨ lst k) → ∀ η' β',Comp st t L β0 (fun k=>k = i ∨ lst k) v2 β2 η' β' → Blk w2 (β0 b) T (cellsL β' (l η')) ∧ ∀ ch ∈ l η',ch.Ok M):=by
 intro k hk' b T l0 l hg
 obtain ⟨h1,h2⟩:=h k hk' b T l0 l hg
 refine ⟨fun hnl=>hk k b T l0 l _ hk' hg (h1 fun hl=>hnl (.inr hl)),fun hl η' β' hcp=>?_⟩
 rcases hl with rfl | hl
 ·exact absurd hg (hn b T l0 l)
 ·obtain ⟨h3,h4⟩:=h2 hl η' β' (hc hcp)
  exact ⟨hk k b T l0 l _ hk' hg h3,h4⟩
theorem ae0 {lst : Nat → Prop} {i : Nat} (h : ∀ j,j < t → lst j → ∀ k l,L[j]? = some (.st k l) → lst k ∧ ∀ j' l',j' < j → L[j']? = some (HRec.st k l') → lst j') (hn : ∀ k l,L[i]? ≠ some (.st k l)) :
  ∀ j,j < t → (j = i ∨ lst j) → ∀ k l,L[j]? = some (.st k l) → (k = i ∨ lst k) ∧ ∀ j' l',j' < j → L[j']? = some (HRec.st k l') → (j' = i ∨ lst j'):=by
 intro j hj hl k l hg
 rcases hl with rfl | hl
 ·exact absurd hg (hn k l)
 ·obtain ⟨h1,h2⟩:=h j hj hl k l hg
  exact ⟨.inr h1,fun j' l' hj' hg'=>.inr (h2 j' l' hj' hg')⟩
theorem HInv.comp {lst : Nat → Prop} {ρ' : Fr} {v : Nat → Value} {β : Nat → Nat} {w' : World} (h : HInv c st G t M L β0 ρ0 w00 lst ρ' v β w') : Comp st t L β0 lst v β v β:=
 ⟨fun _ _ _ _ _ _ _=>rfl,h.old,fun _ _ _ _ _ _ _=>rfl⟩
theorem Mem.congr {base : Bs} {hp : List HE} {β β' : Nat → Nat} {w : World} (h : Mem base hp β w) (hb : ∀ i,i < hp.length → β' i = β i) : Mem base hp β' w:=by
 have hm : ∀ i k,mineAt β' hp i k → mineAt β hp i k:=by
  rintro i k ⟨x,hi,hk⟩
  rw [hb i (List.getElem?_eq_some_iff.1 hi).1] at hk
  exact ⟨x,hi,hk⟩
 refine ⟨fun i T l hi=>?_,h.row,h.abs,fun i k hk=>h.low i k (hm i k hk),fun i j k hi hj=>h.apart i j k (hm i k hi) (hm j k hj)⟩
 obtain ⟨h1,h2⟩:=h.blk i T l hi
 have hil:=(List.getElem?_eq_some_iff.1 hi).1
 rw [hb i hil,E6 (m:=hp.length) hb h2]
 exact ⟨h1,h2⟩
theorem aw8 {lst : Nat → Prop} {ρ' : Fr} {v : Nat → Value} {β : Nat → Nat} {w' : World} (hS : Sat c.bs st β0 ρ0 w00) (hM : st.hp.length ≤ M) (h : HInv c st G t M L β0 ρ0 w00 lst ρ' v β w') {i s : Nat} (hi : i ≤ L.length) (hit : i ≤ t)
  (hs : ∀ k,k < t → ∀ h,L[k]? = some h → h.d = some s → k < i ∧ lst k) {η' : Nat → Value} {β' : Nat → Nat} (hc : Comp st t L β0 lst v β η' β') : Kn β' M (look (frH st (accAt L i) η') s) (ρ' s):=by
 intro x hx
 unfold frH at hx
 rw [am7] at hx
 cases hl : look (accFr st.hp.length η' (accAt L i)) s with
 | some y=>
  rw [hl] at hx
  simp only [Option.some.injEq] at hx
  subst hx
  obtain ⟨n,hh,r,h1,h2,h3⟩:=bc1 hl
  obtain ⟨k,hk,h4,h5⟩:=ae5 hi h1
  have h6:=hs k (by omega) hh h4 h2
  have h7:=h.val k (by omega) h6.2 hh h4 s h2 η' β' hc
  subst h5
  rw [N7 (by omega)] at h3
  rw [h3]
  exact h7
 | none=>
  rw [hl] at hx
  simp only at hx
  have hn:=am9 hl
  have e : ρ' s = ρ0 s:=by
   refine h.out s fun k hk hh hg he=>?_
   obtain ⟨h1,h2⟩:=hs k hk hh hg he
   refine hn hh ?_ he
   rw [List.mem_reverse]
   refine List.mem_of_getElem? (i:=k) ?_
   rw [List.getElem?_take,if_pos h1]
   exact hg
  obtain ⟨e1,e2⟩:=(hS.fr s) x hx
  exact ⟨by rw [e,e1]; exact SV.den_congr (fun i hi=>(hc.old i hi).symm) e2,e2.le hM⟩
theorem HInv.put {lst : Nat → Prop} {ρ' : Fr} {v : Nat → Value} {β : Nat → Nat} {w' : World} (h : HInv c st G t M L β0 ρ0 w00 lst ρ' v β w') {i : Nat} {d : Nat} {sv : (Nat → Value) → SV} (hi : i < t) (hh : L[i]? = some (.val d sv)) (hu : ∀ k,k < t → ∀ h,L[k]? = some h → h.d = some d → k = i)
  {x : Value} (hx : ∀ η' β',Comp st t L β0 lst v β η' β' → x = (sv η').den β' ∧ (sv η').Ok M) : HInv c st G t M L β0 ρ0 w00 (fun k=>k = i ∨ lst k) (upd ρ' d x) v β w':=by
 have hcomp : ∀ {η' β'},Comp st t L β0 (fun k=>k = i ∨ lst k) v β η' β' → Comp st t L β0 lst v β η' β':=fun q=>⟨fun k hk hl=>q.res k hk (.inr hl),q.old,fun k hk hl=>q.blk k hk (.inr hl)⟩
 have hSL : SL c st t L β0 (fun k=>k = i ∨ lst k) β = SL c st t L β0 lst β:=by
  funext b
  refine propext ⟨fun q=>⟨q.1,fun k hk hl=>q.2 k hk (.inr hl)⟩,fun q=>⟨q.1,fun k hk hl d' T lc hg=>?_⟩⟩
  rcases hl with rfl | hl
  ·rw [hh] at hg; cases hg
  ·exact q.2 k hk hl d' T lc hg
 refine ⟨h.ext,h.old,fun s hs=>?_,?_,?_,ae0 h.stl (fun k l e=>by rw [hh] at e; cases e),?_,hSL ▸ h.gh,?_,ah6 h.sto (fun b T l0 l e=>by rw [hh] at e; cases e) hcomp (fun _ _ _ _ _ _ _ _ h=>h)⟩
 ·rw [Z8,if_neg (show ¬ d = s from fun e=>hs i hi _ hh (congrArg some e))]
  exact h.out s hs
 ·intro k hk hl g hg d' hd' η' β' hc
  rw [Z8]
  split
  ·rename_i e
   obtain rfl:=hu k hk g hg (by rw [hd',e])
   rw [hh] at hg
   cases hg
   exact hx η' β' (hcomp hc)
  ·rename_i e
   rcases hl with rfl | hl
   ·rw [hh] at hg; cases hg; exact absurd (by simpa [HRec.d] using hd') e
   ·exact h.val k hk hl g hg d' hd' η' β' (hcomp hc)
 ·intro k hk hl d' T lc hg
  rcases hl with rfl | hl
  ·rw [hh] at hg; cases hg
  ·obtain ⟨h1,h2,lf,hC,h3⟩:=h.made k hk hl d' T lc hg
   exact ⟨h1,h2,lf,hC.add (fun l' e=>by rw [hh] at e; cases e),fun η' β' hc=>h3 η' β' (hcomp hc)⟩
 ·intro k k' hk hk' hl hl' d1 T1 l1 d2 T2 l2 hg hg'
  rcases hl with rfl | hl
  ·rw [hh] at hg; cases hg
  ·rcases hl' with rfl | hl'
   ·rw [hh] at hg'; cases hg'
   ·exact h.apart k k' hk hk' hl hl' _ _ _ _ _ _ hg hg'
 ·intro k hk hl d' p Δ hg
  rw [hSL]
  rcases hl with rfl | hl
  ·rw [hh] at hg; cases hg
  ·exact h.spec k hk hl d' p Δ hg
theorem HInv.same {lst : Nat → Prop} {ρ' : Fr} {v : Nat → Value} {β : Nat → Nat} {w' : World} (h : HInv c st G t M L β0 ρ0 w00 lst ρ' v β w') {i : Nat} (hh : L[i]? = some .same) : HInv c st G t M L β0 ρ0 w00 (fun k=>k = i ∨ lst k) ρ' v β w':=by
 have hcomp : ∀ {η' β'},Comp st t L β0 (fun k=>k = i ∨ lst k) v β η' β' → Comp st t L β0 lst v β η' β':=fun q=>⟨fun k hk hl=>q.res k hk (.inr hl),q.old,fun k hk hl=>q.blk k hk (.inr hl)⟩
 have hSL : SL c st t L β0 (fun k=>k = i ∨ lst k) β = SL c st t L β0 lst β:=by
  funext b
  refine propext ⟨fun q=>⟨q.1,fun k hk hl=>q.2 k hk (.inr hl)⟩,fun q=>⟨q.1,fun k hk hl d' T lc hg=>?_⟩⟩
  rcases hl with rfl | hl
  ·rw [hh] at hg; cases hg
  ·exact q.2 k hk hl d' T lc hg
 refine ⟨h.ext,h.old,h.out,?_,?_,ae0 h.stl (fun k l e=>by rw [hh] at e; cases e),?_,hSL ▸ h.gh,?_,ah6 h.sto (fun b T l0 l e=>by rw [hh] at e; cases e) hcomp (fun _ _ _ _ _ _ _ _ h=>h)⟩
 ·intro k hk hl g hg d' hd' η' β' hc
  rcases hl with rfl | hl
  ·rw [hh] at hg; cases hg; cases hd'
  ·exact h.val k hk hl g hg d' hd' η' β' (hcomp hc)
 ·intro k hk hl d' T lc hg
  rcases hl with rfl | hl
  ·rw [hh] at hg; cases hg
  ·obtain ⟨h1,h2,lf,hC,h3⟩:=h.made k hk hl d' T lc hg
   exact ⟨h1,h2,lf,hC.add (fun l' e=>by rw [hh] at e; cases e),fun η' β' hc=>h3 η' β' (hcomp hc)⟩
 ·intro k k' hk hk' hl hl' d1 T1 l1 d2 T2 l2 hg hg'
  rcases hl with rfl | hl
  ·rw [hh] at hg; cases hg
  ·rcases hl' with rfl | hl'
   ·rw [hh] at hg'; cases hg'
   ·exact h.apart k k' hk hk' hl hl' _ _ _ _ _ _ hg hg'
 ·intro k hk hl d' p Δ hg
  rw [hSL]
  rcases hl with rfl | hl
  ·rw [hh] at hg; cases hg
  ·exact h.spec k hk hl d' p Δ hg
theorem HInv.res {lst : Nat → Prop} {ρ' : Fr} {v : Nat → Value} {β : Nat → Nat} {w' w2 : World} (h : HInv c st G t M L β0 ρ0 w00 lst ρ' v β w') {i : Nat} {d : Nat} {p : Value → SV} {Δ : Value → Gh} (hi : i < t) (hn : ¬ lst i) (hh : L[i]? = some (.spec d p Δ)) (hu : ∀ k,k < t → ∀ h,L[k]? = some h → h.d = some d → k = i)
  {x : Value} (hk : Ext w' w2) (hx : x = (p x).den (fun _=>0)) (hok : (p x).Ok 0) (hΔ : (Δ x).p (SL c st t L β0 lst β) w2) : HInv c st G t M L β0 ρ0 w00 (fun k=>k = i ∨ lst k) (upd ρ' d x) (fun k=>if k = i then x else v k) β w2:=by
 have hcomp : ∀ {η' : Nat → Value} {β' : Nat → Nat},Comp st t L β0 (fun k=>k = i ∨ lst k) (fun k=>if k = i then x else v k) β η' β' → Comp st t L β0 lst v β η' β' ∧ η' i = x:=fun {η' β'} q=>
  ⟨⟨fun k hk hl d p Δ hg=>by
    have h1 : η' k = if k = i then x else v k:=q.res k hk (.inr hl) d p Δ hg
    rwa [if_neg (fun e : k = i=>hn (by rw [← e]; exact hl))] at h1,q.old,fun k hk hl=>q.blk k hk (.inr hl)⟩,by
   have h1 : η' i = if i = i then x else v i:=q.res i hi (.inl rfl) d p Δ hh
   rwa [if_pos rfl] at h1⟩
 have hSL : SL c st t L β0 (fun k=>k = i ∨ lst k) β = SL c st t L β0 lst β:=by
  funext b
  refine propext ⟨fun q=>⟨q.1,fun k hk hl=>q.2 k hk (.inr hl)⟩,fun q=>⟨q.1,fun k hk hl d' T lc hg=>?_⟩⟩
  rcases hl with rfl | hl
  ·rw [hh] at hg; cases hg
  ·exact q.2 k hk hl d' T lc hg
 refine ⟨h.ext.trans (.of hk),h.old,fun s hs=>?_,?_,?_,ae0 h.stl (fun k l e=>by rw [hh] at e; cases e),?_,hSL ▸ G.keep h.gh (.of hk),?_,ah6 h.sto (fun b T l0 l e=>by rw [hh] at e; cases e) (fun q=>(hcomp q).1) (fun _ _ _ _ _ _ _ _ h=>h.to hk)⟩
 ·rw [Z8,if_neg (show ¬ d = s from fun e=>hs i hi _ hh (congrArg some e))]
  exact h.out s hs
 ·intro k hk' hl g hg d' hd' η' β' hc
  obtain ⟨hc1,hc2⟩:=hcomp hc
  rw [Z8]
  split
  ·rename_i e
   obtain rfl:=hu k hk' g hg (by rw [hd',e])
   rw [hh] at hg
   cases hg
   simp only [HRec.sv,hc2]
   exact ⟨hx.trans (SV.den_congr (m:=0) (fun i hi=>absurd hi (Nat.not_lt_zero i)) hok),hok.le (Nat.zero_le _)⟩
  ·rename_i e
   rcases hl with rfl | hl
   ·rw [hh] at hg; cases hg; exact absurd (by simpa [HRec.d] using hd') e
   ·exact h.val k hk' hl g hg d' hd' η' β' hc1
 ·intro k hk' hl d' T lc hg
  rcases hl with rfl | hl
  ·rw [hh] at hg; cases hg
  ·obtain ⟨h1,h2,lf,hC,h3⟩:=h.made k hk' hl d' T lc hg
   exact ⟨h1,Nat.lt_of_lt_of_le h2 hk.size,lf,hC.add (fun l' e=>by rw [hh] at e; cases e),fun η' β' hc=>⟨(h3 η' β' (hcomp hc).1).1.to hk,(h3 η' β' (hcomp hc).1).2⟩⟩
 ·intro k k' hk' hk2 hl hl' d1 T1 l1 d2 T2 l2 hg hg'
  rcases hl with rfl | hl
  ·rw [hh] at hg; cases hg
  ·rcases hl' with rfl | hl'
   ·rw [hh] at hg'; cases hg'
   ·exact h.apart k k' hk' hk2 hl hl' _ _ _ _ _ _ hg hg'
 ·intro k hk' hl d' p' Δ' hg
  rw [hSL]
  by_cases e : k = i
  ·subst e
   rw [hh] at hg
   cases hg
   rw [if_pos rfl]
   exact hΔ
  ·rw [if_neg e]
   rcases hl with e' | hl
   ·exact absurd e' e
   ·exact (Δ' (v k)).keep (h.spec k hk' hl d' p' Δ' hg) (.of hk)
theorem HInv.new {lst : Nat → Prop} {ρ' : Fr} {v : Nat → Value} {β : Nat → Nat} {w' : World} (hS : Sat c.bs st β0 ρ0 w00) (h : HInv c st G t M L β0 ρ0 w00 lst ρ' v β w') {i : Nat} {d : Nat} {T : TypeId} {lc : (Nat → Value) → List Ch} (hlen : L.length = t) (hi : i < t) (hn : ¬ lst i) (hh : L[i]? = some (.mk d T lc)) (hu : ∀ k,k < t → ∀ h,L[k]? = some h → h.d = some d → k = i)
  {cs : List Value} (hMi : idxOf st L i < M) (hx : ∀ η' β',Comp st t L β0 lst v β η' β' → cs = cellsL β' (lc η') ∧ ∀ ch ∈ lc η',ch.Ok M) :
  HInv c st G t M L β0 ρ0 w00 (fun k=>k = i ∨ lst k) (upd ρ' d (.pointer (some ⟨w'.heap.size,0,none⟩))) v (βs β (idxOf st L i) w'.heap.size) (w'.alloc (.cells cs.toArray T)):=by
 have hk:=K7 w' (.cells cs.toArray T)
 have hold : ∀ j,j < st.hp.length → βs β (idxOf st L i) w'.heap.size j = β j:=fun j hj=>bi6 (by unfold idxOf; omega)
 have hne : ∀ k,k < t → lst k → ∀ d' T' lc',L[k]? = some (.mk d' T' lc') → βs β (idxOf st L i) w'.heap.size (idxOf st L k) = β (idxOf st L k):=by
  intro k hk hl d' T' lc' hg
  have e : idxOf st L k ≠ idxOf st L i:=by
   have hki : k ≠ i:=fun e=>hn (e ▸ hl)
   unfold idxOf
   rcases Nat.lt_or_ge k i with h1 | h1
   ·have:=bh5 (L:=L) (i:=i) (by omega) h1 hg; omega
   ·have:=bh5 (L:=L) (i:=k) (by omega) (show i < k by omega) hh; omega
  unfold βs
  rw [if_neg e]
 have hcomp : ∀ {η' β'},Comp st t L β0 (fun k=>k = i ∨ lst k) v (βs β (idxOf st L i) w'.heap.size) η' β' → Comp st t L β0 lst v β η' β' ∧ β' (idxOf st L i) = w'.heap.size:=fun q=>
  ⟨⟨fun k hk hl=>q.res k hk (.inr hl),q.old,fun k hk hl d T lc hg=>(q.blk k hk (.inr hl) d T lc hg).trans (hne k hk hl d T lc hg)⟩,by rw [q.blk i hi (.inl rfl) d T lc hh]; exact S8⟩
 have hSLm : ∀ b,b < w'.heap.size → SL c st t L β0 lst β b → SL c st t L β0 (fun k=>k = i ∨ lst k) (βs β (idxOf st L i) w'.heap.size) b:=by
  intro b hb q
  refine ⟨q.1,fun k hk hl d' T' lc' hg=>?_⟩
  by_cases e : k = i
  ·subst e; rw [S8]; omega
  ·rcases hl with e' | hl
   ·exact absurd e' e
   ·rw [hne k hk hl d' T' lc' hg]; exact q.2 k hk hl d' T' lc' hg
 have hsz : (w'.alloc (.cells cs.toArray T)).heap.size = w'.heap.size + 1:=by simp
 refine ⟨h.ext.trans (.of hk),fun j hj=>(hold j hj).trans (h.old j hj),fun s hs=>?_,?_,?_,ae0 h.stl (fun k l e=>by rw [hh] at e; cases e),?_,G.keep (G.mono h.gh hSLm) (.of hk),?_,ah6 h.sto (fun b T l0 l e=>by rw [hh] at e; cases e) (fun q=>(hcomp q).1) (fun _ _ _ _ _ _ _ _ h=>h.to hk)⟩
 ·rw [Z8,if_neg (show ¬ d = s from fun e=>hs i hi _ hh (congrArg some e))]
  exact h.out s hs
 ·intro k hk' hl g hg d' hd' η' β' hc
  obtain ⟨hc1,hc2⟩:=hcomp hc
  rw [Z8]
  split
  ·rename_i e
   obtain rfl:=hu k hk' g hg (by rw [hd',e])
   rw [hh] at hg
   cases hg
   have e3 : β' (st.hp.length + cnt (accAt L k)) = w'.heap.size:=hc2
   refine ⟨?_,hMi⟩
   simp only [HRec.sv,SV.den,Ch.den,e3]
  ·rename_i e
   rcases hl with rfl | hl
   ·rw [hh] at hg; cases hg; exact absurd (by simpa [HRec.d] using hd') e
   ·exact h.val k hk' hl g hg d' hd' η' β' hc1
 ·intro k hk' hl d' T' lc' hg
  by_cases e : k = i
  ·subst e
   rw [hh] at hg
   cases hg
   rw [S8]
   refine ⟨h.ext.size,by omega,lc,.inl ⟨rfl,fun j l' hj hl hg=>?_⟩,fun η' β' hc=>?_⟩
   ·rcases hl with rfl | hl
    ·rw [hh] at hg; cases hg
    ·exact hn (h.stl j hj hl _ _ hg).1
   obtain ⟨h1,h2⟩:=hx η' β' (hcomp hc).1
   rw [← h1]
   exact ⟨Blk.new _ _ _,h2⟩
  ·rcases hl with e' | hl
   ·exact absurd e' e
   ·rw [hne k hk' hl d' T' lc' hg]
    obtain ⟨h1,h2,lf,hC,h3⟩:=h.made k hk' hl d' T' lc' hg
    exact ⟨h1,by omega,lf,hC.add (fun l' e'=>by rw [hh] at e'; cases e'),fun η' β' hc=>⟨(h3 η' β' (hcomp hc).1).1.to hk,(h3 η' β' (hcomp hc).1).2⟩⟩
 ·intro k k' hk' hk2 hl hl' d1 T1 l1 d2 T2 l2 hg hg' he
  by_cases e : k = i
  ·by_cases e' : k' = i
   ·rw [e,e']
   ·rcases hl' with e2 | hl'
    ·exact absurd e2 e'
    ·subst e
     rw [S8,hne k' hk2 hl' _ _ _ hg'] at he
     have:=(h.made k' hk2 hl' _ _ _ hg').2.1
     omega
  ·rcases hl with e2 | hl
   ·exact absurd e2 e
   ·by_cases e' : k' = i
    ·subst e'
     rw [S8,hne k hk' hl _ _ _ hg] at he
     have:=(h.made k hk' hl _ _ _ hg).2.1
     omega
    ·rcases hl' with e2 | hl'
     ·exact absurd e2 e'
     ·rw [hne k hk' hl _ _ _ hg,hne k' hk2 hl' _ _ _ hg'] at he
      exact h.apart k k' hk' hk2 hl hl' _ _ _ _ _ _ hg hg' he
 ·intro k hk' hl d' p Δ hg
  rcases hl with rfl | hl
  ·rw [hh] at hg; cases hg
  ·exact (Δ (v k)).keep ((Δ (v k)).mono (h.spec k hk' hl d' p Δ hg) hSLm) (.of hk)
theorem HInv.store {lst : Nat → Prop} {ρ' : Fr} {v : Nat → Value} {β : Nat → Nat} {w' w2 : World} (hS : Sat c.bs st β0 ρ0 w00) (hT : TgOk st t L) (h : HInv c st G t M L β0 ρ0 w00 lst ρ' v β w') {i k0 d0 : Nat} {T0 : TypeId} {l lc0 : (Nat → Value) → List Ch} (hi : i < t) (hk0 : k0 < t) (hlk : lst k0) (hh : L[i]? = some (.st k0 l)) (hh0 : L[k0]? = some (.mk d0 T0 lc0))
  (hord : ∀ j l',j < t → L[j]? = some (.st k0 l') → (lst j ↔ j < i)) (hk : Wrt (β (idxOf st L k0)) w' w2) (hx : ∀ η' β',Comp st t L β0 lst v β η' β' → Blk w2 (β (idxOf st L k0)) T0 (cellsL β' (l η')) ∧ ∀ ch ∈ l η',ch.Ok M) :
  HInv c st G t M L β0 ρ0 w00 (fun k=>k = i ∨ lst k) ρ' v β w2:=by
 have hcomp : ∀ {η' β'},Comp st t L β0 (fun k=>k = i ∨ lst k) v β η' β' → Comp st t L β0 lst v β η' β':=fun q=>⟨fun k hk hl=>q.res k hk (.inr hl),q.old,fun k hk hl=>q.blk k hk (.inr hl)⟩
 have hSL : SL c st t L β0 (fun k=>k = i ∨ lst k) β = SL c st t L β0 lst β:=by
  funext b
  refine propext ⟨fun q=>⟨q.1,fun k hk hl=>q.2 k hk (.inr hl)⟩,fun q=>⟨q.1,fun k hk hl d' T lc hg=>?_⟩⟩
  rcases hl with rfl | hl
  ·rw [hh] at hg; cases hg
  ·exact q.2 k hk hl d' T lc hg
 have hm0:=h.made k0 hk0 hlk _ _ _ hh0
 have hkS : Keeps (SL c st t L β0 lst β) w' w2:=hk.mono fun b q e=>q.2 k0 hk0 hlk _ _ _ hh0 e.symm
 refine ⟨Keeps.behind h.ext hk (fun b hb _ e=>by omega),h.old,h.out,?_,?_,?_,?_,hSL ▸ G.keep h.gh hkS,?_,ah6 h.sto (fun b T l0 l e=>by rw [hh] at e; cases e) hcomp (fun k b T l0 l cs hk' hg h=>h.wr hk fun e=>by have:=(hS.mem.low b _ (hT.mine hk' hg)).2; omega)⟩
 ·intro k hk' hl g hg d' hd' η' β' hc
  rcases hl with rfl | hl
  ·rw [hh] at hg; cases hg; cases hd'
  ·exact h.val k hk' hl g hg d' hd' η' β' (hcomp hc)
 ·intro k hk' hl d' T lc hg
  rcases hl with rfl | hl
  ·rw [hh] at hg; cases hg
  ·obtain ⟨h1,h2,lf,hC,h3⟩:=h.made k hk' hl d' T lc hg
   by_cases e : k = k0
   ·subst e
    rw [hh0] at hg
    cases hg
    refine ⟨h1,Nat.lt_of_lt_of_le h2 hk.size,l,.inr ⟨i,hi,.inl rfl,hh,fun j' l' hj' hl' hg'=>?_⟩,fun η' β' hc=>hx η' β' (hcomp hc)⟩
    rcases hl' with rfl | hl'
    ·exact Nat.le_refl _
    ·exact Nat.le_of_lt ((hord j' l' hj' hg').1 hl')
   ·refine ⟨h1,Nat.lt_of_lt_of_le h2 hk.size,lf,hC.add (fun l' e'=>by rw [hh] at e'; cases e'; exact e rfl),fun η' β' hc=>?_⟩
    obtain ⟨h4,h5⟩:=h3 η' β' (hcomp hc)
    refine ⟨h4.wr hk fun e'=>e (h.apart k k0 hk' hk0 hl hlk _ _ _ _ _ _ hg hh0 e'),h5⟩
 ·intro j hj hl k l' hg
  rcases hl with rfl | hl
  ·rw [hh] at hg
   cases hg
   exact ⟨.inr hlk,fun j' l' hj' hg'=>.inr ((hord j' l' (by omega) hg').2 hj')⟩
  ·obtain ⟨h1,h2⟩:=h.stl j hj hl k l' hg
   exact ⟨.inr h1,fun j' l' hj' hg'=>.inr (h2 j' l' hj' hg')⟩
 ·intro k k' hk1 hk2 hl hl' d1 T1 l1 d2 T2 l2 hg hg'
  rcases hl with rfl | hl
  ·rw [hh] at hg; cases hg
  ·rcases hl' with rfl | hl'
   ·rw [hh] at hg'; cases hg'
   ·exact h.apart k k' hk1 hk2 hl hl' _ _ _ _ _ _ hg hg'
 ·intro k hk' hl d' p Δ hg
  rw [hSL]
  rcases hl with rfl | hl
  ·rw [hh] at hg; cases hg
  ·exact (Δ (v k)).keep (h.spec k hk' hl d' p Δ hg) hkS
theorem HInv.stoT {lst : Nat → Prop} {ρ' : Fr} {v : Nat → Value} {β : Nat → Nat} {w' w2 : World} (hS : Sat c.bs st β0 ρ0 w00) (hT : TgOk st t L) (h : HInv c st G t M L β0 ρ0 w00 lst ρ' v β w') {i b : Nat} {T : TypeId} {l0 : List Ch} {l : (Nat → Value) → List Ch} (hi : i < t) (hh : L[i]? = some (.sto b T l0 l))
  (hk : Wrt (β0 b) w' w2) (hx : ∀ η' β',Comp st t L β0 lst v β η' β' → Blk w2 (β0 b) T (cellsL β' (l η')) ∧ ∀ ch ∈ l η',ch.Ok M) : HInv c st G t M L β0 ρ0 w00 (fun k=>k = i ∨ lst k) ρ' v β w2:=by
 have hcomp : ∀ {η' β'},Comp st t L β0 (fun k=>k = i ∨ lst k) v β η' β' → Comp st t L β0 lst v β η' β':=fun q=>⟨fun k hk hl=>q.res k hk (.inr hl),q.old,fun k hk hl=>q.blk k hk (.inr hl)⟩
 have hSL : SL c st t L β0 (fun k=>k = i ∨ lst k) β = SL c st t L β0 lst β:=by
  funext b
  refine propext ⟨fun q=>⟨q.1,fun k hk hl=>q.2 k hk (.inr hl)⟩,fun q=>⟨q.1,fun k hk hl d' T lc hg=>?_⟩⟩
  rcases hl with rfl | hl
  ·rw [hh] at hg; cases hg
  ·exact q.2 k hk hl d' T lc hg
 have hm:=hT.mine (β0:=β0) hi hh
 have hlow:=(hS.mem.low b _ hm).2
 have hkS : Keeps (SL c st t L β0 lst β) w' w2:=hk.mono fun g q e=>q.1.2 b (e ▸ hm)
 refine ⟨h.ext.trans (hk.mono fun g hg=>hg i b T l0 l hi hh),h.old,h.out,?_,?_,ae0 h.stl (fun k l e=>by rw [hh] at e; cases e),?_,hSL ▸ G.keep h.gh hkS,?_,?_⟩
 ·intro k hk' hl g hg d' hd' η' β' hc
  rcases hl with rfl | hl
  ·rw [hh] at hg; cases hg; cases hd'
  ·exact h.val k hk' hl g hg d' hd' η' β' (hcomp hc)
 ·intro k hk' hl d' T' lc hg
  rcases hl with rfl | hl
  ·rw [hh] at hg; cases hg
  ·obtain ⟨h1,h2,lf,hC,h3⟩:=h.made k hk' hl d' T' lc hg
   refine ⟨h1,Nat.lt_of_lt_of_le h2 hk.size,lf,hC.add (fun l' e=>by rw [hh] at e; cases e),fun η' β' hc=>?_⟩
   obtain ⟨h4,h5⟩:=h3 η' β' (hcomp hc)
   exact ⟨h4.wr hk fun e=>by omega,h5⟩
 ·intro k k' hk1 hk2 hl hl' d1 T1 l1 d2 T2 l2 hg hg'
  rcases hl with rfl | hl
  ·rw [hh] at hg; cases hg
  ·rcases hl' with rfl | hl'
   ·rw [hh] at hg'; cases hg'
   ·exact h.apart k k' hk1 hk2 hl hl' _ _ _ _ _ _ hg hg'
 ·intro k hk' hl d' p Δ hg
  rw [hSL]
  rcases hl with rfl | hl
  ·rw [hh] at hg; cases hg
  ·exact (Δ (v k)).keep (h.spec k hk' hl d' p Δ hg) hkS
 ·intro k hk' b' T' l0' l' hg
  by_cases e : k = i
  ·subst e
   rw [hh] at hg
   cases hg
   exact ⟨fun hnl=>absurd (.inl rfl) hnl,fun _ η' β' hc=>hx η' β' (hcomp hc)⟩
  ·obtain ⟨h1,h2⟩:=h.sto k hk' b' T' l0' l' hg
   have hne : ¬ β0 b' = β0 b:=fun e'=>by
    have e2:=hS.mem.apart b' b _ (hT.mine hk' hg) (e'.symm ▸ hm)
    subst e2
    exact e ((hT i _ T l0 l hi hh).2 k _ _ _ hk' hg)
   refine ⟨fun hnl=>(h1 fun hl=>hnl (.inr hl)).wr hk hne,fun hl η' β' hc=>?_⟩
   rcases hl with e' | hl
   ·exact absurd e' e
   ·obtain ⟨h3,h4⟩:=h2 hl η' β' (hcomp hc)
    exact ⟨h3.wr hk hne,h4⟩
theorem HInv.sat {lst : Nat → Prop} {ρ' : Fr} {v : Nat → Value} {β : Nat → Nat} {w' : World} (hS : Sat c.bs st β0 ρ0 w00) (hT : TgOk st t L) (hw : Keeps c.K c.w0 w00) (hlen : L.length = t) (hM : M = st.hp.length + cnt (accAt L t)) (h : HInv c st G t M L β0 ρ0 w00 lst ρ' v β w') (hall : ∀ k,k < t → lst k) :
  Sat c.bs ⟨frH st (accAt L t) v,st.hp ++ accNw v (accAt L t)⟩ β ρ' w' ∧ (accG G v (accAt L t)).p (Sof c.S0 β (st.hp ++ accNw v (accAt L t))) w':=by
 have hc:=h.comp
 have hlen2 : (st.hp ++ accNw v (accAt L t)).length = M:=by rw [List.length_append,bs9,hM]
 have hnew : ∀ i x,(st.hp ++ accNw v (accAt L t))[i]? = some x → (i < st.hp.length ∧ st.hp[i]? = some x) ∨ ∃ k d T lc,k < t ∧ L[k]? = some (.mk d T lc) ∧ i = idxOf st L k ∧ x = .blk T (((stOf (accAt L t) k).getD lc) v):=by
  intro i x hx
  by_cases hi : i < st.hp.length
  ·rw [List.getElem?_append_left hi] at hx
   exact .inl ⟨hi,hx⟩
  ·rw [List.getElem?_append_right (by omega)] at hx
   obtain ⟨n,d,T,lc,r,h1,h2,h3⟩:=bn2 hx
   obtain ⟨k,hk,h4,h5⟩:=ae5 (by omega) h1
   refine .inr ⟨k,d,T,lc,hk,h4,?_,by rw [h3,h5,N7 (by omega)]⟩
   unfold idxOf
   rw [← h5]
   omega
 have hmine : ∀ i b,mineAt β (st.hp ++ accNw v (accAt L t)) i b → (i < st.hp.length ∧ mineAt β0 st.hp i b) ∨ ∃ k d T lc,k < t ∧ L[k]? = some (.mk d T lc) ∧ i = idxOf st L k ∧ b = β (idxOf st L k):=by
  rintro i b ⟨x,hx,hb⟩
  rcases hnew i x hx with ⟨h1,h2⟩ | ⟨k,d,T,lc,h1,h2,h3,h4⟩
  ·exact .inl ⟨h1,x,h2,by rw [← h.old i h1]; exact hb⟩
  ·subst h4
   exact .inr ⟨k,d,T,lc,h1,h2,h3,by rw [← h3]; exact hb⟩
 have hlow : ∀ i b,mineAt β0 st.hp i b → b < w00.heap.size:=fun i b hb=>(hS.mem.low i b hb).2
 have hMem0:=(hT.mem hS.mem h.ext).congr h.old
 refine ⟨⟨fun s=>?_,⟨?_,?_,?_,?_,?_⟩⟩,?_⟩
 ·rw [hlen2]
  exact aw8 hS (by omega) h (by omega) (Nat.le_refl _) (fun k hk _ _ _=>⟨hk,hall k hk⟩) hc
 ·intro i T l' hi
  rw [hlen2]
  rcases hnew i _ hi with ⟨h1,h2⟩ | ⟨k,d,T',lc,h1,h2,h3,h4⟩
  ·obtain ⟨e1,e2⟩:=hMem0.blk i T l' h2
   exact ⟨e1,fun ch hch=>(e2 ch hch).le (by omega)⟩
  ·simp only [HE.blk.injEq] at h4
   obtain ⟨rfl,rfl⟩:=h4
   rw [h3]
   obtain ⟨_,_,lf,hC,h5⟩:=h.made k h1 (hall k h1) d T lc h2
   rw [hC.eq (by omega) (Nat.le_refl _) fun j l' hj _=>⟨fun _=>hj,fun _=>hall j hj⟩]
   exact h5 v β hc
 ·intro i T s x n cs hi
  rcases hnew i _ hi with ⟨h1,h2⟩ | ⟨k,d,T',lc,h1,h2,h3,h4⟩
  ·exact hMem0.row i T s x n cs h2
  ·cases h4
 ·intro i A hi
  rcases hnew i _ hi with ⟨h1,h2⟩ | ⟨k,d,T',lc,h1,h2,h3,h4⟩
  ·exact hMem0.abs i A h2
  ·cases h4
 ·intro i b hb
  rcases hmine i b hb with ⟨h1,h2⟩ | ⟨k,d,T',lc,h1,h2,h3,h4⟩
  ·exact ⟨(hS.mem.low i b h2).1,Nat.lt_of_lt_of_le (hS.mem.low i b h2).2 h.ext.size⟩
  ·obtain ⟨e1,e2,_⟩:=h.made k h1 (hall k h1) d T' lc h2
   have:=hw.size
   exact ⟨.inl (Nat.le_trans this (by omega)),by omega⟩
 ·intro i j b hi hj
  rcases hmine i b hi with ⟨h1,h2⟩ | ⟨k,d,T',lc,h1,h2,h3,h4⟩
  ·rcases hmine j b hj with ⟨h5,h6⟩ | ⟨k',d',T2,lc',h5,h6,h7,h8⟩
   ·exact hS.mem.apart i j b h2 h6
   ·have e1:=hlow i b h2
    have e2:=(h.made k' h5 (hall k' h5) d' T2 lc' h6).1
    omega
  ·rcases hmine j b hj with ⟨h5,h6⟩ | ⟨k',d',T2,lc',h5,h6,h7,h8⟩
   ·have e1:=hlow j b h6
    have e2:=(h.made k h1 (hall k h1) d T' lc h2).1
    omega
   ·have:=h.apart k k' h1 h5 (hall k h1) (hall k' h5) _ _ _ _ _ _ h2 h6 (h4.symm.trans h8)
    subst this
    rw [h3,h7]
 ·have hSof : ∀ b,b < w'.heap.size → SL c st t L β0 lst β b → Sof c.S0 β (st.hp ++ accNw v (accAt L t)) b:=by
   intro b _ q
   refine ⟨q.1.1,fun i hi=>?_⟩
   rcases hmine i b hi with ⟨h1,h2⟩ | ⟨k,d,T',lc,h1,h2,h3,h4⟩
   ·exact q.1.2 i h2
   ·exact q.2 k h1 (hall k h1) d T' lc h2 h4.symm
  refine ci8 (G.mono h.gh hSof) fun n d p Δ r hd=>?_
  obtain ⟨k,hk,h4,h5⟩:=ae5 (by omega) hd
  have h6:=(Δ (v k)).mono (h.spec k hk (hall k hk) d p Δ h4) hSof
  rw [h5,N7 (by omega)]
  exact h6
theorem a99 : ∀ {l : List HE} {b : Nat},hide1 l b = l.modify b HE.hide:=by
 intro l
 induction l with
 | nil=>intro b; cases b <;> rfl
 | cons x r ih=>intro b; cases b <;> simp [hide1,ih,List.modify_succ_cons]
theorem aj1 {hp : List HE} : ∀ {l : List Nat},(hideN l hp).length = hp.length:=by
 intro l
 induction l with
 | nil=>rfl
 | cons b r ih=>simp [hideN,a99,ih]
theorem at7 {hp : List HE} : noHid hp = true → ∀ (i : Nat) (T : TypeId) (l : List Ch),hp[i]? ≠ some (HE.hid T l):=by
 induction hp with
 | nil=>intro _ i T l; simp
 | cons x r ih=>
  intro h i T l
  cases i with
  | zero=>cases x <;> simp_all [noHid]
  | succ i=>cases x <;> simp only [noHid] at h <;> first | (simpa using ih h i T l) | cases h
theorem Q8 {hp : List HE} : ∀ {l : List Nat} {i : Nat} {x : HE},(hideN l hp)[i]? = some x → hp[i]? = some x ∨ ∃ T c,x = .hid T c ∧ hp[i]? = some (.blk T c):=by
 intro l
 induction l with
 | nil=>intro i x h; exact .inl h
 | cons b r ih=>
  intro i x h
  simp only [hideN,a99,List.getElem?_modify,Option.map_eq_map] at h
  cases hy : (hideN r hp)[i]? with
  | none=>rw [hy] at h; simp at h
  | some y=>
   rw [hy] at h
   simp only [Option.map_some,Option.some.injEq] at h
   have h2:=ih hy
   split at h
   ·cases y with
    | blk T c=>
     simp only [HE.hide] at h
     subst h
     rcases h2 with h2 | ⟨_,_,h2,_⟩
     ·exact .inr ⟨T,c,rfl,h2⟩
     ·cases h2
    | row _ _ _ _ _=>simp only [HE.hide] at h; subst h; exact h2
    | gone=>simp only [HE.hide] at h; subst h; exact h2
    | abs _=>simp only [HE.hide] at h; subst h; exact h2
    | hid _ _=>simp only [HE.hide] at h; subst h; exact h2
   ·subst h; exact h2
theorem V8 {β : Nat → Nat} {hp : List HE} {l : List Nat} (i k : Nat) : mineAt β (hideN l hp) i k → mineAt β hp i k:=by
 rintro ⟨x,hx,hk⟩
 rcases Q8 hx with h | ⟨T,c,rfl,h⟩
 ·exact ⟨x,h,hk⟩
 ·exact ⟨_,h,hk⟩
theorem by5 {S0 : Nat → Prop} {β : Nat → Nat} {hp : List HE} {l : List Nat} (k : Nat) (h : Sof S0 β hp k) : Sof S0 β (hideN l hp) k:=⟨h.1,fun i hi=>h.2 i (V8 i k hi)⟩
theorem Sat.hide {base : Bs} {fr : List (Nat × SV)} {hp : List HE} {β : Nat → Nat} {ρ : Fr} {w : World} {l : List Nat} (h : Sat base ⟨fr,hp⟩ β ρ w) : Sat base ⟨fr,hideN l hp⟩ β ρ w:=by
 refine ⟨fun d=>by rw [show (St.mk fr (hideN l hp)).hp.length = hp.length from aj1]; exact h.fr d,⟨fun i T c hi=>?_,fun i T s v n cs hi=>?_,fun i A hi=>?_,fun i k hi=>h.mem.low i k (V8 i k hi),fun i j k hi hj=>h.mem.apart i j k (V8 i k hi) (V8 j k hj)⟩⟩
 ·rw [show (St.mk fr (hideN l hp)).hp.length = hp.length from aj1]
  rcases Q8 hi with h1 | ⟨_,_,h1,_⟩
  ·exact h.mem.blk i T c h1
  ·cases h1
 ·rcases Q8 hi with h1 | ⟨_,_,h1,_⟩
  ·exact h.mem.row i T s v n cs h1
  ·cases h1
 ·rcases Q8 hi with h1 | ⟨_,_,h1,_⟩
  ·exact h.mem.abs i A h1
  ·cases h1
theorem Sat.fill {base : Bs} {fr : List (Nat × SV)} {hp : List HE} {β : Nat → Nat} {ρ : Fr} {w : World} {b : Nat} {T : TypeId} {l : List Ch} {x : HE} (h : Sat base ⟨fr,hp⟩ β ρ w) (hb : hp[b]? = some x) (hx : ∀ k,x.mine (β b) k ↔ k = β b) (hB : Blk w (β b) T (cellsL β l)) (hok : ∀ c ∈ l,c.Ok hp.length) :
  Sat base ⟨fr,setN hp b (.blk T l)⟩ β ρ w ∧ (setN hp b (.blk T l)).length = hp.length ∧ (∀ i k,mineAt β (setN hp b (.blk T l)) i k ↔ mineAt β hp i k) ∧ (∀ i x,hp[i]? = some x → (∀ k,x.mine (β i) k ↔ k = β i) → ∃ y,(setN hp b (.blk T l))[i]? = some y ∧ ∀ k,y.mine (β i) k ↔ k = β i):=by
 have hbl:=(List.getElem?_eq_some_iff.1 hb).1
 rw [O7]
 have hlen : (hp.set b (.blk T l)).length = hp.length:=by simp
 have hm : ∀ i k,mineAt β (hp.set b (.blk T l)) i k ↔ mineAt β hp i k:=by
  intro i k
  by_cases e : b = i
  ·subst e
   rw [L6 hb,L6 (List.getElem?_set_self hbl),hx]
   exact Iff.rfl
  ·unfold mineAt
   rw [List.getElem?_set_ne e]
 refine ⟨⟨fun d=>by rw [show (St.mk fr (hp.set b (.blk T l))).hp.length = hp.length from hlen]; exact h.fr d,⟨fun i T' l' hi=>?_,fun i T' s v n cs hi=>?_,fun i A hi=>?_,fun i k hi=>h.mem.low i k ((hm i k).1 hi),fun i j k hi hj=>h.mem.apart i j k ((hm i k).1 hi) ((hm j k).1 hj)⟩⟩,hlen,hm,fun i y hy hyk=>?_⟩
 ·replace hi : (hp.set b (.blk T l))[i]? = some (.blk T' l'):=hi
  rw [show (St.mk fr (hp.set b (.blk T l))).hp.length = hp.length from hlen]
  by_cases e : b = i
  ·subst e
   rw [List.getElem?_set_self hbl] at hi
   cases hi
   exact ⟨hB,hok⟩
  ·rw [List.getElem?_set_ne e] at hi
   exact h.mem.blk i T' l' hi
 ·replace hi : (hp.set b (.blk T l))[i]? = some (.row T' s v n cs):=hi
  by_cases e : b = i
  ·subst e
   rw [List.getElem?_set_self hbl] at hi
   cases hi
  ·rw [List.getElem?_set_ne e] at hi
   exact h.mem.row i T' s v n cs hi
 ·replace hi : (hp.set b (.blk T l))[i]? = some (.abs A):=hi
  by_cases e : b = i
  ·subst e
   rw [List.getElem?_set_self hbl] at hi
   cases hi
  ·rw [List.getElem?_set_ne e] at hi
   exact h.mem.abs i A hi
 ·by_cases e : b = i
  ·subst e
   exact ⟨_,List.getElem?_set_self hbl,fun k=>Iff.rfl⟩
  ·exact ⟨y,by rw [List.getElem?_set_ne e]; exact hy,hyk⟩
theorem Sat.fills {base : Bs} {fr : List (Nat × SV)} {β : Nat → Nat} {ρ : Fr} {w : World} {η : Nat → Value} {hp : List HE} : ∀ {acc : List HRec},Sat base ⟨fr,hp⟩ β ρ w → (∀ b T l0 l,HRec.sto b T l0 l ∈ acc → (∃ x,hp[b]? = some x ∧ ∀ k,x.mine (β b) k ↔ k = β b) ∧ Blk w (β b) T (cellsL β (l η)) ∧ ∀ c ∈ l η,c.Ok hp.length) →
  Sat base ⟨fr,stoHp η acc hp⟩ β ρ w ∧ (stoHp η acc hp).length = hp.length ∧ (∀ i k,mineAt β (stoHp η acc hp) i k ↔ mineAt β hp i k) ∧ (∀ i x,hp[i]? = some x → (∀ k,x.mine (β i) k ↔ k = β i) → ∃ y,(stoHp η acc hp)[i]? = some y ∧ ∀ k,y.mine (β i) k ↔ k = β i):=by
 intro acc
 induction acc with
 | nil=>intro h _; exact ⟨h,rfl,fun i k=>Iff.rfl,fun i x hx hk=>⟨x,hx,hk⟩⟩
 | cons r acc ih=>
  intro h hT
  obtain ⟨h1,h2,h3,h4⟩:=ih h fun b T l0 l hm=>hT b T l0 l (List.mem_cons_of_mem _ hm)
  cases r with
  | val d sv=>exact ⟨h1,h2,h3,h4⟩
  | mk d T l=>exact ⟨h1,h2,h3,h4⟩
  | spec d p Δ=>exact ⟨h1,h2,h3,h4⟩
  | st k l=>exact ⟨h1,h2,h3,h4⟩
  | same=>exact ⟨h1,h2,h3,h4⟩
  | sto b T l0 l=>
   obtain ⟨⟨x,hx,hk⟩,hB,hok⟩:=hT b T l0 l (List.mem_cons_self ..)
   obtain ⟨y,hy,hyk⟩:=h4 b x hx hk
   obtain ⟨q1,q2,q3,q4⟩:=h1.fill hy hyk hB (by rw [h2]; exact hok)
   refine ⟨q1,q2.trans h2,fun i k=>(q3 i k).trans (h3 i k),fun i x hx hk=>?_⟩
   obtain ⟨z,hz,hzk⟩:=h4 i x hx hk
   exact q4 i z hz hzk
theorem HInv.satS {lst : Nat → Prop} {ρ' : Fr} {v : Nat → Value} {β : Nat → Nat} {w' : World} (hS : Sat c.bs st β0 ρ0 w00) (hT : TgOk st t L) (hw : Keeps c.K c.w0 w00) (hlen : L.length = t) (hM : M = st.hp.length + cnt (accAt L t)) (h : HInv c st G t M L β0 ρ0 w00 lst ρ' v β w') (hall : ∀ k,k < t → lst k) :
  Sat c.bs ⟨frH st (accAt L t) v,stoHp v (accAt L t) (st.hp ++ accNw v (accAt L t))⟩ β ρ' w' ∧ (accG G v (accAt L t)).p (Sof c.S0 β (stoHp v (accAt L t) (st.hp ++ accNw v (accAt L t)))) w':=by
 obtain ⟨h1,h2⟩:=h.sat hS hT hw hlen hM hall
 have hlen2 : (st.hp ++ accNw v (accAt L t)).length = M:=by rw [List.length_append,bs9,hM]
 obtain ⟨q1,q2,q3,_⟩:=Sat.fills (η:=v) (acc:=accAt L t) h1 fun b T l0 l hm=>by
  obtain ⟨k,hk⟩:=List.mem_iff_getElem?.1 (List.mem_reverse.1 hm)
  rw [List.getElem?_take] at hk
  split at hk
  ·rename_i hkt
   obtain ⟨e1,e2⟩:=hT k b T l0 l hkt hk
   have hbl:=(List.getElem?_eq_some_iff.1 e1).1
   obtain ⟨e3,e4⟩:=(h.sto k hkt b T l0 l hk).2 (hall k hkt) v β h.comp
   have e5:=h.old b hbl
   refine ⟨⟨.hid T l0,by rw [List.getElem?_append_left hbl]; exact e1,fun g=>Iff.rfl⟩,by rw [e5]; exact e3,fun ch hch=>?_⟩
   rw [hlen2]
   exact e4 ch hch
  ·cases hk
 exact ⟨q1,(accG G v (accAt L t)).mono h2 fun k _ hk=>⟨hk.1,fun i hi=>hk.2 i ((q3 i k).1 hi)⟩⟩
end
end Go.Proofs.YtpheooheinfbgaaGreatDoor
end
section
set_option linter.unusedVariables false
set_option linter.unusedSimpArgs false
namespace Go.Proofs.YtpheooheinfbgaaGreatDoor
open Go Go.RowKit
theorem cc4 {P : Program} {E : Env} {β : Nat → Nat} {m k : Nat} {fr : List (Nat × SV)} {w : World} {ty : TypeId} {ρ : Operand → Value} {o : Op} {T : TypeId} {l : List Ch} {s : SV} (hE : EnvOk P E) (hk : OpsKn β m fr ρ o) (h : effM E fr k o = some (.mk T l s)) :
  (∀ c ∈ l,c.Ok m) ∧ ∀ d pos aft g,(execOp ρ ⟨d,o,ty,pos,aft,g⟩).run P w = .ok (.value (.pointer (some ⟨w.heap.size,0,none⟩))) (w.alloc (.cells (cellsL β l).toArray T)):=by
 unfold effM at h
 split at h
 ·obtain ⟨rfl,rfl,h1,h2⟩:=al7 (P:=P) (m:=m) (β:=β) (w:=w) (ρ:=ρ) (ty:=ty) hE (F1 h).1
  exact ⟨h1,h2⟩
 ·rename_i T' x
  obtain ⟨rfl,rfl,h1,h2⟩:=au6 (P:=P) (w:=w) (ty:=ty) (hk x (by simp [Op.operands])) (F1 h).1
  exact ⟨h1,h2⟩
 ·cases h
def drawnOps (o : Out) : List Oper:=match o.cur with | .code (.region _ ops _)=>ops.toList | _=>[]
def drawOkS (l : List Oper) (t : Nat) : Bool:=
 headOkR [] 0 (l.take t) && lateOk (l.take t) && Nat.ble t l.length && (Nat.beq t l.length || Region.sinkB .any l.toArray t) && Region.chainB .any l.toArray t && Region.seqB .any l.toArray (l.length - t) t (canonListed t l.length)
def isDrawn (o : Out) (t : Nat) : Bool:=match o.cur with | .code (.region _ ops d)=>d && noHid o.st.hp && drawOkS ops.toList t | _=>false
def hideO (bs : List Nat) (st : St) : St:=⟨st.fr,hideN bs st.hp⟩
theorem ba6 {b : Nat} : ∀ {acc : List HRec},memN (stoIdx acc) b = false → ∀ T l0 l,HRec.sto b T l0 l ∉ acc:=by
 intro acc
 induction acc with
 | nil=>intro _ T l0 l h; cases h
 | cons r acc ih=>
  intro h T l0 l hm
  rcases List.mem_cons.1 hm with e | hm
  ·subst e
   simp only [stoIdx,memN,Nat.beq_refl,cond_true] at h
   cases h
  ·refine ih ?_ T l0 l hm
   cases r <;> first | exact h | skip
   rename_i b' T' l0' l'
   simp only [stoIdx,memN] at h
   cases hb : Nat.beq b' b with
   | true=>rw [hb] at h; cases h
   | false=>rw [hb] at h; exact h
set_option maxHeartbeats 1000000 in
theorem cd3 {c : Cx} {o : Out} {G : Gh} (bs : List Nat) (t : Nat) (hmo : c.P.follows .mixedOrders = true) (hc : c.Ok) (hd : isDrawn o t = true)
  (h : Hd c (hideO bs o.st) G (drawnOps o) (fun acc=>∀ η,Run c ⟨.ops (drawnOps o) ((drawnOps o).drop t),o.k,⟨frH (hideO bs o.st) acc η,stoHp η acc ((hideO bs o.st).hp ++ accNw η acc)⟩,[]⟩ (accG G η acc)) [] ((drawnOps o).take t)) : Run c o G:=by
 refine ⟨fun β0 ρ w hS0 hw0 hG0=>?_⟩
 obtain ⟨cur,k,st0,vc⟩:=o
 unfold isDrawn at hd
 cases cur with
 | ops all r=>cases hd
 | ex e=>cases hd
 | code x=>
 cases x with
 | region id ops d=>
  simp only [Bool.and_eq_true] at hd
  obtain ⟨⟨rfl,hnh⟩,hchk⟩:=hd
  have e0 : drawnOps ⟨.code (.region id ops true),k,st0,vc⟩ = ops.toList:=rfl
  rw [e0] at h
  replace h:=h.run
  show Wp c.P c.n (.region id ops true) (kQ c.P c.n c.Q k) ρ w
  rw [show ops = ops.toList.toArray by simp]
  generalize ops.toList = l at h hchk
  simp only [drawOkS,Bool.and_eq_true,Bool.or_eq_true] at hchk
  obtain ⟨⟨⟨⟨⟨c1,c2⟩,c3⟩,c4⟩,c5⟩,c6⟩:=hchk
  have htl : t ≤ l.length:=Nat.le_of_ble_eq_true c3
  have htk : (l.take t).length = t:=by rw [List.length_take]; omega
  obtain ⟨L,hL,hK,hO⟩:=ce3 _ _ h
  rw [htk] at hL
  simp only [List.append_nil] at hK hO
  have hfull : accAt L t = L.reverse:=by unfold accAt; rw [List.take_of_length_le (by omega)]
  have hget : ∀ k (hk : k < t),(l.take t)[k]'(by omega) = l[k]:=fun k hk=>by simp
  have hHd0:=ae2 _ _ _ c1
  have hHd : ∀ k (hk : k < t),HOkR (((List.range k).map fun j=>(0 + j,((l.take t)[j]?.bind (·.dst)))).reverse ++ []) (0 + k) ((l.take t)[k]'(by omega)):=fun k hk=>hHd0 k (by omega)
  have hLt:=Z3 _ c2
  unfold Wp
  intro hcd D act hmt
  simp only [codeOk,List.all_eq_true] at hcd
  refine wp_region_any hmo ?_
  have hd1 : Ext w { w with drawn:=w.drawn + 1 }:=ag4 w
  have hsz : l.toArray.size = t + (l.length - t):=by simp; omega
  have hS1:=hS0.to hd1
  have hw:=hw0.trans (.of hd1)
  have hG1:=G.keep hG0 (.of hd1)
  generalize hw1 : ({ w with drawn:=w.drawn + 1 } : World) = w1 at hS1 hw hG1
  have hS : Sat c.bs (hideO bs st0) β0 ρ w1:=Sat.hide hS1
  have hG : G.p (Sof c.S0 β0 (hideO bs st0).hp) w1:=G.mono hG1 fun k _ h=>by5 k h
  have hB0 : ∀ (b : Nat) (T : TypeId) (l0 : List Ch),(hideO bs st0).hp[b]? = some (HE.hid T l0) → Blk w1 (β0 b) T (cellsL β0 l0):=fun b T l0 hb=>by
   rcases Q8 hb with h1 | ⟨T',c',h1,h2⟩
   ·exact absurd h1 (at7 hnh b T l0)
   ·cases h1
    exact (hS1.mem.blk b T l0 h2).1
  have hok0 : ∀ (b : Nat) (T : TypeId) (l0 : List Ch),(hideO bs st0).hp[b]? = some (HE.hid T l0) → ∀ ch ∈ l0,ch.Ok (hideO bs st0).hp.length:=fun b T l0 hb=>by
   rcases Q8 hb with h1 | ⟨T',c',h1,h2⟩
   ·exact absurd h1 (at7 hnh b T l0)
   ·cases h1
    rw [show (hideO bs st0).hp.length = st0.hp.length from aj1]
    exact (hS1.mem.blk b T l0 h2).2
  clear hS1 hG1
  dsimp only at h hK hO
  generalize hideO bs st0 = st at h hS hG hB0 hok0 hK hO
  have hrec : ∀ k (hk : k < t),∃ h,L[k]? = some h ∧ l[k].dst = h.d ∧ (∀ d,h.d = some d → Nat.blt d c.n = true) ∧ Loc c st G l (accAt L k) l[k] h:=by
   intro k hk
   obtain ⟨h,h1,h2⟩:=hO k (by omega)
   rw [hget k hk] at h2
   have h3 : l[k].dst = h.d:=by cases h <;> exact h2.1
   have h4:=hcd l[k] (by simp)
   refine ⟨h,h1,h3,fun d hd=>?_,h2⟩
   rw [hd] at h3
   simpa [dstOk,h3] using h4
  have hT : TgOk st t L:=by
   intro k b T l0 lf hk hg
   obtain ⟨h',h1,_,_,h2⟩:=hrec k hk
   rw [h1] at hg
   cases hg
   obtain ⟨_,h3,h4,_⟩:=h2
   rw [I9] at h4
   refine ⟨h4,fun k' T' l0' l' hk' hg'=>?_⟩
   have mem : ∀ j m,j < m → m ≤ L.length → ∀ r,L[j]? = some r → r ∈ accAt L m:=fun j m hjm hm r hr=>by
    rw [List.mem_reverse]
    refine List.mem_of_getElem? (i:=j) ?_
    rw [List.getElem?_take,if_pos hjm]
    exact hr
   rcases Nat.lt_trichotomy k' k with h | h | h
   ·exact absurd (mem k' k h (by omega) _ hg') (ba6 h3 _ _ _)
   ·exact h
   ·obtain ⟨h',h5,_,_,h6⟩:=hrec k' hk'
    rw [h5] at hg'
    cases hg'
    exact absurd (mem k k' h (by omega) _ h1) (ba6 h6.2.1 _ _ _)
  have hkp : ∀ {w' : World},Keeps (NTg t L β0) w1 w' → Keeps c.K c.w0 w':=fun kk=>Keeps.behind hw kk fun i hi hK k b T l0 lf hk hs e=>by
   have h1:=(hS.mem.low b _ (hT.mine hk hs)).1
   rw [← e] at h1
   rcases h1 with h1 | h1
   ·have h2 : c.w0.heap.size ≤ i:=h1
    omega
   ·exact h1 hK
  have hdk : ∀ k (hk : k < t) h,L[k]? = some h → l[k].dst = h.d:=by
   intro k hk h hh
   obtain ⟨h',h1,h2,_⟩:=hrec k hk
   rw [h1] at hh
   cases hh
   exact h2
  have hapart : ∀ j k (hj : j < t) (hk : k < t) d,j < k → l[j].dst = some d → l[k].dst ≠ some d:=by
   intro j k hj hk d hjk hd hd2
   have hne:=(hHd k hk).dst d (by rw [hget k hk,hd2])
   refine hne (0 + j,((l.take t)[j]?.bind (·.dst))) ?_ ?_
   ·refine List.mem_append_left _ (List.mem_reverse.2 (List.mem_map.2 ⟨j,List.mem_range.2 hjk,rfl⟩))
   ·rw [List.getElem?_eq_getElem (by omega)]
    simp only [Option.bind_some,hget j hj,hd]
  have huniq : ∀ j k (hj : j < t) (hk : k < t) d,l[j].dst = some d → l[k].dst = some d → j = k:=by
   intro j k hj hk d h1 h2
   rcases Nat.lt_trichotomy j k with h | h | h
   ·exact absurd h2 (hapart j k hj hk d h h1)
   ·exact h
   ·exact absurd h1 (hapart k j hk hj d h h2)
  let M:=st.hp.length + cnt (accAt L t)
  have hMle : st.hp.length ≤ M:=Nat.le_add_right _ _
  let lsd : Array Bool → Nat → Prop:=fun listed k=>listed.getD k false = true
  let Inv : Array Bool → Act → World → Prop:=fun listed a w'=>∃ ρ' v β,Mt c.n D a ρ' ∧ HInv c st G t M L β0 ρ w1 (lsd listed) ρ' v β w'
  have fin : ∀ listed a w',HeadInv .any l.toArray t listed → unl listed t = 0 → Inv listed a w' → wpAny c.P .any l.toArray (lift c.n D (kQ c.P c.n c.Q k)) (l.length - t) listed a w':=by
   rintro listed a w' inv h0 ⟨ρ',v,β,hm',hI⟩
   have hz:=ad9 h0
   have hcan : listed = canonListed t l.length:=by
    refine Array.ext (by rw [inv.size]; simp [canonListed]) fun i h1 h2=>?_
    have hsz2:=inv.size
    have hil : i < l.length:=by simpa [hsz2] using h1
    by_cases hit : i < t
    ·have h3:=hz i hit
     simp only [Array.getD,h1,dite_true] at h3
     have h4 : listed[i] = true:=h3
     simp [canonListed,h4,hit]
    ·have h3:=inv.tail i (by omega) (by simpa using hil)
     simp only [Array.getD,h1,dite_true] at h3
     have h4 : listed[i] = false:=h3
     simp [canonListed,h4]
     omega
   obtain ⟨hs1,hs2⟩:=hI.satS hS hT hw hL rfl fun k hk=>hz k hk
   have hrun:=(hK v).run β ρ' w' (by rw [hfull] at hs1; exact hs1) (hkp hI.ext) (by rw [hfull] at hs2; exact hs2)
   have hrun' : WpR c.P c.n l (kQ c.P c.n c.Q k) (l.drop t) ρ' w':=hrun
   unfold WpR at hrun'
   have hlen : (l.drop t).length = l.length - t:=by simp
   rw [← hlen]
   refine wpAny_of_seq (l.drop t) t listed a w' (fun j=>by simp) ?_ (hrun' ?_ _ a hm')
   ·rw [hcan,hlen]; exact c6
   ·rw [List.all_eq_true]
    intro o ho
    exact hcd o (by simpa using List.mem_of_mem_drop ho)
  have key : ∀ f listed a w',HeadInv .any l.toArray t listed → unl listed t = f → Inv listed a w' → wpAny c.P .any l.toArray (lift c.n D (kQ c.P c.n c.Q k)) (f + (l.length - t)) listed a w':=by
   intro f
   induction f with
   | zero=>intro listed a w' inv h0 hI; rw [Nat.zero_add]; exact fin listed a w' inv h0 hI
   | succ f ih=>
    intro listed a w' inv hf hI
    rw [show f + 1 + (l.length - t) = (f + (l.length - t)) + 1 by omega]
    obtain ⟨i0,hi0,hl0,hlow⟩:=al0 (show unl listed t ≠ 0 by omega)
    have hsz2:=inv.size
    have hsz3 : listed.size = l.length:=by simpa using hsz2
    have hr0 : i0 ∈ Region.ready .any l.toArray listed:=by
     rw [mem_ready]
     refine ⟨getD_in (by omega) hl0,l[i0],by simp,fun e he hb=>hlow _ ?_⟩
     have:=(hHd i0 hi0).low e (by rw [hget i0 hi0]; exact he) hb
     omega
    refine ⟨fun he=>absurd (he ▸ hr0) (by simp),fun i hi=>?_⟩
    have hit : i < t:=by
     rcases Nat.lt_or_ge i t with h | h
     ·exact h
     ·rcases c4 with c4 | c4
      ·have e:=Nat.eq_of_beq_eq_true c4
       obtain ⟨_,oi,hoi,_⟩:=mem_ready.1 hi
       have h2:=(Array.getElem?_eq_some_iff.1 hoi).1
       simp at h2
       omega
      ·have htl2 : t < l.length:=by
        obtain ⟨_,oi,hoi,_⟩:=mem_ready.1 hi
        have h2:=(Array.getElem?_eq_some_iff.1 hoi).1
        simp at h2
        omega
       exact absurd hi (tail_waits c4 c5 (by simpa using htl2) inv _ i0 rfl hi0 (mem_ready.1 hr0).1 i h)
    obtain ⟨hun,oi,hoi,hdep⟩:=mem_ready.1 hi
    have hoi' : l[i] = oi:=by simpa [hit,show i < l.length by omega] using hoi
    obtain ⟨ρ',v,β,hm',hI⟩:=hI
    obtain ⟨hr,h1,h2,h3,h4⟩:=hrec i hit
    have hH:=hHd i hit
    rw [hget i hit] at hH
    have hnl : ¬ lsd listed i:=fun e=>by
     have:=getD_both hun
     have e' : listed.getD i false = true:=e
     rw [this] at e'
     cases e'
    have hdl : ∀ k,hasEdge l[i].after.toList k = true → lsd listed k:=by
     intro k hk
     obtain ⟨ed,h5,h6,h7⟩:=W1 hk
     rw [← h7]
     exact hdep ed (by rw [← hoi']; exact Array.mem_toList_iff.1 h5) h6
    have hwait : ∀ k (hk : k < t),k < i → ∀ s,l[k].dst = some s → (s ∈ operTmps l[i] ∨ ∃ b,l[i].guard = some (k,b)) → lsd listed k:=by
     intro k hk hki s hks hor
     have h5:=hH.deps (0 + k,((l.take t)[k]?.bind (·.dst))) (List.mem_append_left _ (List.mem_reverse.2 (List.mem_map.2 ⟨k,List.mem_range.2 hki,rfl⟩))) s (by
      rw [List.getElem?_eq_getElem (by omega)]
      simp only [Option.bind_some,hget k hk,hks])
     rcases h5 with h5 | h5
     ·exact hdl k (by simpa using h5)
     ·rcases hor with h6 | ⟨b,h6⟩
      ·exact absurd h6 h5.1
      ·exact absurd (by omega) (h5.2 k b h6)
    have hslot : ∀ s,s ∈ operTmps l[i] → ∀ k,k < t → ∀ h,L[k]? = some h → h.d = some s → k < i ∧ lsd listed k:=by
     intro s hso k hk h hh he
     have hks:=(hdk k hk h hh).trans he
     have hki : k < i:=by
      rcases Nat.lt_or_ge k i with h' | h'
      ·exact h'
      ·have:=hLt i k (by omega) (by omega) h' s (by rw [hget k hk]; exact hks)
       rw [hget i hit] at this
       exact absurd hso this
     exact ⟨hki,hwait k hk hki _ hks (.inl hso)⟩
    have hgslot : ∀ j b,l[i].guard = some (j,b) → ∀ g,dstAt l j = some g → ∀ k,k < t → ∀ h,L[k]? = some h → h.d = some g → k < i ∧ lsd listed k:=by
     intro j b hg g hgd k hk h hh he
     have hks:=(hdk k hk h hh).trans he
     have hji:=hH.guard j b hg
     have hjt : j < t:=by omega
     have hjs : l[j].dst = some g:=by
      unfold dstAt at hgd
      rw [List.getElem?_eq_getElem (by omega)] at hgd
      simpa using hgd
     obtain rfl:=huniq k j hk hjt _ hks hjs
     exact ⟨by omega,hwait k hk (by omega) _ hks (.inr ⟨b,hg⟩)⟩
    have hkn : ∀ {η' β'},Comp st t L β0 (lsd listed) v β η' β' → OpsKn β' M (frH st (accAt L i) η') (ev ρ') l[i].op:=by
     intro η' β' hcp x hx
     refine W8 fun s hxs=>aw8 hS hMle hI (by omega) (by omega) (hslot s ?_) hcp
     subst hxs
     exact List.mem_filterMap.2 ⟨.tmp s,hx,rfl⟩
    have hgk : ∀ {η' β'},Comp st t L β0 (lsd listed) v β η' β' → ∀ j b,l[i].guard = some (j,b) → ∀ g,dstAt l j = some g → Kn β' M (look (frH st (accAt L i) η') g) (ρ' g):=by
     intro η' β' hcp j b hg g hgd
     exact aw8 hS hMle hI (by omega) (by omega) (hgslot j b hg g hgd) hcp
    have hdeps : ∀ {η' β'},Comp st t L β0 (lsd listed) v β η' β' → depsH (accAt L i) l[i].after.toList η' (SL c st t L β0 (lsd listed) β) w':=by
     refine fun {η' β'} hcp=>⟨fun j hj=>?_⟩
     refine cm8 fun n d p Δ r hdr hrl=>?_
     obtain ⟨k,hk,h5,h6⟩:=ae5 (by omega) hdr
     have hkj : k = j:=by rw [← hrl,h6,N7 (by omega)]
     subst hkj
     have hlk:=hdl k hj
     rw [hcp.res k (by omega) hlk d p Δ h5]
     exact hI.spec k (by omega) hlk d p Δ h5
    have hSL0 : ∀ b,SL c st t L β0 (lsd listed) β b → c.S0 b:=fun b q=>q.1.1
    have hw':=hkp hI.ext
    have hcv:=hI.comp
    have hu : ∀ d,hr.d = some d → ∀ k,k < t → ∀ h,L[k]? = some h → h.d = some d → k = i:=fun d hd k hk h hh he=>huniq k i hk hit d ((hdk k hk h hh).trans he) (h2.trans hd)
    have hset : lsd (listed.setIfInBounds i true) = fun k=>k = i ∨ lsd listed k:=by
     funext k
     refine propext ⟨fun q=>?_,fun q=>?_⟩
     ·by_cases e : k = i
      ·exact .inl e
      ·refine .inr ?_
       have q' : (listed.setIfInBounds i true).getD k false = true:=q
       rw [getD_set_ne false (fun e'=>e e'.symm)] at q'
       exact q'
     ·show (listed.setIfInBounds i true).getD k false = true
      by_cases e : i = k
      ·subst e
       simp [show i < listed.size by omega]
      ·rw [getD_set_ne false e]
       rcases q with e' | q
       ·exact absurd e'.symm e
       ·exact q
    have hnext0 : ∀ x ρ2 w2 v2 β2,Mt c.n D (a.put l[i].dst x) ρ2 → HInv c st G t M L β0 ρ w1 (fun k=>k = i ∨ lsd listed k) ρ2 v2 β2 w2 → wpAny c.P .any l.toArray (lift c.n D (kQ c.P c.n c.Q k)) (f + (l.length - t)) (listed.setIfInBounds i true) (a.put l[i].dst x) w2:=by
     intro x ρ2 w2 v2 β2 hm2 hI2
     refine ih _ _ _ (inv.set hi hit) ?_ ⟨ρ2,v2,β2,hm2,hset ▸ hI2⟩
     rw [ay7 (by omega) (getD_both hun),if_pos hit]; omega
    have hnext : ∀ d,hr.d = some d → ∀ x w2 v2 β2,HInv c st G t M L β0 ρ w1 (fun k=>k = i ∨ lsd listed k) (upd ρ' d x) v2 β2 w2 → wpAny c.P .any l.toArray (lift c.n D (kQ c.P c.n c.Q k)) (f + (l.length - t)) (listed.setIfInBounds i true) (a.put l[i].dst x) w2:=by
     intro d hd x w2 v2 β2 hI2
     refine hnext0 x _ w2 v2 β2 ?_ hI2
     rw [h2,hd]
     exact hm'.put (h3 d hd) x
    have hio : (l.toArray)[i]? = some l[i]:=by simp
    unfold wpOp
    simp only [hio]
    cases hr with
    | val d sv=>
     obtain ⟨_,hv1⟩:=h4
     have hall : ∀ {η' β'},Comp st t L β0 (lsd listed) v β η' β' → (sv η').Ok M ∧ ((Region.wanted l[i] (yielded l.toArray a.tmps) = true ∧ (execOp (ev ρ') l[i]).run c.P w' = .ok (.value ((sv η').den β')) w') ∨ (Region.wanted l[i] (yielded l.toArray a.tmps) = false ∧ (sv η').den β' = undef)):=by
      intro η' β' hcp
      obtain ⟨s,vc',h5,h6⟩:=hv1 η'
      obtain ⟨h7,h8⟩:=h6 _ w' hw' hSL0 hI.gh (hdeps hcp)
      have hMm : Mem c.bs st.hp β' w':=(hT.mem hS.mem hI.ext).congr hcp.old
      obtain ⟨h9,h10⟩:=ca1 hc.env hMle hm' hMm (hkn hcp) (hgk hcp) h5 h7
      obtain ⟨e1,e2⟩:=h8 β'
      rw [e1] at h10
      exact ⟨e2 M h9,h10⟩
     obtain ⟨g1,g2⟩:=hall hcv
     rcases g2 with ⟨g2,g3⟩ | ⟨g2,g3⟩
     ·rw [if_pos g2]
      left
      unfold Oper.wp
      rw [hm'.eval,g3]
      refine hnext d rfl _ w' v β (hI.put hit h1 (hu d rfl) fun η' β' hcp=>?_)
      obtain ⟨g4,g5⟩:=hall hcp
      refine ⟨?_,g4⟩
      rcases g5 with ⟨_,g5⟩ | ⟨g5,_⟩
      ·rw [g3] at g5
       simpa using g5
      ·rw [g2] at g5; cases g5
     ·rw [if_neg (by rw [g2]; simp)]
      have g6:=hnext d rfl undef w' v β (hI.put hit h1 (hu d rfl) fun η' β' hcp=>?_)
      ·exact g6
      ·obtain ⟨g4,g5⟩:=hall hcp
       refine ⟨?_,g4⟩
       rcases g5 with ⟨g5,_⟩ | ⟨_,g5⟩
       ·rw [g2] at g5; cases g5
       ·exact g5.symm
    | mk d T lc=>
     obtain ⟨_,hv1⟩:=h4
     have hall : ∀ {η' β'},Comp st t L β0 (lsd listed) v β η' β' → (∀ ch ∈ lc η',ch.Ok M) ∧ (execOp (ev ρ') l[i]).run c.P w' = .ok (.value (.pointer (some ⟨w'.heap.size,0,none⟩))) (w'.alloc (.cells (cellsL β' (lc η')).toArray T)):=by
      intro η' β' hcp
      obtain ⟨g1,g2⟩:=cc4 (P:=c.P) (w:=w') (ty:=l[i].type) hc.env (hkn hcp) (hv1 η').2
      exact ⟨g1,g2 _ _ _ _⟩
     obtain ⟨g1,g2⟩:=hall hcv
     rw [if_pos (O9 hm' (hgk hcv) (hv1 v).1)]
     left
     unfold Oper.wp
     rw [hm'.eval,g2]
     refine hnext d rfl _ _ v _ (hI.new hS hL hit hnl h1 (hu d rfl) ?_ fun η' β' hcp=>?_)
     ·have:=bh5 (L:=L) (i:=t) (by omega) hit h1
      show st.hp.length + cnt (accAt L i) < st.hp.length + cnt (accAt L t)
      omega
     ·obtain ⟨g3,g4⟩:=hall hcp
      refine ⟨?_,g3⟩
      rw [g2] at g4
      simp only [Result.ok.injEq,true_and] at g4
      have g5:=congrArg (fun w : World=>w.heap[w'.heap.size]?) g4
      simp only [heap_alloc_new] at g5
      simpa using g5
    | st k0 lv=>
     obtain ⟨hdn,he0,hprev,d0,T0,lc0,hmk0,hv1⟩:=h4
     have hki : k0 < i:=by
      have h5:=(List.getElem?_eq_some_iff.1 hmk0).1
      simp at h5
      omega
     have hback : ∀ j,j < i → (accAt L i).reverse[j]? = L[j]?:=fun j hj=>by
      unfold accAt
      rw [List.reverse_reverse,List.getElem?_take,if_pos hj]
     have hL0 : L[k0]? = some (.mk d0 T0 lc0):=by rw [← hback k0 hki]; exact hmk0
     have hlk:=hdl k0 he0
     have hord : ∀ j l',j < t → L[j]? = some (HRec.st k0 l') → (lsd listed j ↔ j < i):=by
      intro j l' hj hg
      refine ⟨fun hlj=>?_,fun hji=>hdl j (hprev j l' (by rw [hback j hji]; exact hg))⟩
      rcases Nat.lt_trichotomy j i with h | h | h
      ·exact h
      ·exact absurd (h ▸ hlj) hnl
      ·exact absurd ((hI.stl j hj hlj k0 l' hg).2 i lv h h1) hnl
     have hdrop : (accAt L i).drop ((accAt L i).length - k0) = accAt L k0:=by
      have h5:=ad3 (by omega) hki hL0
      rw [N7 (by omega)]
      have h6:=congrArg (List.drop 1) h5
      rw [List.drop_drop] at h6
      rw [show i - k0 = i - 1 - k0 + 1 by omega]
      simpa using h6
     obtain ⟨m1,m2,lf,hC,m3⟩:=hI.made k0 (by omega) hlk d0 T0 lc0 hL0
     have hcur:=hC.eq (show i ≤ L.length by omega) (by omega) hord
     have hidx : idxOf st L k0 = st.hp.length + cnt (accAt L k0):=rfl
     have hall : ∀ {η' β'},Comp st t L β0 (lsd listed) v β η' β' → (∀ ch ∈ lv η',ch.Ok M) ∧ ∃ w2,Wrt (β (idxOf st L k0)) w' w2 ∧ Blk w2 (β (idxOf st L k0)) T0 (cellsL β' (lv η')) ∧ (execOp (ev ρ') l[i]).run c.P w' = .ok .skip w2:=by
      intro η' β' hcp
      obtain ⟨b1,b2⟩:=m3 η' β' hcp
      have e1 : β' (idxOf st L k0) = β (idxOf st L k0):=hcp.blk k0 (by omega) hlk d0 T0 lc0 hL0
      have h5:=(hv1 η').2
      rw [hcur,hdrop,← hidx] at h5
      obtain ⟨g1,w2,g2,g3,g4⟩:=a71 (P:=c.P) (ty:=l[i].type) hc.env (hkn hcp) b2 (e1 ▸ b1) h5
      rw [e1] at g2 g3
      exact ⟨g1,w2,g2,g3,g4 _ _ _ _⟩
     obtain ⟨g1,w2,g2,g3,g4⟩:=hall hcv
     rw [if_pos (O9 hm' (hgk hcv) (hv1 v).1)]
     left
     unfold Oper.wp
     rw [hm'.eval,g4]
     refine hnext0 undef ρ' w2 v β (by rw [h2]; exact hm') (hI.store hS hT hit (by omega) hlk h1 hL0 hord g2 fun η' β' hcp=>?_)
     obtain ⟨g5,w3,g6,g7,g8⟩:=hall hcp
     rw [g4] at g8
     simp only [Result.ok.injEq,true_and] at g8
     subst g8
     exact ⟨g7,g5⟩
    | sto b T0 l0 lv=>
     obtain ⟨hdn,hmn,hnt,hv1⟩:=h4
     have hm:=hT.mine (β0:=β0) hit h1
     have hb0:=((hI.sto i hit b T0 l0 lv h1).1 hnl)
     have hbl : b < st.hp.length:=(List.getElem?_eq_some_iff.1 (hT i b T0 l0 lv hit h1).1).1
     have hall : ∀ {η' β'},Comp st t L β0 (lsd listed) v β η' β' → (∀ ch ∈ lv η',ch.Ok M) ∧ ∃ w2,Wrt (β0 b) w' w2 ∧ Blk w2 (β0 b) T0 (cellsL β' (lv η')) ∧ (execOp (ev ρ') l[i]).run c.P w' = .ok .skip w2:=by
      intro η' β' hcp
      have e1 : β' b = β0 b:=hcp.old b hbl
      have hb1 : Blk w' (β' b) T0 (cellsL β' l0):=by
       rw [e1,E6 (m:=st.hp.length) hcp.old (hok0 b T0 l0 (hT i b T0 l0 lv hit h1).1)]
       exact hb0
      obtain ⟨g1,w2,g2,g3,g4⟩:=a71 (P:=c.P) (ty:=l[i].type) hc.env (hkn hcp) (fun ch hch=>(hok0 b T0 l0 (hT i b T0 l0 lv hit h1).1 ch hch).le hMle) hb1 (hv1 η').2
      rw [e1] at g2 g3
      exact ⟨g1,w2,g2,g3,g4 _ _ _ _⟩
     obtain ⟨g1,w2,g2,g3,g4⟩:=hall hcv
     rw [if_pos (O9 hm' (hgk hcv) (hv1 v).1)]
     left
     unfold Oper.wp
     rw [hm'.eval,g4]
     refine hnext0 undef ρ' w2 v β (by rw [h2]; exact hm') (hI.stoT hS hT hit h1 g2 fun η' β' hcp=>?_)
     obtain ⟨g5,w3,g6,g7,g8⟩:=hall hcp
     rw [g4] at g8
     simp only [Result.ok.injEq,true_and] at g8
     subst g8
     exact ⟨g7,g5⟩
    | same=>
     obtain ⟨hdn,hv1⟩:=h4
     obtain ⟨g1,g2⟩:=hv1 v
     have g4:=g2 β ρ' w' M (hkn hcv) ((hT.mem hS.mem hI.ext).congr hcv.old)
     rw [if_pos (O9 hm' (hgk hcv) g1)]
     left
     unfold Oper.wp
     rw [hm'.eval,g4]
     exact hnext0 undef ρ' w' v β (by rw [h2]; exact hm') (hI.same h1)
    | spec d p Δ=>
     obtain ⟨_,hv1⟩:=h4
     obtain ⟨g1,g2⟩:=hv1 v
     have hup : Up (SL c st t L β0 (lsd listed) β) w':=fun b hb=>⟨⟨hc.up b (Nat.le_trans hw'.size hb),fun j hj=>by
       have q1:=(hS.mem.low j b hj).2
       have q2:=hI.ext.size
       omega⟩,fun j hj hlj d' T lc hg=>by
       have q1:=(hI.made j hj hlj d' T lc hg).2.1
       omega⟩
     have g3:=g2 β _ w' ρ' M (hkn hcv) hup ((hT.mem hS.mem hI.ext).congr hcv.old) hSL0 hw' hI.gh (hdeps hcv)
     rw [if_pos (O9 hm' (hgk hcv) g1)]
     left
     unfold Oper.wp
     rw [hm'.eval]
     unfold OpRun at g3
     split at g3
     ·rename_i x w2 hx
      rw [hx]
      obtain ⟨q1,q2,q3,q4⟩:=g3
      exact hnext d rfl x w2 _ β (hI.res hit hnl h1 (hu d rfl) q1 q2 q3 q4)
     ·rename_i f' args w2 hx
      rw [hx]
      show Calls _ _ _ _ _
      unfold GivesE at g3
      rw [Array.toArray_toList] at g3
      have hw2 : w2 = w2:=rfl
      refine Calls.mono g3 fun e w3 he=>?_
      cases e with
      | returned x=>
       obtain ⟨q1,q2,q3,q4⟩:=he
       exact hnext d rfl x w3 _ β (hI.res hit hnl h1 (hu d rfl) q1 q2 q3 q4)
      | panicked ch=>exact ⟨ρ',hm',ag9 (he ρ')⟩
      | outgrown=>exact he.elim
     ·exact g3.elim
  have hs:=key t (Array.replicate l.toArray.size false) act w1
   ⟨by simp,fun j oj _ hl=>(by rw [getD_replicate_false] at hl; cases hl),fun k _ hk=>getD_in (by simpa using hk) (getD_replicate_false _ _)⟩
   (a10 _ _ (by simp; omega)) ⟨ρ,fun _=>undef,β0,hmt,?_⟩
  ·rwa [← hsz] at hs
  ·have hno : ∀ k,¬ lsd (Array.replicate l.toArray.size false) k:=fun k e=>by
    have e' : (Array.replicate l.toArray.size false).getD k false = true:=e
    rw [getD_replicate_false] at e'
    cases e'
   refine ⟨.refl,fun _ _=>rfl,fun _ _=>rfl,fun k _ hk=>absurd hk (hno k),fun k _ hk=>absurd hk (hno k),fun k _ hk=>absurd hk (hno k),fun k _ _ _ hk=>absurd hk (hno k),G.mono hG fun b _ q=>⟨q,fun k _ hk=>absurd hk (hno k)⟩,fun k _ hk=>absurd hk (hno k),fun k hk b T l0 lf hg=>⟨fun _=>hB0 b T l0 (hT k b T l0 lf hk hg).1,fun hl=>absurd hl (hno k)⟩⟩
 | _=>cases hd
end Go.Proofs.YtpheooheinfbgaaGreatDoor
end
section
set_option linter.unusedVariables false
set_option linter.unusedSimpArgs false
namespace Go.Proofs.YtpheooheinfbgaaGreatDoor
open Go Go.RowKit
def effParts : Option Eff → List Ch
 | some (.mk _ l _)=>l
 | _=>[]
def η0 : Nat → Value:=fun _=>undef
def makes : Op → Option TypeId
 | .alloc T=>some T
 | .box T _=>some T
 | _=>none
def mkIdx (m0 b : Nat) : List HRec → Option (Nat × ((Nat → Value) → List Ch))
 | []=>none
 | .mk _ _ l :: r=>bif Nat.beq b (m0 + cnt r) then some (r.length,l) else mkIdx m0 b r
 | .val _ _ :: r=>mkIdx m0 b r
 | .spec _ _ _ :: r=>mkIdx m0 b r
 | .st _ _ :: r=>mkIdx m0 b r
 | .same :: r=>mkIdx m0 b r
 | .sto _ _ _ _ :: r=>mkIdx m0 b r
theorem b50 {m0 b k : Nat} {l : (Nat → Value) → List Ch} : ∀ {acc : List HRec},mkIdx m0 b acc = some (k,l) → ∃ n d T r,acc.drop n = .mk d T l :: r ∧ r.length = k ∧ b = m0 + cnt r:=by
 intro acc
 induction acc with
 | nil=>intro h; cases h
 | cons x r ih=>
  intro h
  have next : mkIdx m0 b r = some (k,l) → ∃ n d T q,(x :: r).drop n = .mk d T l :: q ∧ q.length = k ∧ b = m0 + cnt q:=fun h=>by
   obtain ⟨n,d,T,q,h1,h2⟩:=ih h
   exact ⟨n + 1,d,T,q,by simpa using h1,h2⟩
  cases x with
  | val d sv=>exact next h
  | spec d p Δ=>exact next h
  | st k l=>exact next h
  | same=>exact next h
  | sto _ _ _ _=>exact next h
  | mk d T lc=>
   simp only [mkIdx] at h
   cases hb : Nat.beq b (m0 + cnt r) with
   | false=>rw [hb] at h; exact next h
   | true=>
    rw [hb] at h
    simp only [cond_true,Option.some.injEq,Prod.mk.injEq] at h
    obtain ⟨rfl,rfl⟩:=h
    exact ⟨0,d,T,r,rfl,rfl,Nat.eq_of_beq_eq_true hb⟩
theorem cj6 {acc r : List HRec} {h : HRec} {n : Nat} (e : acc.drop n = h :: r) : acc.reverse[r.length]? = some h ∧ acc.drop (acc.length - r.length) = r:=by
 have hl:=congrArg List.length e
 simp only [List.length_drop,List.length_cons] at hl
 have h1 : acc[n]? = some h:=by
  have:=congrArg (fun l : List HRec=>l[0]?) e
  simpa using this
 refine ⟨?_,?_⟩
 ·rw [List.getElem?_reverse (by omega),show acc.length - 1 - r.length = n by omega]
  exact h1
 ·rw [show acc.length - r.length = n + 1 by omega,← List.drop_drop,e]
  rfl
def stDeps (k : Nat) (es : List Edge) : List HRec → Bool
 | []=>true
 | .st k' _ :: r=>(bif Nat.beq k' k then hasEdge es r.length else true) && stDeps k es r
 | .val _ _ :: r=>stDeps k es r
 | .spec _ _ _ :: r=>stDeps k es r
 | .mk _ _ _ :: r=>stDeps k es r
 | .same :: r=>stDeps k es r
 | .sto _ _ _ _ :: r=>stDeps k es r
theorem bo8 {k : Nat} {es : List Edge} : ∀ {acc : List HRec},stDeps k es acc = true → ∀ (j : Nat) l',acc.reverse[j]? = some (HRec.st k l') → hasEdge es j = true:=by
 intro acc
 induction acc with
 | nil=>intro _ j l' h; simp at h
 | cons x r ih=>
  intro h j l' hj
  rw [List.reverse_cons] at hj
  have next : stDeps k es r = true → j < r.length → hasEdge es j = true:=fun h hjr=>by
   rw [List.getElem?_append_left (by simpa using hjr)] at hj
   exact ih h j l' hj
  have hlast : ¬ j < r.length → j = r.length ∧ x = HRec.st k l':=fun hn=>by
   have h1:=(List.getElem?_eq_some_iff.1 hj).1
   simp at h1
   obtain rfl : j = r.length:=by omega
   simpa using hj
  rcases Nat.lt_or_ge j r.length with hjr | hjr
  ·cases x with
   | st k' l=>simp only [stDeps,Bool.and_eq_true] at h; exact next h.2 hjr
   | val d sv=>exact next h hjr
   | spec d p Δ=>exact next h hjr
   | mk d T lc=>exact next h hjr
   | same=>exact next h hjr
   | sto _ _ _ _=>exact next h hjr
  ·obtain ⟨rfl,rfl⟩:=hlast (by omega)
   simp only [stDeps,Bool.and_eq_true,Nat.beq_refl,cond_true] at h
   exact h.1
def storeAt (st : St) (acc : List HRec) : Op → Option (Nat × Nat × ((Nat → Value) → List Ch))
 | .store _ x _=>match opd (frH st acc η0) x with
  | some (.one (.ptr b _))=>(mkIdx st.hp.length b acc).map fun p=>(b,p)
  | _=>none
 | _=>none
theorem be5 {st : St} {acc : List HRec} {o : Op} {b k : Nat} {lc : (Nat → Value) → List Ch} (h : storeAt st acc o = some (b,k,lc)) : ∃ d T,acc.reverse[k]? = some (.mk d T lc) ∧ b = st.hp.length + cnt (acc.drop (acc.length - k)):=by
 unfold storeAt at h
 split at h <;> first | (cases h; done) | skip
 split at h <;> first | (cases h; done) | skip
 rename_i b' o' _
 cases hm : mkIdx st.hp.length b' acc with
 | none=>rw [hm] at h; cases h
 | some p=>
  rw [hm] at h
  simp only [Option.map_some,Option.some.injEq,Prod.mk.injEq] at h
  obtain ⟨rfl,rfl⟩:=h
  obtain ⟨n,d,T,r,h1,h2,h3⟩:=b50 hm
  obtain ⟨h4,h5⟩:=cj6 h1
  subst h2
  exact ⟨d,T,h4,by rw [h5]; exact h3⟩
noncomputable def hstep (E : Env) (all : List Oper) (st : St) (acc : List HRec) (o : Oper) : HRec:=
 match storeAt st acc o.op with
 | some (b,k,lc)=>.st k (fun η=>(effSt E (frH st acc η) b (((stOf acc k).getD lc) η) o.op).getD [])
 | none=>match makes o.op,guardRun all (frH st acc η0) o with
  | some T,true=>.mk (o.dst.getD 0) T (fun η=>effParts (effM E (frH st acc η) (st.hp.length + cnt acc) o.op))
  | _,_=>.val (o.dst.getD 0) (fun η=>match hval E st.hp all (frH st acc η) o with | some (s,_)=>s | none=>.und)
noncomputable def okStep (E : Env) (all : List Oper) (st : St) (acc : List HRec) (o : Oper) (η : Nat → Value) : Bool:=
 match storeAt st acc o.op with
 | some (b,k,lc)=>o.dst.isNone && hasEdge o.after.toList k && stDeps k o.after.toList acc && guardRun all (frH st acc η) o && (effSt E (frH st acc η) b (((stOf acc k).getD lc) η) o.op).isSome
 | none=>o.dst.isSome && match makes o.op,guardRun all (frH st acc η0) o with
  | some _,true=>guardRun all (frH st acc η) o && (match effM E (frH st acc η) (st.hp.length + cnt acc) o.op with | some _=>true | none=>false)
  | _,_=>match hval E st.hp all (frH st acc η) o with | some (_,[])=>true | _=>false
noncomputable def hrecs (E : Env) (all : List Oper) (st : St) : Nat → List HRec → List Oper → List HRec
 | 0,acc,_=>acc
 | _ + 1,acc,[]=>acc
 | n + 1,acc,o :: r=>hrecs E all st n (hstep E all st acc o :: acc) r
noncomputable def okSteps (E : Env) (all : List Oper) (st : St) (η : Nat → Value) : Nat → List HRec → List Oper → Bool
 | 0,_,_=>true
 | _ + 1,_,[]=>false
 | n + 1,acc,o :: r=>okStep E all st acc o η && okSteps E all st η n (hstep E all st acc o :: acc) r
theorem bm9 {E : Env} {fr : List (Nat × SV)} {k : Nat} {o : Op} {e : Eff} (h : effM E fr k o = some e) : ∃ T l,makes o = some T ∧ e = .mk T l (.one (.ptr k 0)):=by
 unfold effM at h
 split at h
 ·obtain ⟨h1,T',l,s,rfl⟩:=F1 h
  unfold effAlloc at h1
  cases ht : E.get _ with
  | none=>rw [ht] at h1; cases h1
  | some ti=>rw [ht] at h1; simp only [Option.map_some,Option.some.injEq,Eff.mk.injEq] at h1; obtain ⟨rfl,rfl,rfl⟩:=h1; exact ⟨_,_,rfl,rfl⟩
 ·obtain ⟨h1,T',l,s,rfl⟩:=F1 h
  unfold effBox at h1
  split at h1 <;> first | (cases h1; done) | skip
  rename_i xv _
  cases hc : SV.chunks xv with
  | none=>rw [hc] at h1; cases h1
  | some l2=>rw [hc] at h1; simp only [Option.map_some,Option.some.injEq,Eff.mk.injEq] at h1; obtain ⟨rfl,rfl,rfl⟩:=h1; exact ⟨_,_,rfl,rfl⟩
 ·cases h
section
variable {c : Cx} {st : St} {G : Gh} {all : List Oper} {K : List HRec → Prop} {acc : List HRec} {ops : List Oper}
theorem bm4 {o : Oper} (h : ∀ η,okStep c.E all st acc o η = true) : Loc c st G all acc o (hstep c.E all st acc o):=by
 unfold okStep at h
 unfold hstep
 cases hsa : storeAt st acc o.op with
 | some p=>
  obtain ⟨b,k,lc⟩:=p
  simp only [hsa,Bool.and_eq_true] at h
  obtain ⟨d,T,h1,h2⟩:=be5 hsa
  have h0:=h η0
  refine ⟨by simpa using h0.1.1.1.1,h0.1.1.1.2,bo8 h0.1.1.2,d,T,lc,h1,fun η=>⟨(h η).1.2,?_⟩⟩
  rw [← h2]
  have h3:=(h η).2
  cases he : effSt c.E (frH st acc η) b (((stOf acc k).getD lc) η) o.op with
  | none=>rw [he] at h3; cases h3
  | some l=>simp [he]
 | none=>
 simp only [hsa] at h
 have hd : o.dst = some (o.dst.getD 0):=by
  have:=h η0
  simp only [Bool.and_eq_true] at this
  cases hx : o.dst with
  | none=>rw [hx] at this; cases this.1
  | some d=>rfl
 have plain : (∀ η,(match hval c.E st.hp all (frH st acc η) o with | some (_,[])=>true | _=>false) = true) →
   Loc c st G all acc o (.val (o.dst.getD 0) (fun η=>match hval c.E st.hp all (frH st acc η) o with | some (s,_)=>s | none=>.und)):=by
  intro h2
  refine ⟨hd,fun η=>?_⟩
  have h3:=h2 η
  split at h3 <;> first | (cases h3; done) | skip
  rename_i s he
  exact ⟨s,[],he,fun S w _ _ _ _=>⟨trivial,fun β=>by simp only [he]; exact ⟨trivial,fun m hm=>hm⟩⟩⟩
 cases hm : makes o.op with
 | none=>
  simp only [hm,Bool.and_eq_true] at h
  exact plain fun η=>(h η).2
 | some T=>
  cases hg : guardRun all (frH st acc η0) o with
  | false=>
   simp only [hm,hg,Bool.and_eq_true] at h
   exact plain fun η=>(h η).2
  | true=>
   simp only [hm,hg,Bool.and_eq_true] at h
   refine ⟨hd,fun η=>⟨(h η).2.1,?_⟩⟩
   have h2:=(h η).2.2
   split at h2 <;> first | (cases h2; done) | skip
   rename_i e he
   obtain ⟨T',l,h3,rfl⟩:=bm9 he
   rw [hm] at h3
   simp only [Option.some.injEq] at h3
   subst h3
   simp only [he,effParts]
theorem i1 (n : Nat) (h : ∀ η,okSteps c.E all st η n acc ops = true) (k : Hd c st G all K (hrecs c.E all st n acc ops) (ops.drop n)) : Hd c st G all K acc ops:=by
 induction n generalizing acc ops with
 | zero=>exact k
 | succ n ih=>
  cases ops with
  | nil=>have:=h η0; cases this
  | cons o r=>
   simp only [okSteps,Bool.and_eq_true] at h
   exact ⟨⟨_,bm4 fun η=>(h η).1,(ih (fun η=>(h η).2) k).run⟩⟩
def opH (ops : List Oper) : Oper := match ops with | o :: _ => o | [] => ⟨none, .alloc 0, 0, "", #[], none⟩
def hOut (st : St) (acc : List HRec) (ops : List Oper) (η : Nat → Value) : Out:=⟨.ops [] [⟨(opH ops).dst,(opH ops).op,(opH ops).type,(opH ops).pos,(opH ops).after,none⟩],[],⟨frH st acc η,st.hp⟩,[]⟩
def isCallH (all : List Oper) (st : St) (acc : List HRec) (ops : List Oper) (f : FuncId) (η : Nat → Value) : Bool:=isCall f (hOut st acc ops η) && guardRun all (frH st acc η) (opH ops) && !ops.isEmpty
theorem bt0 {o : Out} {f : FuncId} {all : List Oper} {o1 : Oper} {r : List Oper} (hf : isCall f o = true) (hcur : o.cur = .ops all (o1 :: r)) : o1.dst = some (o1.dst.getD 0):=by
 unfold isCall at hf
 cases hco : callOf o.st o.cur with
 | none=>rw [hco] at hf; cases hf
 | some x=>
  rw [hcur] at hco
  unfold callOf at hco
  simp only at hco
  split at hco <;> first | (cases hco; done) | skip
  rename_i d' cl hg hd hop
  rw [hd]
  rfl
theorem bl6 {o : Out} {f : FuncId} [ci : CallI c.P f] {β : Nat → Nat} {F : Fr} {w : World} {m : Nat} {all : List Oper} {o1 : Oper} {r : List Oper} (hf : isCall f o = true) (hcur : o.cur = .ops all (o1 :: r)) (hk : OpsKn β m o.st.fr (ev F) o1.op) :
  ∀ d pos aft g,(execOp (ev F) ⟨d,o1.op,o1.type,pos,aft,g⟩).run c.P w = .ok (.enter f ((callArgs o).map (SV.den β)).toArray) w:=by
 unfold isCall at hf
 cases hco : callOf o.st o.cur with
 | none=>rw [hco] at hf; cases hf
 | some x=>
  obtain ⟨g,l,d⟩:=x
  rw [hco] at hf
  obtain rfl : g = f:=Nat.eq_of_beq_eq_true hf
  have hargs : callArgs o = l:=by unfold callArgs; rw [hco]
  rw [hcur] at hco
  unfold callOf at hco
  simp only at hco
  split at hco <;> first | (cases hco; done) | skip
  rename_i d' cl hg hd hop
  split at hco <;> first | (cases hco; done) | skip
  rename_i x hcl
  split at hco <;> first | (cases hco; done) | skip
  rename_i f' cap hx
  split at hco <;> first | (cases hco; done) | skip
  rename_i l' hl
  simp only [Option.some.injEq,Prod.mk.injEq] at hco
  obtain ⟨rfl,rfl,rfl⟩:=hco
  rw [hop] at hk
  have hmem : ∀ y,y = x ∨ y ∈ cl.args.toList → y ∈ (Op.call cl).operands.toList:=by
   intro y hy
   simp only [Op.operands,Call.operands,hcl,Array.toList_append,List.mem_append]
   rcases hy with rfl | hy
   ·left; simp
   ·exact .inr hy
  have h1:=(hk x (hmem x (.inl rfl)) _ hx).1
  have h2 : cl.args.toList.map (ev F) = l'.map (SV.den β):=by
   have aux : ∀ (xs : List Operand) (l : List SV),(∀ y ∈ xs,y ∈ cl.args.toList) → allSV (xs.map (opd o.st.fr)) = some l → xs.map (ev F) = l.map (SV.den β):=by
    intro xs
    induction xs with
    | nil=>intro l _ h; simp only [List.map_nil,allSV,Option.some.injEq] at h; subst h; rfl
    | cons x r ih=>
     intro l hm h
     simp only [List.map_cons,allSV] at h
     split at h <;> first | (cases h; done) | skip
     rename_i s l' e1 e2
     simp only [Option.some.injEq] at h
     subst h
     rw [List.map_cons,List.map_cons,ih l' (fun y hy=>hm y (List.mem_cons_of_mem _ hy)) e2,(hk x (hmem x (.inr (hm x (List.mem_cons_self ..)))) _ e1).1]
   exact aux _ _ (fun y hy=>hy) hl
  intro d pos aft g
  rw [hargs,List.map_append,av8,← h2,hop]
  obtain ⟨callee,args,ts⟩:=cl
  simp only at hcl
  subst hcl
  simp [execOp,resolve,Deferred.ofValue,h1,SV.den,Ch.den,invoke,ci.run]
theorem b51 (f : FuncId) [ci : CallI c.P f] (p : Value → SV) (Δ : Value → Gh) (hf : ∀ η,isCallH all st acc ops f η = true)
  (h : ∀ β η S w,Up S w → (∀ k,S k → c.S0 k) → Keeps c.K c.w0 w → G.p S w → depsH acc (opH ops).after.toList η S w → ∃ args,(callArgs (hOut st acc ops η)).map (SV.den β) = args ∧
   GivesE c.P f args w (fun v w'=>Ext w w' ∧ v = (p v).den (fun _=>0) ∧ (p v).Ok 0 ∧ (Δ v).p S w') fun ch w'=>∀ ρ,c.Q (.panic ch) ρ w')
  (k : Hd c st G all K (.spec ((opH ops).dst.getD 0) p Δ :: acc) (ops.drop 1)) : Hd c st G all K acc ops:=by
 cases ops with
 | nil=>have:=hf η0; simp [isCallH] at this
 | cons o r=>
  have hk : ∀ η,isCall f (hOut st acc (o :: r) η) = true ∧ guardRun all (frH st acc η) o = true:=fun η=>by
   have:=hf η
   simp only [isCallH,Bool.and_eq_true] at this
   exact ⟨this.1.1,this.1.2⟩
  refine ⟨⟨.spec ((opH (o :: r)).dst.getD 0) p Δ,⟨?_,fun η=>⟨(hk η).2,?_⟩⟩,k.run⟩⟩
  ·exact bt0 (o1:=⟨o.dst,o.op,o.type,o.pos,o.after,none⟩) (hk η0).1 rfl
  ·intro β S w F m hkn hup hM hS hw hG hd
   obtain ⟨args,ha,hg⟩:=h β η S w hup hS hw hG hd
   have h2:=bl6 (c:=c) (w:=w) (o1:=⟨o.dst,o.op,o.type,o.pos,o.after,none⟩) (hk η).1 rfl hkn
   unfold OpRun
   obtain ⟨dst,op,ty,pos,aft,g⟩:=o
   rw [h2 dst pos aft g,ha]
   exact hg
theorem bj6 (f : FuncId) [ci : CallI c.P f] (p : Value → SV) (Δ : Value → Gh) (hf : ∀ η,isCallH all st acc ops f η = true)
  (h : ∀ β η S w,Up S w → (∀ k,S k → c.S0 k) → Keeps c.K c.w0 w → G.p S w → depsH acc (opH ops).after.toList η S w → ∃ args,(callArgs (hOut st acc ops η)).map (SV.den β) = args ∧
   Gives c.P f args w fun v w'=>Ext w w' ∧ v = (p v).den (fun _=>0) ∧ (p v).Ok 0 ∧ (Δ v).p S w')
  (k : Hd c st G all K (.spec ((opH ops).dst.getD 0) p Δ :: acc) (ops.drop 1)) : Hd c st G all K acc ops:=
 b51 f p Δ hf (fun β η S w h1 h2 h3 h4 h5=>let ⟨args,ha,hg⟩:=h β η S w h1 h2 h3 h4 h5; ⟨args,ha,hg.e⟩) k
noncomputable def litOf (c : Cx) (st : St) (acc : List HRec) (ops : List Oper) (η : Nat → Value) : Option (TypeId × Nat × Nat × List Ch):=
 match (opH ops).op with
 | .buildSlice T n ps=>match kindOf c.E T with
  | .slice e=>match c.E.get e,effLit c.E T n 0 (ps.toList.map fun p=>(p.1,opd (frH st acc η) p.2)) with
   | some te,some (.mk T' l _)=>bif Nat.beq (sizeL l) (n * te.size) && Nat.ble n 9223372036854775807 then some (T',te.size,n,l) else none
   | _,_=>none
  | _=>none
 | _=>none
noncomputable def isLit (c : Cx) (all : List Oper) (st : St) (acc : List HRec) (ops : List Oper) (T : TypeId) (sz n : Nat) (η : Nat → Value) : Bool:=
 (match litOf c st acc ops η with | some (T',s,m,_)=>Nat.beq T' T && Nat.beq s sz && Nat.beq m n | none=>false) && guardRun all (frH st acc η) (opH ops) && (opH ops).dst.isSome && !ops.isEmpty
noncomputable def litParts (c : Cx) (st : St) (acc : List HRec) (ops : List Oper) (η : Nat → Value) : List Ch:=match litOf c st acc ops η with | some (_,_,_,l)=>l | none=>[]
theorem ak5 (T : TypeId) (sz n : Nat) (Δ : Value → Gh) (hc : c.Ok) (hf : ∀ η,isLit c all st acc ops T sz n η = true)
  (h : ∀ β η S w v w',Up S w → (∀ k,S k → c.S0 k) → Keeps c.K c.w0 w → G.p S w → depsH acc (opH ops).after.toList η S w → Ext w w' → Row S T sz w' v n (cellsL β (litParts c st acc ops η)) → (Δ v).p S w')
  (k : Hd c st G all K (.spec ((opH ops).dst.getD 0) (fun v=>.one (.sl v n)) Δ :: acc) (ops.drop 1)) : Hd c st G all K acc ops:=by
 cases ops with
 | nil=>have:=hf η0; simp [isLit] at this
 | cons o r=>
  refine ⟨⟨.spec ((opH (o :: r)).dst.getD 0) (fun v=>.one (.sl v n)) Δ,⟨?_,fun η=>?_⟩,k.run⟩⟩
  ·have:=hf η0
   simp only [isLit,Bool.and_eq_true] at this
   cases hx : o.dst with
   | none=>have h2:=this.1.2; simp [opH,hx] at h2
   | some d=>simp [opH,hx]
  ·have h1:=hf η
   simp only [isLit,Bool.and_eq_true] at h1
   obtain ⟨⟨⟨h2,h3⟩,h3'⟩,h3''⟩:=h1
   refine ⟨h3,fun β S w F m hkn hup hM hS hw hG hd=>?_⟩
   cases hl : litOf c st acc (o :: r) η with
   | none=>rw [hl] at h2; cases h2
   | some x=>
    obtain ⟨T',s,n',l⟩:=x
    rw [hl] at h2
    simp only [Bool.and_eq_true] at h2
    obtain rfl:=Nat.eq_of_beq_eq_true h2.1.1
    obtain rfl:=Nat.eq_of_beq_eq_true h2.1.2
    obtain rfl:=Nat.eq_of_beq_eq_true h2.2
    have hpt : litParts c st acc (o :: r) η = l:=by unfold litParts; rw [hl]
    unfold litOf at hl
    have eo : opH (o :: r) = o:=rfl
    rw [eo] at hl
    obtain ⟨dst,op,ty,pos,aft,g⟩:=o
    simp only at hl hkn
    split at hl <;> first | (cases hl; done) | skip
    rename_i T0 n0 ps
    split at hl <;> first | (cases hl; done) | skip
    rename_i e0 hkd
    split at hl <;> first | (cases hl; done) | skip
    rename_i te T2 l2 s2 he1 he2
    cases hb : (Nat.beq (sizeL l2) (n0 * te.size) && Nat.ble n0 9223372036854775807) with
    | false=>rw [hb] at hl; cases hl
    | true=>
     rw [hb] at hl
     simp only [cond_true,Option.some.injEq,Prod.mk.injEq] at hl
     obtain ⟨rfl,rfl,rfl,rfl⟩:=hl
     simp only [Bool.and_eq_true] at hb
     have hsz:=Nat.eq_of_beq_eq_true hb.1
     have hmx:=Nat.le_of_ble_eq_true hb.2
     obtain ⟨_,g1,g2⟩:=au7 (P:=c.P) (w:=w) (ty:=ty) (β:=β) (m:=m) hc.env (fun p hp=>hkn p.2 (by simp [Op.operands]; exact ⟨p.1,by simpa using hp⟩)) he2
     unfold OpRun
     rw [g2 dst pos aft g]
     have hk:=K7 w (.cells (cellsL β l2).toArray T2)
     have hlen:=G9 (β:=β) g1
     have hrow : Row S T2 te.size (w.alloc (.cells (cellsL β l2).toArray T2)) (.slice (some ⟨w.heap.size,0,none⟩) n0 n0) n0 (cellsL β l2):=by
      have h5:=Row.of_blk (s:=te.size) (n:=n0) (cap:=n0) (Blk.new w T2 (cellsL β l2)) (hup _ (Nat.le_refl _)) (Nat.le_refl _) (by unfold maxLen; omega) (by omega)
      rwa [List.take_of_length_le (by omega)] at h5
     refine ⟨hk,rfl,⟨_,_,rfl,Nat.le_refl _⟩,?_⟩
     refine h β η S w _ _ hup hS hw hG hd hk ?_
     rw [hpt]
     exact hrow
def sameH (c : Cx) (st : St) (acc : List HRec) (ops : List Oper) (η : Nat → Value) : Option (List Ch × List Ch):=
 match (opH ops).op with
 | .store T x y=>match opd (frH st acc η) x,opd (frH st acc η) y,c.E.get T with
  | some (.one (.ptr b o)),some yv,some ti=>match st.hp[b]?,yv.chunks with
   | some (.blk _ l),some new=>bif Nat.beq (sizeL new) ti.size then (stL l o ti.size new).map fun l'=>(l,l') else none
   | _,_=>none
  | _,_,_=>none
 | _=>none
def sameHok (c : Cx) (all : List Oper) (st : St) (acc : List HRec) (ops : List Oper) (η : Nat → Value) : Bool:=guardRun all (frH st acc η) (opH ops) && (opH ops).dst.isNone && !ops.isEmpty
theorem bm5 {w : World} {g : Nat} {cs : Array Value} {T : TypeId} {fr : Nat × Nat} (h : w.heap[g]? = some (.cells cs T fr)) : w.setRow g cs = w:=by
 have e : (w.setRow g cs).heap = w.heap:=by
  refine Array.ext_getElem? fun k=>?_
  by_cases hk : k = g
  ·subst hk
   rw [setRow_heap w k cs cs T fr h,h]
  ·exact setRow_other w g k cs hk
 have e2 : w.setRow g cs = { w with heap:=(w.setRow g cs).heap }:=rfl
 rw [e2,e]
def sameL (c : Cx) (st : St) (acc : List HRec) (ops : List Oper) (η : Nat → Value) : List Ch:=((sameH c st acc ops η).map Prod.fst).getD []
theorem bk6 (hc : c.Ok) (hok : ∀ η,sameHok c all st acc ops η = true) (hs : ∀ η,sameH c st acc ops η = some (sameL c st acc ops η,sameL c st acc ops η))
  (k : Hd c st G all K (.same :: acc) (ops.drop 1)) : Hd c st G all K acc ops:=by
 cases ops with
 | nil=>have:=hok η0; simp [sameHok] at this
 | cons o r=>
  have hk : ∀ η,guardRun all (frH st acc η) o = true ∧ o.dst = none:=fun η=>by
   have:=hok η
   simp only [sameHok,Bool.and_eq_true] at this
   exact ⟨this.1.1,by simpa [opH] using this.1.2⟩
  refine ⟨⟨.same,⟨(hk η0).2,fun η=>⟨(hk η).1,fun β F w m hkn hM=>?_⟩⟩,k.run⟩⟩
  have h:=hs η
  generalize sameL c st acc (o :: r) η = ll at h
  unfold sameH at h
  have eo : opH (o :: r) = o:=rfl
  rw [eo] at h
  obtain ⟨dst,op,ty,pos,aft,g⟩:=o
  simp only at h hkn
  split at h <;> first | (cases h; done) | skip
  rename_i T x y
  have hx:=hkn x (by simp [Op.operands])
  have hy:=hkn y (by simp [Op.operands])
  split at h <;> first | (cases h; done) | skip
  rename_i b o yv ti e1 e2 e3
  have h1:=(hx _ e1).1
  have h2:=hy _ e2
  split at h <;> first | (cases h; done) | skip
  rename_i T' l0 new e4 e5
  cases hsz : Nat.beq (sizeL new) ti.size with
  | false=>rw [hsz] at h; cases h
  | true=>
   rw [hsz] at h
   have hsz:=Nat.eq_of_beq_eq_true hsz
   simp only [cond_true] at h
   cases hst : stL l0 o ti.size new with
   | none=>rw [hst] at h; cases h
   | some l1=>
    rw [hst] at h
    simp only [Option.map_some,Option.some.injEq,Prod.mk.injEq] at h
    obtain ⟨rfl,rfl⟩:=h
    obtain ⟨hb,hok0⟩:=hM.blk b T' l1 e4
    obtain ⟨h3,h4⟩:=SV.chunks_ok (β:=β) e5 h2.2
    have hok1 : ∀ c ∈ l1,c.Ok (max m st.hp.length):=fun c hc=>(hok0 c hc).le (Nat.le_max_right _ _)
    obtain ⟨h5,h6,h7⟩:=ax7 (β:=β) hst hok1 (fun c hc=>(h4 c hc).le (Nat.le_max_left _ _))
    obtain ⟨z,hty,_⟩:=(hc.env.get e3).ty
    have hlen:=G9 (β:=β) h4
    have h8:=run_storeCells_at c.P (β b) o T' (cellsL β new) 0 (cellsL β l1).toArray w hb (by simp; omega) (N5 h4)
    have e9 : ((cellsL β l1).toArray.toList.take (o + 0) ++ cellsL β new ++ (cellsL β l1).toArray.toList.drop (o + 0 + (cellsL β new).length)).toArray = (cellsL β l1).toArray:=by
     conv=>rhs; rw [← h5]
     simp [hlen,hsz]
    rw [e9,bm5 hb] at h8
    have e10 : (cellsL β new).length = ti.size:=by omega
    have h11 : ev F x = .pointer (some ⟨β b,o,none⟩):=h1
    simp [execOp,h11,h2.1,Instr.storeAt,Instr.sureAddr,storeVar,hty.runSize w,h3,e10,h8]
def stoAt (c : Cx) (st : St) (acc : List HRec) (ops : List Oper) : Option (Nat × TypeId × List Ch):=
 match (opH ops).op with
 | .store _ x _=>match opd (frH st acc η0) x with
  | some (.one (.ptr b _))=>match nth st.hp b with
   | some (.hid T l)=>some (b,T,l)
   | _=>none
  | _=>none
 | _=>none
def stoNew (c : Cx) (st : St) (acc : List HRec) (ops : List Oper) (b : Nat) (l0 : List Ch) (η : Nat → Value) : List Ch:=(effSt c.E (frH st acc η) b l0 (opH ops).op).getD []
def stoChk (c : Cx) (all : List Oper) (st : St) (acc : List HRec) (ops : List Oper) (b : Nat) (l0 : List Ch) (η : Nat → Value) : Bool:=
 guardRun all (frH st acc η) (opH ops) && (opH ops).dst.isNone && !ops.isEmpty && (effSt c.E (frH st acc η) b l0 (opH ops).op).isSome && !memN (stoIdx acc) b
def stoX (c : Cx) (st : St) (acc : List HRec) (ops : List Oper) : Nat × TypeId × List Ch:=(stoAt c st acc ops).getD (0,0,[])
theorem be1 (hs : (stoAt c st acc ops).isSome = true) (hok : ∀ η,stoChk c all st acc ops (stoX c st acc ops).1 (stoX c st acc ops).2.2 η = true)
  (k : Hd c st G all K (.sto (stoX c st acc ops).1 (stoX c st acc ops).2.1 (stoX c st acc ops).2.2 (stoNew c st acc ops (stoX c st acc ops).1 (stoX c st acc ops).2.2) :: acc) (ops.drop 1)) : Hd c st G all K acc ops:=by
 generalize hx : stoX c st acc ops = x at hok k
 obtain ⟨b,T,l0⟩:=x
 replace hs : stoAt c st acc ops = some (b,T,l0):=by
  obtain ⟨y,hy⟩:=Option.isSome_iff_exists.1 hs
  unfold stoX at hx
  rw [hy] at hx ⊢
  exact congrArg some hx
 cases ops with
 | nil=>have:=hok η0; simp [stoChk] at this
 | cons o r=>
  have hk : ∀ η,guardRun all (frH st acc η) o = true ∧ o.dst = none ∧ memN (stoIdx acc) b = false ∧ effSt c.E (frH st acc η) b l0 o.op = some (stoNew c st acc (o :: r) b l0 η):=fun η=>by
   have:=hok η
   simp only [stoChk,Bool.and_eq_true] at this
   obtain ⟨⟨⟨⟨h1,h2⟩,_⟩,h3⟩,h4⟩:=this
   refine ⟨h1,by simpa [opH] using h2,by simpa using h4,?_⟩
   obtain ⟨x,hx⟩:=Option.isSome_iff_exists.1 h3
   unfold stoNew
   rw [hx]
   exact hx
  have hn : nth st.hp b = some (.hid T l0):=by
   unfold stoAt at hs
   split at hs <;> first | (cases hs; done) | skip
   split at hs <;> first | (cases hs; done) | skip
   split at hs <;> first | (cases hs; done) | skip
   rename_i e
   cases hs
   exact e
  exact ⟨⟨.sto b T l0 (stoNew c st acc (o :: r) b l0),⟨(hk η0).2.1,(hk η0).2.2.1,hn,fun η=>⟨(hk η).1,(hk η).2.2.2⟩⟩,k.run⟩⟩
theorem bl5 (G' : (Nat → Value) → Gh) (hn : ops.isEmpty = true) (hG : ∀ η,accG G η acc = G' η) {l : List Oper} {t : Nat} {kk : List Kt}
  (h : ∀ η,Run c ⟨.ops l (l.drop t),kk,⟨frH st acc η,stoHp η acc (st.hp ++ accNw η acc)⟩,[]⟩ (G' η)) : Hd c st G all (fun acc=>∀ η,Run c ⟨.ops l (l.drop t),kk,⟨frH st acc η,stoHp η acc (st.hp ++ accNw η acc)⟩,[]⟩ (accG G η acc)) acc ops:=by
 cases ops with
 | nil=>exact ⟨fun η=>by rw [hG]; exact h η⟩
 | cons o r=>cases hn
def accM (G : Gh) (η : Nat → Value) : List Bool → List HRec → Gh
 | [],_=>G
 | _,[]=>G
 | b :: m,.spec _ _ Δ :: r=>bif b then (Δ (η r.length)).and (accM G η m r) else accM G η m r
 | b :: m,.val _ _ :: r=>accM G η (b :: m) r
 | b :: m,.mk _ _ _ :: r=>accM G η (b :: m) r
 | b :: m,.st _ _ :: r=>accM G η (b :: m) r
 | b :: m,.same :: r=>accM G η (b :: m) r
 | b :: m,.sto _ _ _ _ :: r=>accM G η (b :: m) r
theorem bp7 {G : Gh} {S : Nat → Prop} {w : World} {η : Nat → Value} : ∀ {acc : List HRec},(accG G η acc).p S w → G.p S w:=by
 intro acc
 induction acc with
 | nil=>exact id
 | cons r acc ih=>cases r <;> first | exact ih | exact fun h=>ih h.2
theorem b69 {G G1 : Gh} {S : Nat → Prop} {w : World} {η : Nat → Value} (hs : G.p S w → G1.p S w) : ∀ {acc : List HRec} {m : List Bool},(accG G η acc).p S w → (accM G1 η m acc).p S w:=by
 intro acc
 induction acc with
 | nil=>intro m h; cases m <;> exact hs h
 | cons r acc ih=>
  intro m h
  cases m with
  | nil=>exact hs (bp7 h)
  | cons b m=>
   cases r with
   | spec d p Δ=>
    simp only [accM]
    cases b with
    | false=>exact ih h.2
    | true=>exact ⟨h.1,ih h.2⟩
   | val d sv=>exact ih h
   | mk d T l=>exact ih h
   | st k l=>exact ih h
   | same=>exact ih h
   | sto b' T l0 l=>exact ih h
theorem l6 (m : List Bool) (G1 : Gh) (hs : ∀ S w,G.p S w → G1.p S w) (Gf : Gh → (Nat → Value) → Gh) (hn : ops.isEmpty = true) (hG : ∀ g η,accM g η m acc = Gf g η) {l : List Oper} {t : Nat} {kk : List Kt}
  (h : ∀ η,Run c ⟨.ops l (l.drop t),kk,⟨frH st acc η,stoHp η acc (st.hp ++ accNw η acc)⟩,[]⟩ (Gf G1 η)) : Hd c st G all (fun acc=>∀ η,Run c ⟨.ops l (l.drop t),kk,⟨frH st acc η,stoHp η acc (st.hp ++ accNw η acc)⟩,[]⟩ (accG G η acc)) acc ops:=by
 cases ops with
 | nil=>exact ⟨fun η=>⟨fun β ρ w h1 h2 h3=>(h η).run β ρ w h1 h2 (by rw [← hG]; exact b69 (hs _ _) h3)⟩⟩
 | cons o r=>cases hn
theorem kc {p q : Prop} (h : p) (e : p = q) : q:=e ▸ h
end
end Go.Proofs.YtpheooheinfbgaaGreatDoor
end
section
set_option linter.unusedVariables false
set_option linter.unusedSimpArgs false
namespace Go.Proofs.YtpheooheinfbgaaGreatDoor
open Go Go.RowKit
section
variable {c : Cx} {o : Out} {G : Gh}
noncomputable abbrev ex (c : Cx) (o : Out) : Out:=exec c.E false 400 o
noncomputable abbrev exU (c : Cx) (o : Out) : Out:=exec c.E true 400 o
theorem q7 (hc : c.Ok) (hv : (ex c o).vc = []) (h : Run c (ex c o) G) : Run c o G:=bj2 hc false 400 (vc0 hv) h
theorem A5 (hc : c.Ok) (hv : (exU c o).vc = []) (h : Run c (exU c o) G) : Run c o G:=bj2 hc true 400 (vc0 hv) h
theorem I8 {ps : List Prop} (hc : c.Ok) (hv : (ex c o).vc = ps) (hp : AllT ps) (h : Run c ⟨(ex c o).cur,(ex c o).k,(ex c o).st,[]⟩ G) : Run c o G:=bj2 hc false 400 (vcs hv hp) ⟨h.run⟩
theorem cp4 {ps : List Prop} (hc : c.Ok) (hv : (exU c o).vc = ps) (hp : AllT ps) (h : Run c ⟨(exU c o).cur,(exU c o).k,(exU c o).st,[]⟩ G) : Run c o G:=bj2 hc true 400 (vcs hv hp) ⟨h.run⟩
theorem s_K {f : FuncId} [ci : CallI c.P f] {X : Value} (s : SV) (hc : c.Ok) (hv : (ex c o).vc = []) (hf : isCall f (ex c o) = true) (hok : s.Ok 0) (hX : s.den (fun _=>0) = X)
  (h : ∀ β S w,Up S w → (∀ k,S k → c.S0 k) → Keeps c.K c.w0 w → G.p S w → ∃ args,(callArgs (ex c o)).map (SV.den β) = args ∧ Gives c.P f args w fun v w'=>v = X ∧ Ext w w')
  (hn : Run c (callNext (ex c o) s) G) : Run c o G:=by
 refine q7 hc hv (bw5 f hc (fun _ : Unit=>s) (fun _=>True) (fun _=>.nil) hf (fun β S w h1 h2 h3 h4=>?_) fun _ _=>?_)
 ·obtain ⟨args,ha,hg⟩:=h β S w h1 h2 h3 h4
  refine ⟨args,ha,hg.mono fun v w' hv=>⟨hv.2,(),?_,hok,trivial,trivial⟩⟩
  rw [hv.1,← hX]
  exact SV.den_congr (m:=0) (fun i hi=>absurd hi (Nat.not_lt_zero i)) hok
 ·exact T9 (fun S w _ h=>h.2) hn
theorem s_1 {f : FuncId} [ci : CallI c.P f] (pat : Value → SV) (Δ : Value → Gh) (hc : c.Ok) (hv : (ex c o).vc = []) (hf : isCall f (ex c o) = true) (hok : ∀ a S w,(Δ a).p S w → (pat a).Ok 0 ∧ (pat a).den (fun _=>0) = a)
  (h : ∀ β S w,Up S w → (∀ k,S k → c.S0 k) → Keeps c.K c.w0 w → G.p S w → ∃ args,(callArgs (ex c o)).map (SV.den β) = args ∧ Gives c.P f args w fun v w'=>Ext w w' ∧ (Δ v).p S w')
  (hn : ∀ a,Run c (callNext (ex c o) (pat a)) ((Δ a).and G)) : Run c o G:=by
 refine q7 hc hv (bw5 f hc pat (fun _=>True) Δ hf (fun β S w h1 h2 h3 h4=>?_) fun a _=>hn a)
 obtain ⟨args,ha,hg⟩:=h β S w h1 h2 h3 h4
 refine ⟨args,ha,hg.mono fun v w' hv=>?_⟩
 obtain ⟨e1,e2⟩:=hok v S w' hv.2
 exact ⟨hv.1,v,by rw [SV.den_congr (m:=0) (β':=fun _=>0) (fun i hi=>absurd hi (Nat.not_lt_zero i)) e1,e2],e1,trivial,hv.2⟩
theorem X3 {p : Prop} (hc : c.Ok) (hv : (ex c o).vc = []) (hd : isCond (ex c o) = true) (hp : condP (ex c o) = p) (ht : p → Run c (condNext (ex c o) true) G) (hf : ¬ p → Run c (condNext (ex c o) false) G) : Run c o G:=q7 hc hv (cf9 hd hp ht hf)
theorem R9 {p : Prop} (hc : c.Ok) (hv : (ex c o).vc = []) (hd : isCond (ex c o) = true) (hp : condP (ex c o) = p) (h : p) (ht : Run c (condNext (ex c o) true) G) : Run c o G:=q7 hc hv (cn8 hd hp h ht)
theorem I5 {p : Prop} (hc : c.Ok) (hv : (ex c o).vc = []) (hd : isCond (ex c o) = true) (hp : condP (ex c o) = p) (h : ¬ p) (ht : Run c (condNext (ex c o) false) G) : Run c o G:=q7 hc hv (cq3 hd hp h ht)
theorem ad5 {p : Prop} (d : Nat) (hc : c.Ok) (hv : (ex c o).vc = []) (hp : tstSlot (ex c o).st d = some p) (ht : p → Run c (setSlot (ex c o) d (.one (.bb true))) G) (hf : ¬ p → Run c (setSlot (ex c o) d (.one (.bb false))) G) : Run c o G:=q7 hc hv (bf2 d hp ht hf)
theorem ap4 {p : Prop} (d : Nat) (hc : c.Ok) (hv : (ex c o).vc = []) (hp : tstSlot (ex c o).st d = some p) (h : p) (ht : Run c (setSlot (ex c o) d (.one (.bb true))) G) : Run c o G:=q7 hc hv (bg1 d hp h ht)
theorem aj5 {p : Prop} (d : Nat) (hc : c.Ok) (hv : (ex c o).vc = []) (hp : tstSlot (ex c o).st d = some p) (h : ¬ p) (ht : Run c (setSlot (ex c o) d (.one (.bb false))) G) : Run c o G:=q7 hc hv (bo9 d hp h ht)
theorem ah4 (bs : List Nat) (t : Nat) (hc : c.Ok) (hv : (ex c o).vc = []) (hmo : c.P.follows .mixedOrders = true) (hd : isDrawn (ex c o) t = true)
  (h : Hd c (hideO bs (ex c o).st) G (drawnOps (ex c o)) (fun acc=>∀ η,Run c ⟨.ops (drawnOps (ex c o)) ((drawnOps (ex c o)).drop t),(ex c o).k,⟨frH (hideO bs (ex c o).st) acc η,stoHp η acc ((hideO bs (ex c o).st).hp ++ accNw η acc)⟩,[]⟩ (accG G η acc)) [] ((drawnOps (ex c o)).take t)) : Run c o G:=
 q7 hc hv (cd3 bs t hmo hc hd h)
theorem l8 (t : Nat) (hc : c.Ok) (hv : (ex c o).vc = []) (hmo : c.P.follows .mixedOrders = true) (hd : isDrawn (ex c o) t = true)
  (h : Hd c (ex c o).st G (drawnOps (ex c o)) (fun acc=>∀ η,Run c ⟨.ops (drawnOps (ex c o)) ((drawnOps (ex c o)).drop t),(ex c o).k,⟨frH (ex c o).st acc η,stoHp η acc ((ex c o).st.hp ++ accNw η acc)⟩,[]⟩ (accG G η acc)) [] ((drawnOps (ex c o)).take t)) : Run c o G:=
 ah4 [] t hc hv hmo hd h
end
theorem q8 {P : Program} {fn : Func} {E : Env} {w0 : World} {S0 : Nat → Prop} {Ψ : Value → World → Prop} {rs : List ResultVar} {o : Out} {G : Gh} (v : Value) (hc : (Cx.fn P fn E w0 S0 Ψ).Ok) (hv0 : (ex (Cx.fn P fn E w0 S0 Ψ) o).vc = []) (hrs : fn.results.toList = rs) (he : isEnd (ex (Cx.fn P fn E w0 S0 Ψ) o) = true) (hv : ∀ β,resV' E rs (ex (Cx.fn P fn E w0 S0 Ψ) o).st β = some v)
  (h : ∀ S w,(∀ k,S k → S0 k) → Ext w0 w → G.p S w → Ψ v w) : Run (Cx.fn P fn E w0 S0 Ψ) o G:=q7 hc hv0 (cp1 v hc hrs he hv h)
section
variable {c : Cx} {st : St} {G : Gh} {all : List Oper} {K : List HRec → Prop} {acc : List HRec} {ops : List Oper}
theorem h_K {f : FuncId} [ci : CallI c.P f] {X : Value} (s : SV) (hf : ∀ η,isCallH all st acc ops f η = true) (hok : s.Ok 0) (hX : s.den (fun _=>0) = X)
  (h : ∀ β η S w,Up S w → (∀ k,S k → c.S0 k) → Keeps c.K c.w0 w → G.p S w → depsH acc (opH ops).after.toList η S w → ∃ args,(callArgs (hOut st acc ops η)).map (SV.den β) = args ∧ Gives c.P f args w fun v w'=>v = X ∧ Ext w w')
  (k : Hd c st G all K (.spec ((opH ops).dst.getD 0) (fun _=>s) (fun _=>.nil) :: acc) (ops.drop 1)) : Hd c st G all K acc ops:=
 bj6 f (fun _=>s) (fun _=>.nil) hf (fun β η S w h1 h2 h3 h4 h5=>let ⟨args,ha,hg⟩:=h β η S w h1 h2 h3 h4 h5; ⟨args,ha,hg.mono fun v w' hv=>⟨hv.2,hv.1.trans hX.symm,hok,trivial⟩⟩) k
theorem h_1 {f : FuncId} [ci : CallI c.P f] (pat : Value → SV) (Δ : Value → Gh) (hf : ∀ η,isCallH all st acc ops f η = true) (hok : ∀ a S w,(Δ a).p S w → (pat a).Ok 0 ∧ (pat a).den (fun _=>0) = a)
  (h : ∀ β η S w,Up S w → (∀ k,S k → c.S0 k) → Keeps c.K c.w0 w → G.p S w → depsH acc (opH ops).after.toList η S w → ∃ args,(callArgs (hOut st acc ops η)).map (SV.den β) = args ∧ Gives c.P f args w fun v w'=>Ext w w' ∧ (Δ v).p S w')
  (k : Hd c st G all K (.spec ((opH ops).dst.getD 0) pat Δ :: acc) (ops.drop 1)) : Hd c st G all K acc ops:=
 bj6 f pat Δ hf (fun β η S w h1 h2 h3 h4 h5=>let ⟨args,ha,hg⟩:=h β η S w h1 h2 h3 h4 h5; ⟨args,ha,hg.mono fun v w' hv=>⟨hv.1,(hok v S w' hv.2).2.symm,(hok v S w' hv.2).1,hv.2⟩⟩) k
theorem dep {es : List Edge} {η : Nat → Value} {S : Nat → Prop} {w : World} {q : Prop} (h : depsH acc es η S w) (j : Nat) (hj : hasEdge es j = true) (e : (accD η acc j).p S w = q) : q:=e ▸ h.all j hj
end
end Go.Proofs.YtpheooheinfbgaaGreatDoor
end
section
set_option linter.unusedVariables false
set_option linter.unusedSimpArgs false
namespace Go.Proofs.YtpheooheinfbgaaGreatDoor
open Go Go.RowKit
def keepFr (W : List (Nat × Nat)) : List (Nat × SV) → List (Nat × SV)
 | []=>[]
 | p :: r=>bif inW W p.1 then keepFr W r else p :: keepFr ((p.1,p.1) :: W) r
def setMany (hp : List HE) : List (Nat × HE) → List HE
 | []=>hp
 | (i,x) :: r=>setN (setMany hp r) i x
def stM (st : St) (W : List (Nat × Nat)) (ov : List (Nat × SV)) (oh : List (Nat × HE)) : St:=⟨ov ++ keepFr W st.fr,setMany st.hp oh⟩
theorem ba1 {hp : List HE} : ∀ {oh : List (Nat × HE)},(setMany hp oh).length = hp.length:=by
 intro oh
 induction oh with
 | nil=>rfl
 | cons p r ih=>obtain ⟨i,x⟩:=p; simp only [setMany,O7,List.length_set,ih]
theorem by6 {W : List (Nat × Nat)} {i d : Nat} (h : inW W d = true) : inW ((i,i) :: W) d = true:=by
 simp only [inW]
 cases Nat.ble i d <;> cases Nat.ble d i <;> simp [h]
theorem a26 : ∀ {fr : List (Nat × SV)} {W : List (Nat × Nat)} {d : Nat},inW W d = true → look (keepFr W fr) d = none:=by
 intro fr
 induction fr with
 | nil=>intro W d _; rfl
 | cons p r ih=>
  obtain ⟨i,x⟩:=p
  intro W d hd
  simp only [keepFr]
  cases hb : inW W i with
  | true=>exact ih hd
  | false=>
   simp only [cond_false]
   rw [F2,if_neg (fun e=>by rw [e,hd] at hb; cases hb)]
   exact ih (by6 hd)
theorem a87 : ∀ {fr : List (Nat × SV)} {W : List (Nat × Nat)} {d : Nat} {s : SV},look (keepFr W fr) d = some s → look fr d = some s:=by
 intro fr
 induction fr with
 | nil=>intro W d s h; exact h
 | cons p r ih=>
  obtain ⟨i,x⟩:=p
  intro W d s h
  simp only [keepFr] at h
  rw [F2]
  cases hb : inW W i with
  | true=>
   rw [hb] at h
   by_cases e : i = d
   ·subst e
    have h2 : look (keepFr W r) i = some s:=h
    rw [a26 hb] at h2
    cases h2
   ·rw [if_neg e]
    exact ih h
  | false=>
   rw [hb] at h
   simp only [cond_false] at h
   rw [F2] at h
   split
   ·rename_i e
    rwa [if_pos e] at h
   ·rename_i e
    rw [if_neg e] at h
    exact ih h
theorem Sat.stOk {base : Bs} {st : St} {β : Nat → Nat} {ρ : Fr} {w : World} (h : Sat base st β ρ w) : StOk st:=by
 refine ⟨fun d s hs=>((h.fr d) s hs).2,fun x hx=>?_⟩
 obtain ⟨i,hi,rfl⟩:=List.mem_iff_getElem.1 hx
 cases he : st.hp[i] with
 | blk T l=>exact (h.mem.blk i T l (by rw [List.getElem?_eq_getElem hi,he])).2
 | row T s v n cs=>trivial
 | gone=>trivial
 | abs A=>trivial
 | hid T l=>trivial
theorem bd0 {st : St} {W : List (Nat × Nat)} {ov : List (Nat × SV)} {oh : List (Nat × HE)} (h : StOk st) (h1 : ∀ p ∈ ov,p.2.Ok st.hp.length) (h2 : ∀ p ∈ oh,p.2.Ok st.hp.length) : StOk (stM st W ov oh):=by
 have hl : (stM st W ov oh).hp.length = st.hp.length:=ba1
 refine ⟨fun d s hs=>?_,fun x hx=>?_⟩
 ·rw [hl]
  have hs' : look (ov ++ keepFr W st.fr) d = some s:=hs
  rw [am7] at hs'
  cases he : look ov d with
  | some y=>
   rw [he] at hs'
   simp only [Option.some.injEq] at hs'
   subst hs'
   exact h1 _ (b34 he)
  | none=>rw [he] at hs'; exact h.1 d s (a87 hs')
 ·rw [hl]
  have aux : ∀ {oh : List (Nat × HE)},(∀ p ∈ oh,p.2.Ok st.hp.length) → ∀ x ∈ setMany st.hp oh,x.Ok st.hp.length:=by
   intro oh
   induction oh with
   | nil=>intro _ x hx; exact h.2 x hx
   | cons p r ih=>
    obtain ⟨i,y⟩:=p
    intro hp x hx
    simp only [setMany,O7] at hx
    rcases List.mem_or_eq_of_mem_set hx with hx | rfl
    ·exact ih (fun p hp'=>hp p (List.mem_cons_of_mem _ hp')) x hx
    ·exact hp _ (List.mem_cons_self ..)
  exact aux h2 x hx
def freeCh (m : Nat) : Ch → Bool
 | .val _=>false
 | .ag _ _=>false
 | .sl _ _=>false
 | .fn _ cap=>cap.all fun c=>match c with | .inl b=>Nat.blt b m | .inr _=>true
 | .ptr b _=>Nat.blt b m
 | .win b _ _ _=>Nat.blt b m
 | _=>true
theorem al4 {m : Nat} {c : Ch} (h : freeCh m c = true) : c.Ok m:=by
 cases c with
 | val x=>cases h
 | ag n x=>cases h
 | sl x n=>cases h
 | fn g cap=>exact fun b hb=>Nat.le_of_ble_eq_true (List.all_eq_true.1 h _ hb)
 | ptr b o=>exact Nat.le_of_ble_eq_true h
 | win b o n c=>exact Nat.le_of_ble_eq_true h
 | _=>trivial
theorem cm2 {m : Nat} {l : List Ch} (h : l.all (freeCh m) = true) : (SV.agg l).Ok m:=fun c hc=>al4 (List.all_eq_true.1 h c hc)
def freeSV (m : Nat) : SV → Bool
 | .one c=>freeCh m c
 | .agg l=>l.all (freeCh m)
 | .tup _=>false
 | .und=>true
theorem s9 {m : Nat} {l : List (Nat × SV)} (h : (l.all fun p=>freeSV 0 p.2) = true) : ∀ p ∈ l,p.2.Ok m:=by
 intro p hp
 have h1:=List.all_eq_true.1 h p hp
 refine SV.Ok.le (m:=0) ?_ (Nat.zero_le _)
 obtain ⟨d,s⟩:=p
 cases s with
 | one c=>exact al4 h1
 | agg l=>exact cm2 h1
 | tup l=>cases h1
 | und=>trivial
def chB : Ch → Bool
 | .sl (.slice _ n k) m=>Nat.beq n m && Nat.ble m k
 | c=>freeCh 0 c
theorem be6 {c : Ch} (h : chB c = true) : c.Ok 0:=by
 unfold chB at h
 split at h
 ·simp only [Bool.and_eq_true] at h
  obtain rfl:=Nat.eq_of_beq_eq_true h.1
  exact ⟨_,_,rfl,Nat.le_of_ble_eq_true h.2⟩
 ·exact al4 h
def svB : SV → Bool
 | .one c=>chB c
 | .agg l=>l.all chB
 | .tup l=>l.all fun p=>p.2.all chB
 | .und=>true
theorem j9 {s : SV} (h : svB s = true) : s.Ok 0:=by
 cases s with
 | one c=>exact be6 h
 | agg l=>exact fun c hc=>be6 (List.all_eq_true.1 h c hc)
 | tup l=>exact fun p hp c hc=>be6 (List.all_eq_true.1 (List.all_eq_true.1 h p hp) c hc)
 | und=>trivial
section
variable {c : Cx} {o : Out} {G : Gh} {ι : Type}
theorem co6 (W : List (Nat × Nat)) (ov : ι → List (Nat × SV)) (oh : ι → List (Nat × HE)) (GI : ι → Gh) (pre : ι → Prop) (hc : c.Ok) (hv : (ex c o).vc = [])
  (h1 : StOk (ex c o).st → Run (c.sub (MidR c (fun i=>stM (ex c o).st W (ov i) (oh i)) GI pre) (ex c o).k) ⟨(ex c o).cur,[],(ex c o).st,[]⟩ G)
  (h2 : ∀ i,pre i → Run c ⟨.ex .normal,(ex c o).k,stM (ex c o).st W (ov i) (oh i),[]⟩ (GI i)) : Run c o G:=by
 refine q7 hc hv ⟨fun β ρ w hS hw hG=>?_⟩
 exact (co2 _ GI pre (h1 hS.stOk) h2).run β ρ w hS hw hG
theorem bd3 {W : List (Nat × Nat)} {ov : ι → List (Nat × SV)} {oh : ι → List (Nat × HE)} {st0 : St} {GI : ι → Gh} {pre : ι → Prop} {k : List Kt} (i : ι) (hc : c.Ok) (hso : StOk st0) (hv : (ex (c.sub (MidR c (fun i=>stM st0 W (ov i) (oh i)) GI pre) k) o).vc = [])
  (he : isNorm (ex (c.sub (MidR c (fun i=>stM st0 W (ov i) (oh i)) GI pre) k) o) = true)
  (hf : ∀ β,frV β (ex (c.sub (MidR c (fun i=>stM st0 W (ov i) (oh i)) GI pre) k) o).st.fr (stM st0 W (ov i) (oh i)).fr = frV' β (stM st0 W (ov i) (oh i)).fr)
  (hh : ∀ β,keepH β (ex (c.sub (MidR c (fun i=>stM st0 W (ov i) (oh i)) GI pre) k) o).st.hp (stM st0 W (ov i) (oh i)).hp = (stM st0 W (ov i) (oh i)).hp.map (HE.den β))
  (hl : Nat.ble (stM st0 W (ov i) (oh i)).hp.length (ex (c.sub (MidR c (fun i=>stM st0 W (ov i) (oh i)) GI pre) k) o).st.hp.length = true)
  (hp : pre i) (ho : ∀ S w,Keeps c.K c.w0 w → G.p S w → (∀ p ∈ ov i,p.2.Ok st0.hp.length) ∧ ∀ p ∈ oh i,p.2.Ok st0.hp.length) (hg : ∀ S w,Keeps c.K c.w0 w → G.p S w → (GI i).p S w) :
  Run (c.sub (MidR c (fun i=>stM st0 W (ov i) (oh i)) GI pre) k) o G:=
 q7 hc.sub hv (cg6 i he hp (ci1 hf hh hl) (fun S w hw h=>let ⟨h1,h2⟩:=ho S w hw h; bd0 hso h1 h2) hg)
theorem H2 (W : List (Nat × Nat)) (ov : ι → List (Nat × SV)) (oh : ι → List (Nat × HE)) (GI : ι → Gh) (pre : ι → Prop) (m : ι → Nat) (i : ι) (hc : c.Ok) (hv : (ex c o).vc = []) (he : isLoop (ex c o) = true)
  (hf : ∀ β,frV β (ex c o).st.fr (stM (ex c o).st W (ov i) (oh i)).fr = frV' β (stM (ex c o).st W (ov i) (oh i)).fr)
  (hh : ∀ β,keepH β (ex c o).st.hp (stM (ex c o).st W (ov i) (oh i)).hp = (stM (ex c o).st W (ov i) (oh i)).hp.map (HE.den β))
  (hl : Nat.ble (stM (ex c o).st W (ov i) (oh i)).hp.length (ex c o).st.hp.length = true)
  (hp : pre i) (ho : ∀ S w,Keeps c.K c.w0 w → G.p S w → (∀ p ∈ ov i,p.2.Ok (ex c o).st.hp.length) ∧ ∀ p ∈ oh i,p.2.Ok (ex c o).st.hp.length) (hg : ∀ S w,Keeps c.K c.w0 w → G.p S w → (GI i).p S w)
  (hb : StOk (ex c o).st → ∀ i,pre i → Run (c.sub (LoopR c (fun i=>stM (ex c o).st W (ov i) (oh i)) GI pre m i) (ex c o).k) ⟨.code (loopBody (ex c o)),[],stM (ex c o).st W (ov i) (oh i),[]⟩ (GI i)) : Run c o G:=by
 refine q7 hc hv ⟨fun β ρ w hS hw hG=>?_⟩
 exact (ci4 _ GI pre m i he hp (ci1 hf hh hl) (fun S w hw h=>let ⟨h1,h2⟩:=ho S w hw h; bd0 hS.stOk h1 h2) hg (hb hS.stOk)).run β ρ w hS hw hG
theorem F7 {W : List (Nat × Nat)} {ov : ι → List (Nat × SV)} {oh : ι → List (Nat × HE)} {st0 : St} {GI : ι → Gh} {pre : ι → Prop} {m : ι → Nat} {j : ι} {k : List Kt} (i : ι) (hc : c.Ok) (hso : StOk st0) (hv : (ex (c.sub (LoopR c (fun i=>stM st0 W (ov i) (oh i)) GI pre m j) k) o).vc = [])
  (he : isNorm (ex (c.sub (LoopR c (fun i=>stM st0 W (ov i) (oh i)) GI pre m j) k) o) = true)
  (hf : ∀ β,frV β (ex (c.sub (LoopR c (fun i=>stM st0 W (ov i) (oh i)) GI pre m j) k) o).st.fr (stM st0 W (ov i) (oh i)).fr = frV' β (stM st0 W (ov i) (oh i)).fr)
  (hh : ∀ β,keepH β (ex (c.sub (LoopR c (fun i=>stM st0 W (ov i) (oh i)) GI pre m j) k) o).st.hp (stM st0 W (ov i) (oh i)).hp = (stM st0 W (ov i) (oh i)).hp.map (HE.den β))
  (hl : Nat.ble (stM st0 W (ov i) (oh i)).hp.length (ex (c.sub (LoopR c (fun i=>stM st0 W (ov i) (oh i)) GI pre m j) k) o).st.hp.length = true)
  (hp : pre i) (hlt : m i < m j) (ho : ∀ S w,Keeps c.K c.w0 w → G.p S w → (∀ p ∈ ov i,p.2.Ok st0.hp.length) ∧ ∀ p ∈ oh i,p.2.Ok st0.hp.length) (hg : ∀ S w,Keeps c.K c.w0 w → G.p S w → (GI i).p S w) :
  Run (c.sub (LoopR c (fun i=>stM st0 W (ov i) (oh i)) GI pre m j) k) o G:=
 q7 hc.sub hv (b76 i he hp hlt (ci1 hf hh hl) (fun S w hw h=>let ⟨h1,h2⟩:=ho S w hw h; bd0 hso h1 h2) hg)
theorem I6 {R : Fr → World → Prop} {k : List Kt} (hc : c.Ok) (hv : (ex (c.sub R k) o).vc = []) (he : isOut (ex (c.sub R k) o) = true) (h : Run c ⟨(ex (c.sub R k) o).cur,k,(ex (c.sub R k) o).st,[]⟩ G) : Run (c.sub R k) o G:=q7 hc.sub hv (cn4 he h)
end
end Go.Proofs.YtpheooheinfbgaaGreatDoor
end
section
set_option linter.unusedVariables false
set_option linter.unusedSimpArgs false
namespace Go.Proofs.YtpheooheinfbgaaGreatDoor
open Go Go.RowKit
abbrev ratG (v : Value) (q : Rat) : Gh:=⟨fun S w=>RatV S w v q,fun h k=>h.keep k,fun h k=>h.mono k⟩
abbrev qG (v : Value) (q : Rat) : Gh:=⟨fun S w=>QV S w v q,fun h k=>h.keep k,fun h k=>h.mono k⟩
abbrev intG (v : Value) (z : Int) : Gh:=⟨fun S w=>IntV S 157 .u32 w v z,fun h k=>h.keep k,fun h k=>h.mono k⟩
theorem RatV.ok {S : Nat → Prop} {w : World} {v : Value} {q : Rat} (h : RatV S w v q) : (SV.one (.ag 3 v)).Ok 0:=by
 obtain ⟨m,b,rfl,hm,hb⟩:=h
 exact ⟨[_,m,b],rfl,rfl,b63 rfl hm.one hb.one⟩
theorem QV.ok {S : Nat → Prop} {w : World} {v : Value} {q : Rat} (h : QV S w v q) : (SV.one (.ag 4 v)).Ok 0:=by
 obtain ⟨m,b,rfl,hm,hb⟩:=h
 exact ⟨[_,m,_,b],rfl,rfl,ce8 rfl hm.one rfl hb.one⟩
theorem IntV.ok {S : Nat → Prop} {T : TypeId} {k : IntKind} {w : World} {v : Value} {z : Int} (h : IntV S T k w v z) : (SV.one (.ag 2 v)).Ok 0:=by
 obtain ⟨m,rfl,hm⟩:=h
 exact ⟨[_,m],rfl,rfl,cf4 rfl hm.one⟩
def tupN (v : Value) (i : Nat) : Value:=match v with | .tuple l=>l.getD i undef | _=>undef
theorem gK {P : Program} {f : FuncId} {args : List Value} {w : World} {X Y : Value} (h : Gives P f args w fun v w'=>v = X ∧ Ext w w') (e : X = Y) : Gives P f args w fun v w'=>v = Y ∧ Ext w w':=e ▸ h
abbrev pr (x y : Ch) : SV:=.tup [(false,[x]),(false,[y])]
theorem a69 {m : Nat} {x y : Ch} (hx : x.Ok m) (hy : y.Ok m) : (pr x y).Ok m:=fun p hp c hc=>by
 simp only [List.mem_cons,List.not_mem_nil,or_false] at hp
 rcases hp with rfl | rfl <;> (simp only [List.mem_singleton] at hc; subst hc; assumption)
def tupAt : Value → Value
 | .tuple l=>l.getD 0 undef
 | _=>undef
abbrev tryG (v : Value) (q : Rat) (e : Int) : Gh:=⟨fun S w=>v = .tuple #[tupAt v,.int .i64 e] ∧ RatV S w (tupAt v) q,fun h k=>⟨h.1,h.2.keep k⟩,fun h k=>⟨h.1,h.2.mono k⟩⟩
theorem W3 {v : Value} {q : Rat} {e : Int} {S : Nat → Prop} {w : World} (h : (tryG v q e).p S w) : (pr (.ag 3 (tupAt v)) (.lit .i64 e)).Ok 0 ∧ (pr (.ag 3 (tupAt v)) (.lit .i64 e)).den (fun _=>0) = v:=⟨a69 h.2.ok trivial,h.1.symm⟩
theorem cn7 {P : Program} {f : FuncId} {args : List Value} {S : Nat → Prop} {w : World} {q X : Rat} {E : Int} (d : DoneOk X E q) (h : Gives P f args w fun v w'=>Ext w w' ∧ Tried S w' v q) : Gives P f args w fun v w'=>Ext w w' ∧ (tryG v X E).p S w':=
 h.mono fun v w' ⟨k,r,e,hv,ht⟩=>⟨k,by
  subst hv
  rcases d with ⟨h1,rfl,rfl⟩ | ⟨h1,rfl,rfl⟩ <;> rcases ht with ⟨h4,rfl,h6⟩ | ⟨h4,rfl,h6⟩ <;> first | exact ⟨rfl,h6⟩ | exact absurd h1 h4 | exact absurd h4 h1⟩
abbrev bG (F : Value → Gh) (b : Bool) (v : Value) : Gh:=⟨fun S w=>v = .tuple #[tupN v 0,.bool b] ∧ (F (tupN v 0)).p S w,fun h k=>⟨h.1,(F _).keep h.2 k⟩,fun h k=>⟨h.1,(F _).mono h.2 k⟩⟩
theorem T5 {q : Rat} {n : Nat} (hr : rl q n) (hn : n ≤ 3344) : Fits q:=
 ⟨Nat.lt_of_lt_of_le (y7 _) (Nat.le_trans (H9 (Nat.le_trans hr.1 hn)) an1),Nat.lt_of_lt_of_le (y7 _) (Nat.le_trans (H9 (Nat.le_trans hr.2 hn)) an1)⟩
section
variable {c : Cx} {o : Out} {G : Gh} {f : FuncId} [ci : CallI c.P f]
end
end Go.Proofs.YtpheooheinfbgaaGreatDoor
end
section
set_option linter.unusedVariables false
set_option linter.unusedSimpArgs false
namespace Go.Proofs.YtpheooheinfbgaaGreatDoor
open Go Go.RowKit
def opAt (o : Out) : Option (Nat × Op):=match o.cur with | .ops _ (o1 :: _)=>(match o1.guard,o1.dst with | none,some d=>some (d,o1.op) | _,_=>none) | _=>none
def opAt0 (o : Out) : Option Op:=match o.cur with | .ops _ (o1 :: _)=>(match o1.guard,o1.dst with | none,none=>some o1.op | _,_=>none) | _=>none
def opNext (o : Out) (s : SV) (hp : List HE) : Out:=match o.cur with | .ops all (o1 :: r)=>⟨.ops all r,o.k,⟨(o1.dst.getD 0,s) :: o.st.fr,hp⟩,[]⟩ | _=>o
def opNext0 (o : Out) (hp : List HE) : Out:=match o.cur with | .ops all (o1 :: r)=>⟨.ops all r,o.k,⟨o.st.fr,hp⟩,[]⟩ | _=>o
section
variable {c : Cx} {o : Out} {G : Gh}
theorem am4 {α : Type} {d : Nat} {op : Op} (pat : α → SV) (Δ : α → Gh) (hop : opAt o = some (d,op))
  (h : ∀ β S w F ty,OpsKn β o.st.hp.length o.st.fr (ev F) op → Mem c.bs o.st.hp β w → Up S w → (∀ k,S k → c.S0 k) → Keeps c.K c.w0 w → G.p S w → ∃ a w',Ext w w' ∧ (pat a).Ok o.st.hp.length ∧ (Δ a).p S w' ∧ RunV c.P (ev F) op ty w ((pat a).den β) ∧ w' = w)
  (hc : c.Ok) (hn : ∀ a,Run c (opNext o (pat a) o.st.hp) ((Δ a).and G)) : Run c o G:=by
 refine ⟨fun β ρ w hS hw hG=>?_⟩
 unfold opAt at hop
 cases hcur : o.cur with
 | code x=>rw [hcur] at hop; cases hop
 | ex e=>rw [hcur] at hop; cases hop
 | ops all l=>
  cases l with
  | nil=>rw [hcur] at hop; cases hop
  | cons o1 r=>
   rw [hcur] at hop
   obtain ⟨dst,op',ty,pos,aft,g⟩:=o1
   simp only at hop
   cases g with
   | some x=>cases hop
   | none=>
    cases dst with
    | none=>cases hop
    | some d'=>
     simp only [Option.some.injEq,Prod.mk.injEq] at hop
     obtain ⟨rfl,rfl⟩:=hop
     obtain ⟨a,w',hk,hok,hΔ,hr,rfl⟩:=h β _ w ρ ty (hS.ops _) hS.mem (Sof.up (hc.up.to hw) hS.mem) (fun k hk=>hk.1) hw hG
     refine R5 rfl ?_
     unfold Stp
     rw [hr]
     have h1:=(hn a).run
     unfold opNext at h1
     rw [hcur] at h1
     exact h1 β _ w' (hS.put rfl hok) hw ⟨hΔ,hG⟩
def idxQ (E : Env) (o : Out) : Option (Value × Nat × Int × TypeId × Nat):=
 match opAt o with
 | some (_,.indexAddr t x ix)=>match opd o.st.fr x,opd o.st.fr ix,kindOf E t with
  | some (.one (.sl v n)),some (.one (.int _ i)),.slice e=>(E.get e).map fun te=>(v,n,i,e,te.size)
  | some (.one (.sl v n)),some (.one (.lit _ i)),.slice e=>(E.get e).map fun te=>(v,n,i,e,te.size)
  | _,_,_=>none
 | _=>none
theorem b01 (v : Value) (n : Nat) (i : Int) (e : TypeId) (sz : Nat) (hq : idxQ c.E o = some (v,n,i,e,sz)) (hc : c.Ok) (h0 : 0 ≤ i) (h1 : i < n) (hrow : ∀ β S w,Mem c.bs o.st.hp β w → Keeps c.K c.w0 w → G.p S w → ∃ S' T' cs,Row S' T' sz w v n cs)
  (hn : Run c (opNext o (.one (.val (.pointer (some (adr v (i.toNat * sz)))))) o.st.hp) G) : Run c o G:=by
 unfold idxQ at hq
 split at hq <;> first | (cases hq; done) | skip
 rename_i d t x ix hop
 have key : ∀ (ch : Ch) (kk : IntKind),(∀ β,ch.den β = .int kk i) → opd o.st.fr x = some (.one (.sl v n)) → opd o.st.fr ix = some (.one ch) → kindOf c.E t = .slice e → ∀ te,c.E.get e = some te → te.size = sz → Run c o G:=by
  intro ch kk hch hx hi hk te hte hsz
  subst hsz
  refine am4 (α:=Unit) (fun _=>.one (.val (.pointer (some (adr v (i.toNat * te.size)))))) (fun _=>.nil) hop (fun β S w F ty hkn hM hup hS hw hG=>⟨(),w,.refl,rfl,trivial,?_,rfl⟩) hc fun _=>T9 (fun S w _ h=>h.2) hn
  obtain ⟨S',T',cs,hr⟩:=hrow β S w hM hw hG
  have g1:=(hkn x (by simp [Op.operands]) _ hx).1
  have g2:=(hkn ix (by simp [Op.operands]) _ hi).1
  have hkd:=C1 (t:=t) hc.env
  rw [hk] at hkd
  have hkd' : c.P.underlying t = some (.slice e):=hkd
  obtain ⟨z,hty,_⟩:=(hc.env.get hte).ty
  intro d pos aft g
  rcases hr.2 with ⟨_,h2⟩ | ⟨gg,off,cap,arr,fr,hv2,_⟩
  ·omega
  ·have g1' : ev F x = .slice (some ⟨gg,off,none⟩) n cap:=by rw [g1]; exact hv2
   have g2' : ev F ix = .int kk i:=by rw [g2]; exact hch β
   simp [execOp,g1',g2',Instr.indexAt,asIntOf,run_underlying hkd',h0,h1,hty.runSize w,adr,hv2,P5,SV.den,Ch.den]
 split at hq <;> first | (cases hq; done) | skip
 ·rename_i v' n' kk i' e' hx hi hk
  cases hte : c.E.get e' with
  | none=>rw [hte] at hq; cases hq
  | some te=>
   rw [hte] at hq
   simp only [Option.map_some,Option.some.injEq,Prod.mk.injEq] at hq
   obtain ⟨rfl,rfl,rfl,rfl,hsz⟩:=hq
   exact key _ kk (fun β=>rfl) hx hi hk te hte hsz
 ·rename_i v' n' kk i' e' hx hi hk
  cases hte : c.E.get e' with
  | none=>rw [hte] at hq; cases hq
  | some te=>
   rw [hte] at hq
   simp only [Option.map_some,Option.some.injEq,Prod.mk.injEq] at hq
   obtain ⟨rfl,rfl,rfl,rfl,hsz⟩:=hq
   exact key _ kk (fun β=>rfl) hx hi hk te hte hsz
def ldQ (E : Env) (o : Out) : Option (Value × TypeId × Nat × Bool):=
 match opAt o with
 | some (_,.load T x)=>match opd o.st.fr x with
  | some (.one (.val p))=>(E.get T).map fun te=>(p,T,te.size,te.agg)
  | _=>none
 | _=>none
end
end Go.Proofs.YtpheooheinfbgaaGreatDoor
end
section
set_option linter.unusedVariables false
set_option linter.unusedSimpArgs false
namespace Go.Proofs.YtpheooheinfbgaaGreatDoor
open Go Go.RowKit
section
variable {base : Bs} {st : St} {β : Nat → Nat} {ρ : Fr} {w w' : World} {d : Nat} {T : TypeId} {s n : Nat} {v : Value} {cs : List Value}
theorem bn1 {bb : Nat} (h : Own bb T s w v n cs) : ∃ a cap,v = .slice a n cap ∧ n ≤ cap:=by
 rcases h.2 with ⟨h1,h2⟩ | ⟨g,cap,cur,rfl,_,_,h3,_⟩
 ·subst h2; exact ⟨none,0,h1,Nat.le_refl _⟩
 ·exact ⟨_,cap,rfl,h3⟩
theorem bc7 {hp : List HE} {i k : Nat} : mineAt β (hp ++ [.row T s v n cs]) i k ↔ (i = hp.length ∧ v.ownBlock = some k) ∨ (i ≠ hp.length ∧ mineAt β hp i k):=by
 by_cases e : i = hp.length
 ·subst e
  rw [L6 (e:=.row T s v n cs) (by simp)]
  simp [HE.mine]
 ·by_cases hl : i < hp.length
  ·unfold mineAt
   rw [List.getElem?_append_left hl]
   simp [e]
  ·have h1 : ¬ mineAt β hp i k:=T6 (List.getElem?_eq_none (by omega))
   have h2 : ¬ mineAt β (hp ++ [.row T s v n cs]) i k:=T6 (List.getElem?_eq_none (by simp; omega))
   simp [e,h1,h2]
theorem cp7 {S0 : Nat → Prop} {hp : List HE} (hnew : ∀ g,v.ownBlock = some g → w.heap.size ≤ g) : ∀ k,k < w.heap.size → Sof S0 β hp k → Sof S0 β (hp ++ [.row T s v n cs]) k:=by
 intro k hk ⟨h1,h2⟩
 refine ⟨h1,fun i hi=>?_⟩
 rw [bc7] at hi
 rcases hi with ⟨_,hi⟩ | ⟨_,hi⟩
 ·have:=hnew k hi; omega
 ·exact h2 i hi
theorem U8 {hp : List HE} {b : Nat} {T' : TypeId} {s' n' : Nat} {v' : Value} {cs' : List Value} (hb : b < hp.length) (i k : Nat) : mineAt β (hp.set b (.row T' s' v' n' cs')) i k ↔ (b = i ∧ v'.ownBlock = some k) ∨ (b ≠ i ∧ mineAt β hp i k):=by
 by_cases e : b = i
 ·subst e
  rw [L6 (List.getElem?_set_self hb)]
  simp [HE.mine]
 ·unfold mineAt
  rw [List.getElem?_set_ne e]
  simp [e]
theorem Sat.setRow {b : Nat} {n' : Nat} {v' : Value} {cs' : List Value} (h : Sat base st β ρ w) (hb : st.hp[b]? = some (.row T s v n cs)) (k : Keeps (fun i=>some i ≠ v.ownBlock) w w') (hown : Own 0 T s w' v' n' cs')
  (hbs : base.n ≤ w.heap.size) (hnew : v'.ownBlock = v.ownBlock ∨ ∀ g,v'.ownBlock = some g → w.heap.size ≤ g) : Sat base ⟨st.fr,st.hp.set b (.row T s v' n' cs')⟩ β ρ w':=by
 have hlen : (st.hp.set b (.row T s v' n' cs')).length = st.hp.length:=by simp
 have hbl:=(List.getElem?_eq_some_iff.1 hb).1
 have hmb : ∀ k',mineAt β st.hp b k' ↔ v.ownBlock = some k':=fun k'=>L6 hb
 have oth : ∀ {i : Nat} {k' : Nat},b ≠ i → mineAt β st.hp i k' → some k' ≠ v.ownBlock ∧ k' < w.heap.size:=fun {i k'} e hi=>⟨fun e2=>e (h.mem.apart b i k' ((hmb k').2 e2.symm) hi),(h.mem.low i k' hi).2⟩
 refine ⟨fun d=>by rw [hlen]; exact h.fr d,⟨?_,?_,?_,?_,?_⟩⟩
 ·intro i T' l2 hi
  rw [hlen]
  by_cases e : b = i
  ·subst e
   rw [List.getElem?_set_self hbl] at hi
   cases hi
  ·rw [List.getElem?_set_ne e] at hi
   obtain ⟨e1,e2⟩:=h.mem.blk i T' l2 hi
   obtain ⟨e3,e4⟩:=oth e (k':=β i) ⟨_,hi,rfl⟩
   exact ⟨(k.block (β i) e4 e3).trans e1,e2⟩
 ·intro i T' s' v2 n2 cs2 hi
  by_cases e : b = i
  ·subst e
   rw [List.getElem?_set_self hbl] at hi
   simp only [Option.some.injEq,HE.row.injEq] at hi
   obtain ⟨rfl,rfl,rfl,rfl,rfl⟩:=hi
   exact hown
  ·rw [List.getElem?_set_ne e] at hi
   exact aa3 (h.mem.row i T' s' v2 n2 cs2 hi) k fun g hg=>(oth e (k':=g) ⟨_,hi,hg⟩).1
 ·intro i A hi
  by_cases e : b = i
  ·subst e
   rw [List.getElem?_set_self hbl] at hi
   cases hi
  ·rw [List.getElem?_set_ne e] at hi
   exact A.keep (h.mem.abs i A hi) (fun g hg=>(oth e (k':=g) ⟨_,hi,hg⟩).2) k fun g hg=>(oth e (k':=g) ⟨_,hi,hg⟩).1
 ·intro i k' hk
  rw [U8 hbl] at hk
  rcases hk with ⟨_,hk⟩ | ⟨_,hk⟩
  ·refine ⟨?_,(hown.lt k' hk).2⟩
   rcases hnew with e5 | e5
   ·exact (h.mem.low b k' ((hmb k').2 (e5.symm.trans hk))).1
   ·exact .inl (Nat.le_trans hbs (e5 k' hk))
  ·obtain ⟨e1,e2⟩:=h.mem.low i k' hk
   exact ⟨e1,Nat.lt_of_lt_of_le e2 k.size⟩
 ·intro i j k' hi hj
  rw [U8 hbl] at hi hj
  rcases hi with ⟨e1,hi⟩ | ⟨e1,hi⟩ <;> rcases hj with ⟨e2,hj⟩ | ⟨e2,hj⟩
  ·omega
  ·obtain ⟨e3,e4⟩:=oth e2 hj
   rcases hnew with e5 | e5
   ·exact absurd (hi.symm.trans e5) e3
   ·have:=e5 k' hi; omega
  ·obtain ⟨e3,e4⟩:=oth e1 hi
   rcases hnew with e5 | e5
   ·exact absurd (hj.symm.trans e5) e3
   ·have:=e5 k' hj; omega
  ·exact h.mem.apart i j k' hi hj
theorem bb9 {S0 : Nat → Prop} {hp : List HE} {b n' : Nat} {v' : Value} {cs' : List Value} (hb : hp[b]? = some (.row T s v n cs)) (hnew : v'.ownBlock = v.ownBlock ∨ ∀ g,v'.ownBlock = some g → w.heap.size ≤ g) :
  ∀ k,k < w.heap.size → Sof S0 β hp k → Sof S0 β (hp.set b (.row T s v' n' cs')) k:=by
 intro k hk ⟨h1,h2⟩
 have hbl:=(List.getElem?_eq_some_iff.1 hb).1
 refine ⟨h1,fun i hi=>?_⟩
 rw [U8 hbl] at hi
 rcases hi with ⟨_,hi⟩ | ⟨_,hi⟩
 ·rcases hnew with e | e
  ·exact h2 b ⟨_,hb,e.symm.trans hi⟩
  ·have:=e k hi; omega
 ·exact h2 i hi
end
section
variable {c : Cx} {o : Out} {G : Gh}
def mkQ (E : Env) (o : Out) : Option (Int × Int × TypeId × Nat × Nat × List Ch):=
 match opAt o with
 | some (_,.makeSlice t x y)=>match opd o.st.fr x,opd o.st.fr y,kindOf E t with
  | some (.one (.int .i64 i)),some (.one (.int .i64 j)),.slice e=>(E.get e).map fun te=>(i,j,e,te.size,te.bytes,te.zero)
  | some (.one (.lit .i64 i)),some (.one (.lit .i64 j)),.slice e=>(E.get e).map fun te=>(i,j,e,te.size,te.bytes,te.zero)
  | some (.one (.lit .i64 i)),some (.one (.int .i64 j)),.slice e=>(E.get e).map fun te=>(i,j,e,te.size,te.bytes,te.zero)
  | _,_,_=>none
 | _=>none
theorem b15 {β : Nat → Nat} {w : World} {b : Nat} {T : TypeId} {s n : Nat} {v : Value} {cs : List Value} (hb : nth o.st.hp b = some (.row T s v n cs)) (hM : Mem c.bs o.st.hp β w) : Own 0 T s w v n cs:=by
 rw [I9] at hb
 exact hM.row b T s v n cs hb
def stQ (E : Env) (o : Out) : Option (Value × Nat × List Ch):=
 match opAt0 o with
 | some (.store T x y)=>match opd o.st.fr x,(opd o.st.fr y).bind SV.chunks,E.get T with
  | some (.one (.val p)),some l,some te=>bif Nat.beq (sizeL l) te.size then some (p,te.size,l) else none
  | _,_,_=>none
 | _=>none
theorem cc0 {base : Nat} {T : TypeId} {s n k m : Nat} {w : World} {g cap : Nat} {cur : Array Value} {cs new : List Value} (hcs : (cur.toList.take (n * s)) = cs) (hk : k + m ≤ n * s) (hcur : n * s ≤ cur.size) (hl : new.length = m) :
  ((cur.toList.take k ++ new ++ cur.toList.drop (k + m)).take (n * s)) = cs.take k ++ new ++ cs.drop (k + m):=by
 subst hcs
 have e1 : (cur.toList.take k).length = k:=by rw [List.length_take,Array.length_toList]; omega
 rw [List.take_append,List.take_of_length_le (l:=cur.toList.take k ++ new) (by simp; omega),List.length_append,e1,hl,List.take_take,Nat.min_eq_left (by omega : k ≤ n * s),List.drop_take,List.take_drop]
theorem cq7 {T : TypeId} {s n : Nat} {cs : List Value} (b k : Nat) (v : Value) (sz : Nat) (l : List Ch) (cs' : List Value) (hq : stQ c.E o = some (.pointer (some (adr v k)),sz,l)) (hb : nth o.st.hp b = some (.row T s v n cs)) (hc : c.Ok) (h0 : 0 < sz)
  (hk : k + sz ≤ n * s) (hcs : ∀ β S w,Keeps c.K c.w0 w → G.p S w → cs.take k ++ cellsL β l ++ cs.drop (k + sz) = cs')
  (hn : Run c (opNext0 o (setN o.st.hp b (.row T s v n cs'))) G) : Run c o G:=by
 refine ⟨fun β ρ w hS hw hG=>?_⟩
 unfold stQ at hq
 split at hq <;> first | (cases hq; done) | skip
 rename_i T' x y hop
 split at hq <;> first | (cases hq; done) | skip
 rename_i p l' te' hx hy hte
 cases hsz : Nat.beq (sizeL l') te'.size with
 | false=>rw [hsz] at hq; cases hq
 | true=>
  rw [hsz] at hq
  simp only [cond_true,Option.some.injEq,Prod.mk.injEq] at hq
  obtain ⟨rfl,rfl,rfl⟩:=hq
  have hsz:=Nat.eq_of_beq_eq_true hsz
  unfold opAt0 at hop
  cases hcur : o.cur with
  | code x=>rw [hcur] at hop; cases hop
  | ex e=>rw [hcur] at hop; cases hop
  | ops all ll=>
   cases ll with
   | nil=>rw [hcur] at hop; cases hop
   | cons o1 r=>
    rw [hcur] at hop
    obtain ⟨dst,op',ty,pos,aft,g⟩:=o1
    simp only at hop
    cases g with
    | some x=>cases hop
    | none=>
     cases dst with
     | some d'=>cases hop
     | none=>
      simp only [Option.some.injEq] at hop
      subst hop
      have hkn:=hS.ops (.store T' x y)
      have g1 : ev ρ x = .pointer (some (adr v k)):=((hkn x (by simp [Op.operands])) _ hx).1
      cases hyo : opd o.st.fr y with
      | none=>rw [hyo] at hy; cases hy
      | some yv=>
       rw [hyo] at hy
       simp only [Option.bind_some] at hy
       have g2:=(hkn y (by simp [Op.operands])) _ hyo
       obtain ⟨g3,g4⟩:=SV.chunks_ok (β:=β) hy g2.2
       have hlen:=G9 (β:=β) g4
       obtain ⟨z,hty,_⟩:=(hc.env.get hte).ty
       have hown:=b15 hb hS.mem
       rw [I9] at hb
       rcases hown.2 with ⟨_,h2⟩ | ⟨gb,cap,cur,hv,hbg,hg,hnc,hcm,hcz,htk⟩
       ·subst h2; omega
       ·have hle : n * s ≤ cap * s:=Nat.mul_le_mul_right _ hnc
        have hst:=run_storeCells_at c.P gb k T (cellsL β l') 0 cur w hg (by omega) (N5 g4)
        have hcs2:=hcs β _ w hw hG
        have ha : adr v k = ⟨gb,k,none⟩:=by rw [hv]; simp [adr]
        have hrun : ∀ d pos aft g,(execOp (ev ρ) ⟨d,.store T' x y,ty,pos,aft,g⟩).run c.P w = .ok .skip (w.setRow gb (cur.toList.take (k + 0) ++ cellsL β l' ++ cur.toList.drop (k + 0 + (cellsL β l').length)).toArray):=by
         intro d pos aft g
         have e10 : (cellsL β l').length = te'.size:=by omega
         simp only [Nat.add_zero,e10] at hst ⊢
         simp [execOp,g1,g2.1,Instr.storeAt,Instr.sureAddr,storeVar,hty.runSize w,g3,e10,ha,hst]
        have k1 : Keeps (fun i=>some i ≠ v.ownBlock) w (w.setRow gb (cur.toList.take (k + 0) ++ cellsL β l' ++ cur.toList.drop (k + 0 + (cellsL β l').length)).toArray):=
         ⟨rfl,rfl,rfl,by simp [World.setRow],fun i _ hi=>setRow_other w _ i _ (fun e=>hi (by rw [hv,e]; rfl))⟩
        have hown2 : Own 0 T s (w.setRow gb (cur.toList.take (k + 0) ++ cellsL β l' ++ cur.toList.drop (k + 0 + (cellsL β l').length)).toArray) v n cs':=by
         refine ⟨?_,.inr ⟨gb,cap,_,hv,hbg,setRow_heap w gb cur _ T (0,0) hg,hnc,hcm,?_,?_⟩⟩
         ·rw [← hcs2]
          have:=hown.1
          simp [hlen,hsz]
          omega
         ·simp [hlen,hsz]; omega
         ·rw [← hcs2,Nat.add_zero]
          have:=cc0 (base:=0) (T:=T) (w:=w) (g:=gb) (cap:=cap) (new:=cellsL β l') (m:=te'.size) htk hk (by omega) (by omega)
          rw [hlen,hsz]
          exact this
        have hS2:=hS.setRow hb k1 hown2 hw.size (.inl rfl)
        refine R5 rfl ?_
        unfold Stp
        rw [hrun]
        have h1:=hn.run
        unfold opNext0 at h1
        rw [hcur,O7] at h1
        have hmb : ∀ i,some i = v.ownBlock → mineAt β o.st.hp b i:=fun i hi=>⟨_,hb,hi.symm⟩
        refine h1 β _ _ hS2 ?_ ?_
        ·exact hS.mem.grow hw k1 b fun i hi=>hmb i (Classical.byContradiction hi)
        ·exact G.mono (G.keep hG (k1.mono fun i hi e=>hi.2 b (hmb i e))) fun i hi hk=>bb9 (w:=w) hb (.inl rfl) i (by simpa [World.setRow] using hi) hk
theorem ay3 {base : Nat} {T : TypeId} {s n : Nat} {w : World} {v : Value} {cs : List Value} (h : Own base T s w v n cs) : ∃ S',Row S' T s w v n cs:=⟨All,Row.of_own h fun _ _=>trivial⟩
end
end Go.Proofs.YtpheooheinfbgaaGreatDoor
end
section
set_option linter.unusedVariables false
set_option linter.unusedSimpArgs false
namespace Go.Proofs.YtpheooheinfbgaaGreatDoor
open Go Go.RowKit
theorem G7 : ∀ {m : Nat} {l : List Ch},(l.foldr (fun c p=>c.Ok m ∧ p) True) → (SV.agg l).Ok m:=by
 intro m l
 induction l with
 | nil=>intro _ c hc; cases hc
 | cons a r ih=>
  intro h c hc
  rcases List.mem_cons.1 hc with rfl | hc
  ·exact h.1
  ·exact ih h.2 c hc
def At (S : Nat → Prop) (w : World) (u : Value) (cs : List Value) : Prop:=
 ∃ b o arr T fr,u = .pointer (some ⟨b,o,none⟩) ∧ S b ∧ w.heap[b]? = some (.cells arr T fr) ∧ o + cs.length ≤ arr.size ∧ (arr.toList.drop o).take cs.length = cs
theorem At.keep {S : Nat → Prop} {w w' : World} {u : Value} {cs : List Value} (h : At S w u cs) (k : Keeps S w w') : At S w' u cs:=by
 obtain ⟨b,o,arr,T,fr,h1,h2,h3,h4,h5⟩:=h
 exact ⟨b,o,arr,T,fr,h1,h2,(k.block b (Array.getElem?_eq_some_iff.1 h3).1 h2).trans h3,h4,h5⟩
theorem At.mono {S S' : Nat → Prop} {w : World} {u : Value} {cs : List Value} (h : At S w u cs) (hs : ∀ k,k < w.heap.size → S k → S' k) : At S' w u cs:=by
 obtain ⟨b,o,arr,T,fr,h1,h2,h3,h4,h5⟩:=h
 exact ⟨b,o,arr,T,fr,h1,hs b (Array.getElem?_eq_some_iff.1 h3).1 h2,h3,h4,h5⟩
theorem At.of_row {S : Nat → Prop} {T : TypeId} {s : Nat} {w : World} {v : Value} {n i : Nat} {cs : List Value} (h : Row S T s w v n cs) (hi : i < n) : At S w (.pointer (some (adr v (i * s)))) ((cs.drop (i * s)).take s):=by
 have h1 : (i + 1) * s ≤ n * s:=Nat.mul_le_mul_right _ hi
 rw [Nat.add_mul,Nat.one_mul] at h1
 have hl : ((cs.drop (i * s)).take s).length = s:=by rw [List.length_take,List.length_drop,h.1]; omega
 rcases h.2 with ⟨_,h2⟩ | ⟨b,off,cap,arr,fr,hv,h2,h3,h4,h5,h6,h7⟩
 ·omega
 ·subst hv
  have h8 : n * s ≤ cap * s:=Nat.mul_le_mul_right _ h2
  refine ⟨b,off + i * s,arr,T,fr,rfl,h4,h5,by rw [hl]; omega,?_⟩
  rw [hl,← h7,List.drop_take,List.drop_drop,List.take_take]
  congr 1
  omega
theorem At.cell {S : Nat → Prop} {w : World} {u : Value} {cs : List Value} (h : At S w u cs) : ∃ b o,u = .pointer (some ⟨b,o,none⟩) ∧ ∀ i,i < cs.length → w.cell? ⟨b,o + i,none⟩ = cs[i]?:=by
 obtain ⟨b,o,arr,T,fr,h1,h2,h3,h4,h5⟩:=h
 refine ⟨b,o,h1,fun i hi=>?_⟩
 simp only [World.cell?,h3]
 have h6 : cs[i]? = ((arr.toList.drop o).take cs.length)[i]?:=by rw [h5]
 rw [h6,List.getElem?_take,if_pos hi,List.getElem?_drop]
 simp
def Lies (g : Bool) (s : Nat) (x : Value) : Prop:=x.cells.toList.length = s ∧ bif g then x = .agg x.cells else x.cells = #[x]
theorem a43 (cs : List Value) : Lies true cs.length (.agg cs.toArray):=⟨by simp [Value.cells],by simp [Value.cells]⟩
theorem b36 {x : Value} (h : x.oneCell' = true) : Lies false 1 x:=⟨by rw [O3 h]; rfl,O3 h⟩
theorem At.load {P : Program} {T : TypeId} {s b : Nat} {z : Value} {g : Bool} {S : Nat → Prop} {w : World} {u x : Value} (hty : TyI P T s b z g) (h : At S w u x.cells.toList) (hx : Lies g s x) {ρ : Operand → Value} {ty : TypeId} {y : Operand} (hy : ρ y = u) : RunV P ρ (.load T y) ty w x:=by
 obtain ⟨b',o,rfl,hc⟩:=h.cell
 obtain ⟨h1,h2⟩:=hx
 have hlv : (loadVar T ⟨b',o,none⟩).run P w = .ok x w:=by
  cases g with
  | true=>
   simp only [cond_true] at h2
   have h3:=Z4 hty h1 hc
   rw [h3]
   congr 1
   rw [h2]
   simp [Value.cells]
  | false=>
   simp only [cond_false] at h2
   have h3:=hc 0 (by rw [h2]; simp)
   rw [h2] at h3
   exact M4 hty (by simpa using h3)
 intro d pos aft g'
 simp [execOp,hy,Instr.loadAt,Instr.sureAddr,hlv]
abbrev atG (g : Bool) (s : Nat) (Δ : Value → Gh) (u : Value) : Gh:=
 ⟨fun S w=>∃ x,Lies g s x ∧ At S w u x.cells.toList ∧ (Δ x).p S w,fun ⟨x,h1,h2,h3⟩ k=>⟨x,h1,h2.keep k,(Δ x).keep h3 k⟩,fun ⟨x,h1,h2,h3⟩ k=>⟨x,h1,h2.mono k,(Δ x).mono h3 k⟩⟩
structure SeqV {α : Type} (g : Bool) (s : Nat) (F : Value → α → Gh) (S : Nat → Prop) (w : World) (v : Value) (l : List α) : Prop where
 row : ∃ (T : TypeId) (vs : List Value),vs.length = l.length ∧ (∀ x ∈ vs,Lies g s x) ∧ Row S T s w v l.length (vs.flatMap fun x=>x.cells.toList) ∧ ∀ (i : Nat) a x,l[i]? = some a → vs[i]? = some x → (F x a).p S w
section
variable {α : Type} {g : Bool} {s : Nat} {F : Value → α → Gh} {S S' : Nat → Prop} {w w' : World} {v : Value} {l : List α}
theorem SeqV.keep (h : SeqV g s F S w v l) (k : Keeps S w w') : SeqV g s F S w' v l:=let ⟨T,vs,h1,h2,h3,h4⟩:=h.row; ⟨T,vs,h1,h2,h3.keep k,fun i a x ha hx=>(F x a).keep (h4 i a x ha hx) k⟩
theorem SeqV.mono (h : SeqV g s F S w v l) (hs : ∀ k,k < w.heap.size → S k → S' k) : SeqV g s F S' w v l:=let ⟨T,vs,h1,h2,h3,h4⟩:=h.row; ⟨T,vs,h1,h2,h3.mono hs,fun i a x ha hx=>(F x a).mono (h4 i a x ha hx) hs⟩
theorem X4 {vs : List Value} (h : ∀ x ∈ vs,Lies g s x) : ∀ {i : Nat} {x : Value},vs[i]? = some x → ((vs.flatMap fun x=>x.cells.toList).drop (i * s)).take s = x.cells.toList:=by
 induction vs with
 | nil=>intro i x hx; simp at hx
 | cons y r ih=>
  intro i x hx
  have hy:=(h y (List.mem_cons_self ..)).1
  rw [List.flatMap_cons]
  cases i with
  | zero=>
   simp only [List.getElem?_cons_zero,Option.some.injEq] at hx
   subst hx
   rw [Nat.zero_mul,List.drop_zero,List.take_left' hy]
  | succ i=>
   rw [Nat.add_mul,Nat.one_mul,Nat.add_comm,← List.drop_drop,List.drop_left' hy]
   exact ih (fun x hx=>h x (List.mem_cons_of_mem _ hx)) (by simpa using hx)
theorem SeqV.at (h : SeqV g s F S w v l) {i : Nat} {a : α} (hi : l[i]? = some a) : (atG g s (fun x=>F x a) (.pointer (some (adr v (i * s))))).p S w:=by
 obtain ⟨T,vs,h1,h2,h3,h4⟩:=h.row
 have hil:=(List.getElem?_eq_some_iff.1 hi).1
 have hx : vs[i]? = some vs[i]:=List.getElem?_eq_getElem (by omega)
 have hr:=At.of_row h3 hil
 rw [X4 h2 hx] at hr
 exact ⟨vs[i],h2 _ (List.getElem_mem _),hr,h4 i a _ hi hx⟩
theorem SeqV.sl (h : SeqV g s F S w v l) : (SV.one (.sl v l.length)).Ok 0:=by
 obtain ⟨T,vs,h1,h2,h3,h4⟩:=h.row
 exact h3.slice
theorem SeqV.len_le (h : SeqV g s F S w v l) : l.length ≤ maxLen:=by
 obtain ⟨T,vs,h1,h2,h3,h4⟩:=h.row
 exact h3.len_le
end
abbrev pureG (p : Prop) : Gh:=⟨fun _ _=>p,fun h _=>h,fun h _=>h⟩
theorem SeqV.el {α : Type} {g : Bool} {s : Nat} {F : Value → α → Gh} {S : Nat → Prop} {w : World} {v : Value} {l : List α} (h : SeqV g s F S w v l) {i : Int} {k n : Nat} {a : α} (hn : n = l.length) (hi : i = (k : Int)) (ha : l[k]? = some a) :
  0 ≤ i ∧ i < n ∧ (∃ S' T' cs,Row S' T' s w v n cs) ∧ (atG g s (fun x=>F x a) (.pointer (some (adr v (i.toNat * s))))).p S w:=by
 subst hi
 subst hn
 have hk:=(List.getElem?_eq_some_iff.1 ha).1
 obtain ⟨T,vs,h1,h2,h3,h4⟩:=h.row
 exact ⟨by omega,by omega,⟨S,T,_,h3⟩,h.at ha⟩
abbrev seqG {α : Type} (g : Bool) (s : Nat) (F : Value → α → Gh) (v : Value) (l : List α) : Gh:=⟨fun S w=>SeqV g s F S w v l,fun h k=>h.keep k,fun h k=>h.mono k⟩
section
variable {c : Cx} {o : Out} {G : Gh}
theorem ay0 (v : Value) (n : Nat) (i : Int) (e : TypeId) (sz : Nat) (Δ : Value → Gh) (hq : idxQ c.E o = some (v,n,i,e,sz)) (hc : c.Ok)
  (h : ∀ β S w,Mem c.bs o.st.hp β w → Keeps c.K c.w0 w → G.p S w → 0 ≤ i ∧ i < n ∧ (∃ S' T' cs,Row S' T' sz w v n cs) ∧ (Δ (.pointer (some (adr v (i.toNat * sz))))).p S w)
  (hn : ∀ u,Run c (opNext o (.one (.val u)) o.st.hp) ((Δ u).and G)) : Run c o G:=by
 refine ⟨fun β ρ w hS hw hG=>?_⟩
 have h1:=h β (Sof c.S0 β o.st.hp) w hS.mem hw hG
 refine (b01 (G:=(Δ (.pointer (some (adr v (i.toNat * sz))))).and G) v n i e sz hq hc h1.1 h1.2.1 (fun β S w hM hw hG=>(h β S w hM hw hG.2).2.2.1) ?_).run β ρ w hS hw ⟨h1.2.2.2,hG⟩
 exact hn _
theorem az5 (u : Value) (T : TypeId) (sz : Nat) (g : Bool) (pat : Value → SV) (Δ : Value → Gh) (hq : ldQ c.E o = some (u,T,sz,g)) (hc : c.Ok)
  (h : ∀ S w,Keeps c.K c.w0 w → G.p S w → (atG g sz Δ u).p S w) (hok : ∀ a S w,(Δ a).p S w → (pat a).Ok 0 ∧ (pat a).den (fun _=>0) = a)
  (hn : ∀ a,Run c (opNext o (pat a) o.st.hp) ((Δ a).and G)) : Run c o G:=by
 unfold ldQ at hq
 split at hq <;> first | (cases hq; done) | skip
 rename_i d T' x hop
 split at hq <;> first | (cases hq; done) | skip
 rename_i p hx
 cases hte : c.E.get T' with
 | none=>rw [hte] at hq; cases hq
 | some te=>
  rw [hte] at hq
  simp only [Option.map_some,Option.some.injEq,Prod.mk.injEq] at hq
  obtain ⟨rfl,rfl,rfl,rfl⟩:=hq
  refine am4 pat Δ hop (fun β S w F ty hkn hM hup hS hw hG=>?_) hc hn
  obtain ⟨a,h1,h2,h3⟩:=h S w hw hG
  obtain ⟨h4,h5⟩:=hok a S w h3
  have g1 : ev F x = p:=(hkn x (by simp [Op.operands]) _ hx).1
  obtain ⟨z,hty,_⟩:=(hc.env.get hte).ty
  refine ⟨a,w,.refl,h4.le (Nat.zero_le _),h3,?_,rfl⟩
  rw [SV.den_congr (m:=0) (β':=fun _=>0) (fun i hi=>absurd hi (Nat.not_lt_zero i)) h4,h5]
  exact h2.load hty h1 g1
end
section
variable {c : Cx} {st : St} {G : Gh} {all : List Oper} {K : List HRec → Prop} {acc : List HRec} {ops : List Oper}
def hopOk (all : List Oper) (st : St) (acc : List HRec) (ops : List Oper) (η : Nat → Value) : Bool:=guardRun all (frH st acc η) (opH ops) && (opH ops).dst.isSome && !ops.isEmpty
theorem az9 (p : Value → SV) (Δ : Value → Gh) (hok : ∀ η,hopOk all st acc ops η = true)
  (h : ∀ β η S w F m ty,OpsKn β m (frH st acc η) (ev F) (opH ops).op → Up S w → Mem c.bs st.hp β w → (∀ k,S k → c.S0 k) → Keeps c.K c.w0 w → G.p S w → depsH acc (opH ops).after.toList η S w → ∃ v,RunV c.P (ev F) (opH ops).op ty w v ∧ v = (p v).den (fun _=>0) ∧ (p v).Ok 0 ∧ (Δ v).p S w)
  (k : Hd c st G all K (.spec ((opH ops).dst.getD 0) p Δ :: acc) (ops.drop 1)) : Hd c st G all K acc ops:=by
 cases ops with
 | nil=>have:=hok η0; simp [hopOk] at this
 | cons o r=>
  refine ⟨⟨.spec ((opH (o :: r)).dst.getD 0) p Δ,⟨?_,fun η=>?_⟩,k.run⟩⟩
  ·have:=hok η0
   simp only [hopOk,Bool.and_eq_true] at this
   cases hx : o.dst with
   | none=>have h2:=this.1.2; simp [opH,hx] at h2
   | some d=>simp [opH,hx]
  ·have h1:=hok η
   simp only [hopOk,Bool.and_eq_true] at h1
   refine ⟨h1.1.1,fun β S w F m hkn hup hM hS hw hG hd=>?_⟩
   obtain ⟨dst,op,ty,pos,aft,g⟩:=o
   obtain ⟨v,e1,e2,e3,e4⟩:=h β η S w F m ty hkn hup hM hS hw hG hd
   have e0:=e1 dst pos aft g
   unfold OpRun
   simp only [opH] at e0
   rw [e0]
   exact ⟨.refl,e2,e3,e4⟩
def idxH (c : Cx) (st : St) (acc : List HRec) (ops : List Oper) (η : Nat → Value) : Option (Value × Nat × Int × TypeId × Nat):=
 match (opH ops).op with
 | .indexAddr t x ix=>match opd (frH st acc η) x,opd (frH st acc η) ix,kindOf c.E t with
  | some (.one (.sl v n)),some (.one (.int _ i)),.slice e=>(c.E.get e).map fun te=>(v,n,i,e,te.size)
  | some (.one (.sl v n)),some (.one (.lit _ i)),.slice e=>(c.E.get e).map fun te=>(v,n,i,e,te.size)
  | _,_,_=>none
 | _=>none
theorem ay6 (v : (Nat → Value) → Value) (n : Nat) (i : Int) (e : TypeId) (sz : Nat) (Δ : Value → Gh) (hok : ∀ η,hopOk all st acc ops η = true) (hq : ∀ η,idxH c st acc ops η = some (v η,n,i,e,sz)) (hc : c.Ok)
  (h : ∀ β η S w,Mem c.bs st.hp β w → Keeps c.K c.w0 w → G.p S w → depsH acc (opH ops).after.toList η S w → 0 ≤ i ∧ i < n ∧ (∃ S' T' cs,Row S' T' sz w (v η) n cs) ∧ (Δ (.pointer (some (adr (v η) (i.toNat * sz))))).p S w)
  (k : Hd c st G all K (.spec ((opH ops).dst.getD 0) (fun u=>.one (.val u)) Δ :: acc) (ops.drop 1)) : Hd c st G all K acc ops:=by
 refine az9 (fun u=>.one (.val u)) Δ hok (fun β η S w F m ty hkn hup hM hS hw hG hd=>?_) k
 obtain ⟨h0,h1,⟨S',T',cs,hr⟩,h3⟩:=h β η S w hM hw hG hd
 have hq:=hq η
 unfold idxH at hq
 split at hq <;> first | (cases hq; done) | skip
 rename_i t x ix hop
 refine ⟨.pointer (some (adr (v η) (i.toNat * sz))),?_,rfl,(rfl : Value.oneCell' _ = true),h3⟩
 rw [hop] at hkn ⊢
 have key : ∀ (ch : Ch) (kk : IntKind) (v' : Value) (n' : Nat) (i' : Int) (e' : TypeId),(∀ β,ch.den β = .int kk i') → opd (frH st acc η) x = some (.one (.sl v' n')) → opd (frH st acc η) ix = some (.one ch) → kindOf c.E t = .slice e' →
   ((c.E.get e').map fun te=>(v',n',i',e',te.size)) = some (v η,n,i,e,sz) → RunV c.P (ev F) (.indexAddr t x ix) ty w (.pointer (some (adr (v η) (i.toNat * sz)))):=by
  intro ch kk v' n' i' e' hch hx hi hk hq
  cases hte : c.E.get e' with
  | none=>rw [hte] at hq; cases hq
  | some te=>
   rw [hte] at hq
   simp only [Option.map_some,Option.some.injEq,Prod.mk.injEq] at hq
   obtain ⟨rfl,rfl,rfl,rfl,rfl⟩:=hq
   have g1:=(hkn x (by simp [Op.operands]) _ hx).1
   have g2:=(hkn ix (by simp [Op.operands]) _ hi).1
   have hkd:=C1 (t:=t) hc.env
   rw [hk] at hkd
   have hkd' : c.P.underlying t = some (.slice e'):=hkd
   obtain ⟨z,hty,_⟩:=(hc.env.get hte).ty
   intro d pos aft g
   rcases hr.2 with ⟨_,h2⟩ | ⟨gg,off,cap,arr,fr,hv2,_⟩
   ·omega
   ·have g1' : ev F x = .slice (some ⟨gg,off,none⟩) n' cap:=by rw [g1]; exact hv2
    have g2' : ev F ix = .int kk i':=by rw [g2]; exact hch β
    simp [execOp,g1',g2',Instr.indexAt,asIntOf,run_underlying hkd',h0,h1,hty.runSize w,adr,hv2,P5]
 split at hq <;> first | (cases hq; done) | skip
 ·exact key _ _ _ _ _ _ (fun β=>rfl) (by assumption) (by assumption) (by assumption) hq
 ·exact key _ _ _ _ _ _ (fun β=>rfl) (by assumption) (by assumption) (by assumption) hq
def ldH (c : Cx) (st : St) (acc : List HRec) (ops : List Oper) (η : Nat → Value) : Option (Value × TypeId × Nat × Bool):=
 match (opH ops).op with
 | .load T x=>match opd (frH st acc η) x with
  | some (.one (.val p))=>(c.E.get T).map fun te=>(p,T,te.size,te.agg)
  | _=>none
 | _=>none
theorem s6 (u : (Nat → Value) → Value) (T : TypeId) (sz : Nat) (g : Bool) (pat : Value → SV) (Δ : Value → Gh) (hok : ∀ η,hopOk all st acc ops η = true) (hq : ∀ η,ldH c st acc ops η = some (u η,T,sz,g)) (hc : c.Ok)
  (hpat : ∀ a S w,(Δ a).p S w → (pat a).Ok 0 ∧ (pat a).den (fun _=>0) = a) (h : ∀ β η S w,Mem c.bs st.hp β w → Keeps c.K c.w0 w → G.p S w → depsH acc (opH ops).after.toList η S w → ∃ S' x,Lies g sz x ∧ At S' w (u η) x.cells.toList ∧ (Δ x).p S w)
  (k : Hd c st G all K (.spec ((opH ops).dst.getD 0) pat Δ :: acc) (ops.drop 1)) : Hd c st G all K acc ops:=by
 refine az9 pat Δ hok (fun β η S w F m ty hkn hup hM hS hw hG hd=>?_) k
 obtain ⟨S',a,h1,h2,h3⟩:=h β η S w hM hw hG hd
 obtain ⟨h4,h5⟩:=hpat a S w h3
 have hq:=hq η
 unfold ldH at hq
 split at hq <;> first | (cases hq; done) | skip
 rename_i T' x hop
 split at hq <;> first | (cases hq; done) | skip
 rename_i p hx
 cases hte : c.E.get T' with
 | none=>rw [hte] at hq; cases hq
 | some te=>
  rw [hte] at hq
  simp only [Option.map_some,Option.some.injEq,Prod.mk.injEq] at hq
  obtain ⟨rfl,rfl,rfl,rfl⟩:=hq
  rw [hop] at hkn ⊢
  have g1 : ev F x = u η:=(hkn x (by simp [Op.operands]) _ hx).1
  obtain ⟨z,hty,_⟩:=(hc.env.get hte).ty
  exact ⟨a,h2.load hty h1 g1,h5.symm,h4,h3⟩
end
section
variable {c : Cx} {o : Out} {G : Gh}
theorem bd9 {β : Nat → Nat} {w : World} (b : Nat) (T : TypeId) (s n : Nat) (v : Value) (cs : List Value) (hb : nth o.st.hp b = some (.row T s v n cs)) (hM : Mem c.bs o.st.hp β w) : ∃ S',Row S' T s w v n cs:=ay3 (b15 hb hM)
def intAt (st : St) (d : Nat) : Option Int:=match look st.fr d with | some (.one (.int .i64 z))=>some z | some (.one (.lit .i64 z))=>some z | _=>none
theorem P9 (d : Nat) (a b : Int) (hq : intAt o.st d = some a) (h : a = b) (k : Run c (setSlot o d (.one (.int .i64 b))) G) : Run c o G:=by
 subst h
 refine cn1 d (.one (.int .i64 a)) (fun β=>?_) trivial k
 unfold intAt at hq
 split at hq <;> first | (cases hq; done) | skip
 all_goals
  rename_i z hl
  simp only [Option.some.injEq] at hq
  subst hq
  unfold slotV
  rw [hl]
  rfl
end
section
variable {c : Cx} {o : Out} {G : Gh}
end
end Go.Proofs.YtpheooheinfbgaaGreatDoor
end
section
set_option linter.unusedVariables false
set_option linter.unusedSimpArgs false
namespace Go.Proofs.YtpheooheinfbgaaGreatDoor
open Go Go.RowKit
def ptrAdd (u : Value) (o : Nat) : Value:=match u with | .pointer (some ⟨g,o0,none⟩)=>.pointer (some ⟨g,o0 + o,none⟩) | _=>.nilFunc
def winOf (u : Value) (o m k : Nat) : Value:=match u with | .pointer (some ⟨g,o0,none⟩)=>.slice (some ⟨g,o0 + o,none⟩) m k | _=>.nilFunc
theorem aq4 (u : Value) (o : Nat) : (ptrAdd u o).oneCell' = true:=by unfold ptrAdd; split <;> rfl
theorem bq6 (u : Value) (o m k : Nat) : (winOf u o m k).oneCell' = true:=by unfold winOf; split <;> rfl
def capSub (b : Nat) (u : Value) : Nat ⊕ Value → Nat ⊕ Value
 | .inl b'=>bif Nat.beq b' b then .inr u else .inl b'
 | .inr x=>.inr x
def Ch.sub (b : Nat) (u : Value) : Ch → Ch
 | .ptr b' o=>bif Nat.beq b' b then .val (ptrAdd u o) else .ptr b' o
 | .fn g cap=>.fn g (cap.map (capSub b u))
 | .win b' o m k=>bif Nat.beq b' b then .val (winOf u o m k) else .win b' o m k
 | c=>c
def SV.sub (b : Nat) (u : Value) : SV → SV
 | .one c=>.one (c.sub b u)
 | .agg l=>.agg (l.map (Ch.sub b u))
 | .tup l=>.tup (l.map fun p=>(p.1,p.2.map (Ch.sub b u)))
 | .und=>.und
def HE.sub (b : Nat) (u : Value) : HE → HE
 | .blk T l=>.blk T (l.map (Ch.sub b u))
 | e=>e
def frSub (b : Nat) (u : Value) : List (Nat × SV) → List (Nat × SV)
 | []=>[]
 | p :: r=>(p.1,p.2.sub b u) :: frSub b u r
def hpSub (b : Nat) (u : Value) : List HE → List HE
 | []=>[]
 | e :: r=>e.sub b u :: hpSub b u r
def subO (b : Nat) (u : Value) (o : Out) : Out:=⟨o.cur,o.k,⟨frSub b u o.st.fr,hpSub b u (setN o.st.hp b .gone)⟩,[]⟩
theorem a67 {b : Nat} {u : Value} : ∀ (l : List HE),hpSub b u l = l.map (HE.sub b u):=by
 intro l
 induction l with
 | nil=>rfl
 | cons e r ih=>simp [hpSub,ih]
section
variable {b m : Nat} {u : Value} {β : Nat → Nat}
theorem Ch.sub_den (hu : u = .pointer (some ⟨β b,0,none⟩)) (c : Ch) : (c.sub b u).den β = c.den β:=by
 subst hu
 cases c with
 | ptr b' o=>
  simp only [Ch.sub]
  cases hb : Nat.beq b' b with
  | true=>obtain rfl:=Nat.eq_of_beq_eq_true hb; simp [Ch.den,ptrAdd]
  | false=>rfl
 | win b' o m k=>
  simp only [Ch.sub]
  cases hb : Nat.beq b' b with
  | true=>obtain rfl:=Nat.eq_of_beq_eq_true hb; simp [Ch.den,winOf]
  | false=>rfl
 | fn g cap=>
  simp only [Ch.sub,Ch.den,List.map_map]
  congr 2
  refine List.map_congr_left fun x _=>?_
  cases x with
  | inr x=>rfl
  | inl b'=>
   simp only [Function.comp,capSub]
   cases hb : Nat.beq b' b with
   | true=>obtain rfl:=Nat.eq_of_beq_eq_true hb; rfl
   | false=>rfl
 | _=>rfl
theorem Ch.sub_cells (hu : u = .pointer (some ⟨β b,0,none⟩)) (c : Ch) : (c.sub b u).cells β = c.cells β:=by
 have h:=Ch.sub_den hu c
 cases c with
 | ag n x=>rfl
 | ptr b' o=>
  simp only [Ch.sub] at h ⊢
  cases hb : Nat.beq b' b with
  | true=>rw [hb] at h; exact congrArg (fun x=>[x]) h
  | false=>rfl
 | win b' o m k=>
  simp only [Ch.sub] at h ⊢
  cases hb : Nat.beq b' b with
  | true=>rw [hb] at h; exact congrArg (fun x=>[x]) h
  | false=>rfl
 | fn g cap=>exact congrArg (fun x=>[x]) h
 | _=>rfl
theorem Ch.sub_ok (hu : u.oneCell' = true) {c : Ch} (h : c.Ok m) : (c.sub b u).Ok m:=by
 cases c with
 | ptr b' o=>
  simp only [Ch.sub]
  cases hb : Nat.beq b' b with
  | true=>exact aq4 u o
  | false=>exact h
 | win b' o m' k=>
  simp only [Ch.sub]
  cases hb : Nat.beq b' b with
  | true=>exact bq6 u o m' k
  | false=>exact h
 | fn g cap=>
  intro b2 hb2
  obtain ⟨x,hx,he⟩:=List.mem_map.1 hb2
  cases x with
  | inr x=>cases he
  | inl b'=>
   simp only [capSub] at he
   cases hb : Nat.beq b' b with
   | true=>rw [hb] at he; cases he
   | false=>
    rw [hb] at he
    simp only [cond_false,Sum.inl.injEq] at he
    subst he
    exact h _ hx
 | _=>exact h
theorem ad1 (hu : u = .pointer (some ⟨β b,0,none⟩)) (l : List Ch) : cellsL β (l.map (Ch.sub b u)) = cellsL β l:=by
 induction l with
 | nil=>rfl
 | cons c r ih=>
  simp only [cellsL,List.map_cons,List.flatMap_cons] at ih ⊢
  rw [Ch.sub_cells hu,ih]
theorem SV.sub_den (hu : u = .pointer (some ⟨β b,0,none⟩)) (s : SV) : (s.sub b u).den β = s.den β:=by
 cases s with
 | one c=>exact Ch.sub_den hu c
 | agg l=>simp only [SV.sub,SV.den]; rw [ad1 hu]
 | tup l=>
  simp only [SV.sub,SV.den,List.map_map]
  congr 2
  refine List.map_congr_left fun p _=>?_
  obtain ⟨g,l⟩:=p
  simp only [Function.comp]
  cases g with
  | true=>simp only [partDen]; rw [ad1 hu]
  | false=>
   cases l with
   | nil=>rfl
   | cons c r=>exact Ch.sub_den hu c
 | und=>rfl
theorem SV.sub_ok (hu : u.oneCell' = true) {s : SV} (h : s.Ok m) : (s.sub b u).Ok m:=by
 cases s with
 | one c=>exact Ch.sub_ok (c:=c) hu h
 | agg l=>
  intro c hc
  obtain ⟨d,hd,rfl⟩:=List.mem_map.1 hc
  exact Ch.sub_ok hu (h d hd)
 | tup l=>
  intro p hp c hc
  obtain ⟨q,hq,rfl⟩:=List.mem_map.1 hp
  obtain ⟨d,hd,rfl⟩:=List.mem_map.1 hc
  exact Ch.sub_ok hu (h q hq d hd)
 | und=>trivial
theorem bg0 : ∀ {fr : List (Nat × SV)} {d : Nat} {s : SV},look (frSub b u fr) d = some s → ∃ s0,look fr d = some s0 ∧ s = s0.sub b u:=by
 intro fr
 induction fr with
 | nil=>intro d s h; cases h
 | cons p r ih=>
  obtain ⟨i,x⟩:=p
  intro d s h
  simp only [frSub] at h
  rw [F2] at h ⊢
  split
  ·rename_i e
   rw [if_pos e] at h
   simp only [Option.some.injEq] at h
   exact ⟨x,rfl,h.symm⟩
  ·rename_i e
   rw [if_neg e] at h
   exact ih h
end
theorem a15 {m : Nat} : ∀ {l : List (Nat × SV)},(l.foldr (fun p q=>p.2.Ok m ∧ q) True) → ∀ p ∈ l,p.2.Ok m:=by
 intro l
 induction l with
 | nil=>intro _ p hp; cases hp
 | cons a r ih=>
  intro h p hp
  rcases List.mem_cons.1 hp with rfl | hp
  ·exact h.1
  ·exact ih h.2 p hp
theorem an9 {m : Nat} : ∀ {l : List (Nat × HE)},(l.foldr (fun p q=>p.2.Ok m ∧ q) True) → ∀ p ∈ l,p.2.Ok m:=by
 intro l
 induction l with
 | nil=>intro _ p hp; cases hp
 | cons a r ih=>
  intro h p hp
  rcases List.mem_cons.1 hp with rfl | hp
  ·exact h.1
  ·exact ih h.2 p hp
theorem cf6 {m : Nat} {T : TypeId} {l : List Ch} (h : l.foldr (fun c p=>c.Ok m ∧ p) True) : (HE.blk T l).Ok m:=G7 h
theorem Ch.Ok.up {c : Ch} {m : Nat} (h : c.Ok 0) : c.Ok m:=h.le (Nat.zero_le _)
def noPtr : Ch → Bool
 | .ptr _ _=>false
 | .win _ _ _ _=>false
 | .fn _ _=>false
 | _=>true
theorem b10 {m : Nat} {c : Ch} (h : noPtr c = true) (k : c.Ok m) : c.Ok 0:=by
 cases c <;> first | exact k | cases h
abbrev blkG (u : Value) (T : TypeId) (cs : List Value) : Gh:=
 ⟨fun S w=>∃ b,u = .pointer (some ⟨b,0,none⟩) ∧ S b ∧ Blk w b T cs,fun ⟨b,h1,h2,h3⟩ k=>⟨b,h1,h2,h3.keep k h2⟩,fun ⟨b,h1,h2,h3⟩ k=>⟨b,h1,k b h3.lt h2,h3⟩⟩
section
variable {c : Cx} {o : Out} {G : Gh}
theorem ab2 (b : Nat) (T : TypeId) (l : List Ch) (hb : nth o.st.hp b = some (.blk T l)) (hl : l.all noPtr = true) (hc : c.Ok) (hn : ∀ u,Run c (subO b u o) ((blkG u T (cellsL (fun _=>0) l)).and G)) : Run c o G:=by
 refine ⟨fun β ρ w hS hw hG=>?_⟩
 rw [I9] at hb
 have hbl:=(List.getElem?_eq_some_iff.1 hb).1
 obtain ⟨u,hu⟩ : ∃ u : Value,u = .pointer (some ⟨β b,0,none⟩):=⟨_,rfl⟩
 have hu1 : u.oneCell' = true:=by subst hu; rfl
 have hlen : (hpSub b u (setN o.st.hp b .gone)).length = o.st.hp.length:=by rw [a67,O7]; simp
 have hget : ∀ i x,(hpSub b u (setN o.st.hp b .gone))[i]? = some x → (i = b ∧ x = .gone) ∨ (i ≠ b ∧ ∃ y,o.st.hp[i]? = some y ∧ x = y.sub b u):=by
  intro i x hx
  rw [a67,O7,List.getElem?_map] at hx
  by_cases e : b = i
  ·subst e
   rw [List.getElem?_set_self hbl] at hx
   simp only [Option.map_some,Option.some.injEq] at hx
   exact .inl ⟨rfl,hx.symm⟩
  ·rw [List.getElem?_set_ne e] at hx
   cases hy : o.st.hp[i]? with
   | none=>rw [hy] at hx; cases hx
   | some y=>
    rw [hy] at hx
    simp only [Option.map_some,Option.some.injEq] at hx
    exact .inr ⟨fun e'=>e e'.symm,y,rfl,hx.symm⟩
 have hmine : ∀ i k,mineAt β (hpSub b u (setN o.st.hp b .gone)) i k → b ≠ i ∧ mineAt β o.st.hp i k:=by
  rintro i k ⟨x,hx,hk⟩
  rcases hget i x hx with ⟨_,rfl⟩ | ⟨h1,y,h2,rfl⟩
  ·cases hk
  ·refine ⟨fun e=>h1 e.symm,y,h2,?_⟩
   cases y <;> exact hk
 have hmb : mineAt β o.st.hp b (β b):=⟨_,hb,rfl⟩
 obtain ⟨hB,hok⟩:=hS.mem.blk b T l hb
 have hok0 : ∀ ch ∈ l,ch.Ok 0:=fun ch hch=>b10 (List.all_eq_true.1 hl ch hch) (hok ch hch)
 have h1 : Sat c.bs (subO b u o).st β ρ w:=by
  refine ⟨fun d s hs=>?_,⟨?_,?_,?_,?_,?_⟩⟩
  ·obtain ⟨s0,h2,rfl⟩:=bg0 hs
   obtain ⟨h3,h4⟩:=hS.fr d s0 h2
   refine ⟨h3.trans (SV.sub_den hu s0).symm,?_⟩
   show (s0.sub b u).Ok (hpSub b u (setN o.st.hp b .gone)).length
   rw [hlen]
   exact SV.sub_ok hu1 h4
  ·intro i T' l' hi
   rcases hget i _ hi with ⟨_,e⟩ | ⟨_,y,h2,e⟩
   ·cases e
   ·cases y with
    | blk T2 l2=>
     simp only [HE.sub,HE.blk.injEq] at e
     obtain ⟨rfl,rfl⟩:=e
     obtain ⟨h3,h4⟩:=hS.mem.blk i T' l2 h2
     refine ⟨by rw [ad1 hu]; exact h3,fun ch hch=>?_⟩
     obtain ⟨d,hd,rfl⟩:=List.mem_map.1 hch
     show (d.sub b u).Ok (hpSub b u (setN o.st.hp b .gone)).length
     rw [hlen]
     exact Ch.sub_ok hu1 (h4 d hd)
    | row _ _ _ _ _=>cases e
    | gone=>cases e
    | abs _=>cases e
    | hid _ _=>cases e
  ·intro i T' s' v' n' cs' hi
   rcases hget i _ hi with ⟨_,e⟩ | ⟨_,y,h2,e⟩
   ·cases e
   ·cases y with
    | blk T2 l2=>cases e
    | row _ _ _ _ _=>
     simp only [HE.sub] at e
     cases e
     exact hS.mem.row i _ _ _ _ _ h2
    | gone=>cases e
    | abs _=>cases e
    | hid _ _=>cases e
  ·intro i A hi
   rcases hget i _ hi with ⟨_,e⟩ | ⟨_,y,h2,e⟩
   ·cases e
   ·cases y with
    | blk T2 l2=>cases e
    | row _ _ _ _ _=>cases e
    | gone=>cases e
    | abs _=>
     simp only [HE.sub] at e
     cases e
     exact hS.mem.abs i _ h2
    | hid _ _=>cases e
  ·intro i k hk; exact hS.mem.low i k (hmine i k hk).2
  ·intro i j k hi hj; exact hS.mem.apart i j k (hmine i k hi).2 (hmine j k hj).2
 refine (hn u).run β ρ w h1 hw ⟨?_,G.mono hG fun k _ hk=>⟨hk.1,fun i hi=>hk.2 i (hmine i k hi).2⟩⟩
 refine ⟨β b,hu,⟨hS.up0 hc b _ hmb,fun i hi=>?_⟩,?_⟩
 ·obtain ⟨e1,e2⟩:=hmine i _ hi
  exact e1 (hS.mem.apart b i _ hmb e2)
 ·rw [E6 (m:=0) (β:=fun _=>0) (β':=β) (fun i hi=>absurd hi (Nat.not_lt_zero i)) hok0]
  exact hB
def callNextB (o : Out) (s : SV) (b : Nat) (T : TypeId) (l : List Ch) : Out:=match callNext o s with | ⟨cur,k,⟨fr,hp⟩,_⟩=>⟨cur,k,⟨fr,setN hp b (.blk T l)⟩,[]⟩
theorem b77 {α : Type} (f : FuncId) [ci : CallI c.P f] (b : Nat) (T : TypeId) (l : List Ch) (hc : c.Ok) (hb : nth o.st.hp b = some (.blk T l)) (pat : α → SV) (l' : α → List Ch) (pre : α → Prop) (Δ : α → Gh) (hf : isCall f o = true)
  (h : ∀ β S w,Up S w → (∀ k,S k → c.S0 k) → Keeps c.K c.w0 w → G.p S w → Blk w (β b) T (cellsL β l) → ¬ S (β b) → ∃ args,(callArgs o).map (SV.den β) = args ∧ Gives c.P f args w fun v w'=>Wrt (β b) w w' ∧ ∃ a,v = (pat a).den β ∧ (pat a).Ok o.st.hp.length ∧ pre a ∧ Blk w' (β b) T (cellsL β (l' a)) ∧ (∀ ch ∈ l' a,ch.Ok o.st.hp.length) ∧ (Δ a).p S w')
  (hn : ∀ a,pre a → Run c (callNextB o (pat a) b T (l' a)) ((Δ a).and G)) : Run c o G:=by
 refine ⟨fun β ρ w hS hw hG=>?_⟩
 rw [I9] at hb
 have hmb : mineAt β o.st.hp b (β b):=⟨_,hb,rfl⟩
 obtain ⟨all,o1,r,d,hcur,hg,hd,hnx,hr⟩:=as1 hf hS
 obtain ⟨args,ha,hgv⟩:=h β _ w (Sof.up (hc.up.to hw) hS.mem) (fun k hk=>hk.1) hw hG (hS.mem.blk b T l hb).1 (fun hs=>hs.2 b hmb)
 rw [hcur]
 show WpR c.P c.n all (kQ c.P c.n c.Q o.k) (o1 :: r) ρ w
 refine R5 hg ?_
 unfold Stp
 rw [hr,ha]
 refine hgv.mono ?_
 rintro v w' ⟨hk,a,rfl,hok,hp,hB,hlok,hΔ⟩
 have h1:=hn a hp
 unfold callNextB at h1
 rw [hnx] at h1
 simp only [O7] at h1
 have h2 : Sat c.bs ⟨(d,pat a) :: o.st.fr,o.st.hp.set b (.blk T (l' a))⟩ β (upd ρ d ((pat a).den β)) w':=by
  have h3:=hS.wr hb hlok hk hB
  have h4:=h3.put (d:=d) (s:=pat a) rfl (by simpa using hok)
  exact h4
 have hSof : ∀ k,Sof c.S0 β o.st.hp k → Sof c.S0 β (o.st.hp.set b (.blk T (l' a))) k:=fun k hk=>⟨hk.1,fun i hi=>by rw [N6 hb] at hi; exact hk.2 i hi⟩
 have hkS : Keeps (Sof c.S0 β o.st.hp) w w':=hk.mono fun k hk' e=>hk'.2 b (e ▸ hmb)
 have h5:=h1.run β _ w' h2 (hS.mem.grow hw hk b fun i hi=>(Classical.byContradiction hi : i = β b) ▸ hmb) ⟨(Δ a).mono hΔ fun k _ hk'=>hSof k hk',G.mono (G.keep hG hkS) fun k _ hk'=>hSof k hk'⟩
 rw [hd]
 exact h5
end
section
variable {c : Cx} {o : Out} {G : Gh}
def callFn (o : Out) : Option FuncId:=(callOf o.st o.cur).map fun x=>x.1
theorem cc7 {o : Out} {f : FuncId} (h : callFn o = some f) : isCall f o = true:=by
 unfold callFn at h
 unfold isCall
 cases hx : callOf o.st o.cur with
 | none=>rw [hx] at h; cases h
 | some x=>
  obtain ⟨g,l,d⟩:=x
  rw [hx] at h
  simp only [Option.map_some,Option.some.injEq] at h
  subst h
  simp
abbrev Pan (P : Program) (f : FuncId) (args : List Value) (w : World) (X : List PanicEntry) : Prop:=GivesE P f args w (fun _ _=>False) fun ch w'=>ch = X ∧ Ext w w'
theorem ad8 {P : Program} {f : FuncId} {args : List Value} {w0 w : World} {X : List PanicEntry} (h : Pan P f args w X) (hw : Ext w0 w) : GivesE P f args w (fun _ _=>False) fun ch w'=>∀ _ : Fr,ch = X ∧ Ext w0 w':=
 h.mono (fun _ _ h=>h) fun _ _ hp _=>⟨hp.1,hw.trans hp.2⟩
theorem s_X {f : FuncId} [ci : CallI c.P f] (hc : c.Ok) (hv : (ex c o).vc = []) (hf : isCall f (ex c o) = true)
  (h : ∀ β S w,Up S w → (∀ k,S k → c.S0 k) → Keeps c.K c.w0 w → G.p S w → ∃ args,(callArgs (ex c o)).map (SV.den β) = args ∧ GivesE c.P f args w (fun _ _=>False) fun ch w'=>∀ ρ,c.Q (.panic ch) ρ w') : Run c o G:=
 q7 hc hv (ca9 (α:=Unit) f hc (fun _=>.und) (fun _=>False) (fun _=>.nil) hf (fun β S w h1 h2 h3 h4=>let ⟨args,ha,hg⟩:=h β S w h1 h2 h3 h4; ⟨args,ha,hg.mono (fun _ _ hf=>hf.elim) fun _ _ hp=>hp⟩) fun _ hf=>hf.elim)
def panicOf (st : St) : Cur → Option Value
 | .ops _ (o1 :: _)=>match o1.guard,o1.dst,o1.op with
  | none,none,.panic x=>match opd st.fr x with
   | some (.one (.val (.iface t v)))=>some (.iface t v)
   | _=>none
  | _,_,_=>none
 | _=>none
theorem b86 (x : Value) (hc : c.Ok) (hv : (ex c o).vc = []) (hp : panicOf (ex c o).st (ex c o).cur = some x)
  (h : ∀ S w,(∀ k,S k → c.S0 k) → Keeps c.K c.w0 w → G.p S w → ∀ ρ,c.Q (.panic [{ v:=x,recovered:=false }]) ρ w) : Run c o G:=by
 refine q7 hc hv ⟨fun β ρ w hS hw hG=>?_⟩
 generalize ex c o = o' at *
 unfold panicOf at hp
 split at hp <;> first | (cases hp; done) | skip
 rename_i all o1 r hcur
 split at hp <;> first | (cases hp; done) | skip
 rename_i y e1 e2 e3
 split at hp <;> first | (cases hp; done) | skip
 rename_i t v hx
 simp only [Option.some.injEq] at hp
 subst hp
 rw [hcur]
 obtain ⟨dst,op,ty,pos,aft,g⟩:=o1
 simp only at e1 e2 e3
 subst e1
 subst e2
 subst e3
 exact bk8 ((W8 fun t _=>hS.fr t) _ hx).1 (ag9 (h _ w (fun k hk=>hk.1) hw hG ρ))
end
end Go.Proofs.YtpheooheinfbgaaGreatDoor
end
section
set_option linter.unusedVariables false
set_option linter.unusedSimpArgs false
namespace Go.Proofs.YtpheooheinfbgaaGreatDoor
open Go Go.RowKit
noncomputable def tri3 (a b c : Value) : Value:=(SV.agg [.ag 3 a,.ag 3 b,.ag 3 c]).den fun _=>0
noncomputable def tri4 (a b c : Value) : Value:=(SV.agg [.ag 4 a,.ag 4 b,.ag 4 c]).den fun _=>0
def TripV (S : Nat → Prop) (w : World) (v : Value) (t : T3) : Prop:=∃ a b c,v = tri3 a b c ∧ RatV S w a t.x ∧ RatV S w b t.y ∧ RatV S w c t.z
def QTripV (S : Nat → Prop) (w : World) (v : Value) (t : T3) : Prop:=∃ a b c,v = tri4 a b c ∧ QV S w a t.x ∧ QV S w b t.y ∧ QV S w c t.z
section
variable {S S' : Nat → Prop} {w w' : World} {v : Value} {t : T3}
theorem TripV.keep (h : TripV S w v t) (k : Keeps S w w') : TripV S w' v t:=let ⟨a,b,c,h1,h2,h3,h4⟩:=h; ⟨a,b,c,h1,h2.keep k,h3.keep k,h4.keep k⟩
theorem TripV.mono (h : TripV S w v t) (hs : ∀ k,k < w.heap.size → S k → S' k) : TripV S' w v t:=let ⟨a,b,c,h1,h2,h3,h4⟩:=h; ⟨a,b,c,h1,h2.mono hs,h3.mono hs,h4.mono hs⟩
theorem QTripV.keep (h : QTripV S w v t) (k : Keeps S w w') : QTripV S w' v t:=let ⟨a,b,c,h1,h2,h3,h4⟩:=h; ⟨a,b,c,h1,h2.keep k,h3.keep k,h4.keep k⟩
theorem QTripV.mono (h : QTripV S w v t) (hs : ∀ k,k < w.heap.size → S k → S' k) : QTripV S' w v t:=let ⟨a,b,c,h1,h2,h3,h4⟩:=h; ⟨a,b,c,h1,h2.mono hs,h3.mono hs,h4.mono hs⟩
theorem ar8 {l : List Ch} {n : Nat} (h : ∀ c ∈ l,c.Ok 0) (hn : sizeL l = n) : (SV.one (.ag n ((SV.agg l).den fun _=>0))).Ok 0:=
 ⟨cellsL (fun _=>0) l,rfl,by rw [G9 h,hn],N5 h⟩
theorem TripV.ok (h : TripV S w v t) : (SV.one (.ag 9 v)).Ok 0:=by
 obtain ⟨a,b,c,rfl,h2,h3,h4⟩:=h
 exact ar8 (l:=[.ag 3 a,.ag 3 b,.ag 3 c]) (G7 (m:=0) ⟨h2.ok,h3.ok,h4.ok,trivial⟩) rfl
theorem QTripV.ok (h : QTripV S w v t) : (SV.one (.ag 12 v)).Ok 0:=by
 obtain ⟨a,b,c,rfl,h2,h3,h4⟩:=h
 exact ar8 (l:=[.ag 4 a,.ag 4 b,.ag 4 c]) (G7 (m:=0) ⟨h2.ok,h3.ok,h4.ok,trivial⟩) rfl
end
abbrev triG (v : Value) (t : T3) : Gh:=⟨fun S w=>TripV S w v t,fun h k=>h.keep k,fun h k=>h.mono k⟩
abbrev qtriG (v : Value) (t : T3) : Gh:=⟨fun S w=>QTripV S w v t,fun h k=>h.keep k,fun h k=>h.mono k⟩
end Go.Proofs.YtpheooheinfbgaaGreatDoor
end
section
set_option linter.unusedVariables false
set_option linter.unusedSimpArgs false
namespace Go.Proofs.YtpheooheinfbgaaGreatDoor
open Go Go.RowKit
theorem au8 {P : Program} {f : FuncId} {args : List Value} {S : Nat → Prop} {w : World} {q : Rat} (hf : Fits q) (h : Gives P f args w fun v w'=>Ext w w' ∧ Tried S w' v q) : Gives P f args w fun v w'=>Ext w w' ∧ (tryG v q 0).p S w':=cn7 (.inl ⟨hf,rfl,rfl⟩) h
set_option maxRecDepth 100000 in
theorem aa5 {S : Nat → Prop} {w : World} {r : Value} {q : Rat} (hS : Up S w) (h : RatV S w r q) : Gives Tryz.prog 66 [r,.int .i64 0] w fun v' w'=>Ext w w' ∧ RatV S w' v' q:=by
 refine o8 (E:=env) (S0:=S) (G:=(ratG r (q))) (l:=[.one (.ag 3 r),.one (.lit .i64 0)]) Tryz.func66 rfl rfl rfl ⟨h.ok,trivial,trivial⟩ rfl h ?_
 exact q8 (r) ⟨a8,hS,b7⟩ (by kernel_rfl) rfl (by kernel_rfl) (fun β=>(by kernel_rfl)) (fun S w hs hw hG=>have h:=hG; ⟨hw,h.mono fun k _ hk=>hs k hk⟩)
set_option maxRecDepth 100000 in
theorem F5 {S : Nat → Prop} {w : World} {va vb : Value} {a b : Rat} {m n : Nat} (hS : Up S w) (ha : RatV S w va a) (hb : RatV S w vb b) (hla : rl a m) (hlb : rl b n) (hmn : m + n ≤ 3344) :
  Gives Tryz.prog 67 [va,vb] w fun v' w'=>Ext w w' ∧ RatV S w' v' (a * b):=by
 have hf : Fits (a * b):=T5 (A8 hla hlb) hmn
 refine o8 (E:=env) (S0:=S) (G:=((ratG va (a)).and (ratG vb (b)))) (l:=[.one (.ag 3 va),.one (.ag 3 vb)]) Tryz.func67 rfl rfl rfl ⟨ha.ok,hb.ok,trivial⟩ rfl ⟨ha,hb⟩ ?_
 refine s_1 (fun x0=>pr (.ag 3 (tupAt x0)) (.lit .i64 0)) (fun x0=>tryG x0 ((a * b)) 0) ⟨a8,hS,b7⟩ (by kernel_rfl) (by kernel_rfl) (fun _ _ _ h=>W3 h) (fun β S w hS hs hw hG=>have ha:=hG.1; have hb:=hG.2; ⟨_,(by kernel_rfl),au8 hf (cg7 hS ha hb (o5 hla (by omega)) (o5 hlb (by omega)))⟩) ?_
 intro r
 refine s_1 (fun x0=>.one (.ag 3 x0)) (fun x0=>ratG x0 ((a * b))) ⟨a8,hS,b7⟩ (by kernel_rfl) (by kernel_rfl) (fun _ _ _ h=>⟨h.ok,rfl⟩) (fun β S w hS hs hw hG=>have hr:=hG.1; ⟨_,(by kernel_rfl),aa5 hS hr.2⟩) ?_
 intro x
 exact q8 (x) ⟨a8,hS,b7⟩ (by kernel_rfl) rfl (by kernel_rfl) (fun β=>(by kernel_rfl)) (fun S w hs hw hG=>have hm:=hG.1; ⟨hw,hm.mono fun k _ hk=>hs k hk⟩)
theorem RatV.okc {S : Nat → Prop} {w : World} {v : Value} {q : Rat} {m : Nat} (h : RatV S w v q) : (Ch.ag 3 v).Ok m:=h.ok
def lsum (l : List Rat) : Rat:=l.foldl (fun a x=>a + x) 0
theorem ah9 {l : List Rat} {j : Nat} (hj : j < l.length) : lsum (l.take (j + 1)) = lsum (l.take j) + l.getD j 0:=by
 unfold lsum
 rw [List.take_add_one,List.foldl_append,List.getElem?_eq_getElem hj]
 simp [List.getD_eq_getElem?_getD,List.getElem?_eq_getElem hj]
theorem bj9 {l : List Rat} {m : Nat} (h : ∀ x ∈ l,rl x m) : ∀ j,j ≤ l.length → rl (lsum (l.take j)) (j * (m + 1) + 1):=by
 intro j
 induction j with
 | zero=>
  intro _
  show rl (0 : Rat) _
  exact ⟨Nat.le_trans (F8 (k:=0) (show 0 < 1000000000 ^ 0 by decide)) (Nat.zero_le _),Nat.le_trans (F8 (k:=1) (show 1 < 1000000000 ^ 1 by decide)) (by omega)⟩
 | succ j ih=>
  intro hj
  rw [ah9 (by omega)]
  have h1 : l.getD j 0 ∈ l:=by
   rw [List.getD_eq_getElem?_getD,List.getElem?_eq_getElem (by omega)]
   exact List.getElem_mem _
  exact o5 (ar1 (ih (by omega)) (h _ h1)) (by rw [Nat.add_mul]; omega)
theorem RatV.lies {S : Nat → Prop} {w : World} {v : Value} {q : Rat} (h : RatV S w v q) : Lies true 3 v:=by
 obtain ⟨m,b,rfl,_⟩:=h
 exact a43 [_,_,_]
abbrev ratF (x : Value) (q : Rat) : Gh:=ratG x q
abbrev ratsG (v : Value) (l : List Rat) : Gh:=seqG true 3 ratF v l
set_option maxRecDepth 100000 in
set_option maxHeartbeats 1000000 in
theorem cj8 {S : Nat → Prop} {w : World} {v : Value} {l : List Rat} {m : Nat} (hS : Up S w) (h : SeqV true 3 ratF S w v l) (hl : ∀ x ∈ l,rl x m) (hn : l.length * (m + 1) + 1 ≤ 3344) :
  Gives Tryz.prog 71 [v] w fun v' w'=>Ext w w' ∧ RatV S w' v' (lsum l):=by
 have hmx:=h.len_le
 unfold maxLen at hmx
 refine o8 (E:=env) (S0:=S) (G:=(ratsG v l)) (l:=[.one (.sl v l.length)]) Tryz.func71 rfl rfl rfl ⟨h.sl,trivial⟩ rfl h ?_
 refine H2 (ι:=Nat × Value) [(5,5),(8,18)] (fun i=>[(8,.one (.int .i64 (i.1 : Int)))]) (fun i=>[(1,.blk 42 [.ag 3 i.2])]) (fun i=>((ratG i.2 (lsum (l.take i.1))).and (ratsG v l))) (fun i=>i.1 ≤ l.length) (fun i=>l.length - i.1) ((0,.agg #[.bool false,.slice none 0 0,.slice none 0 0])) ⟨a8,hS,b7⟩ (by kernel_rfl) (by kernel_rfl) (fun β=>(by kernel_rfl)) (fun β=>(by kernel_rfl)) (by kernel_rfl) (Nat.zero_le _) (fun S w hw hG=>⟨a15 ⟨trivial,trivial⟩,an9 ⟨cf6 ⟨(R1 (S:=S) (w:=w)).okc,trivial⟩,trivial⟩⟩) (fun S w hw hG=>⟨R1,hG⟩) (fun hso i hi=>?_)
 refine X3 (p:=(i.1 : Int) < (l.length : Int)) ⟨a8,hS,b7⟩ (by kernel_rfl) (by kernel_rfl) (by kernel_rfl) (fun hlt=>?_) (fun hlt=>?_)
 ·have hlt' : i.1 < l.length:=by omega
  have hx0 : l[i.1]? = some (l.getD i.1 0):=by rw [List.getD_eq_getElem?_getD,List.getElem?_eq_getElem hlt']; rfl
  have hb:=bj9 hl (i.1 + 1) hlt'
  have hle : (i.1 + 1) * (m + 1) ≤ l.length * (m + 1):=Nat.mul_le_mul_right _ hlt'
  refine q7 ⟨a8,hS,b7⟩ (by kernel_rfl) (ay0 v l.length (i.1 : Int) 42 3 (fun u0=>atG true 3 (fun x0=>ratG x0 ((l.getD i.1 0))) u0) (by kernel_rfl) ⟨a8,hS,b7⟩ (fun β S w hM hw hG=>have h:=hG.2; h.el rfl rfl hx0) ?_)
  intro u_1
  refine q7 ⟨a8,hS,b7⟩ (by kernel_rfl) (az5 u_1 42 3 true (fun x0=>.one (.ag 3 x0)) (fun x0=>ratG x0 ((l.getD i.1 0))) (by kernel_rfl) ⟨a8,hS,b7⟩ (fun S w hw hG=>hG.1) (fun _ _ _ h=>⟨h.ok,rfl⟩) ?_)
  intro x
  rw [ah9 hlt'] at hb
  have hle2 : i.1 * (m + 1) ≤ l.length * (m + 1):=Nat.mul_le_mul_right _ (by omega)
  have hle3 : m + 1 ≤ l.length * (m + 1):=Nat.le_mul_of_pos_left _ (by omega)
  refine s_1 (fun x0=>pr (.ag 3 (tupAt x0)) (.lit .i64 0)) (fun x0=>tryG x0 ((lsum (l.take i.1) + l.getD i.1 0)) 0) ⟨a8,hS,b7⟩ (by kernel_rfl) (by kernel_rfl) (fun _ _ _ h=>W3 h) (fun β S w hS hs hw hG=>have hx:=hG.1; have ho:=hG.2.2.1; ⟨_,(by kernel_rfl),au8 (T5 hb (by omega)) (ck3 hS ho hx (o5 (bj9 hl i.1 (by omega)) (by omega)) (o5 (hl _ (List.mem_of_getElem? hx0)) (by omega)))⟩) ?_
  intro r
  refine s_1 (fun x0=>.one (.ag 3 x0)) (fun x0=>ratG x0 ((lsum (l.take i.1) + l.getD i.1 0))) ⟨a8,hS,b7⟩ (by kernel_rfl) (by kernel_rfl) (fun _ _ _ h=>⟨h.ok,rfl⟩) (fun β S w hS hs hw hG=>have hr:=hG.1; ⟨_,(by kernel_rfl),aa5 hS hr.2⟩) ?_
  intro r2
  refine I8 (ps:=[InR .i64 ((i.1 : Int) + 1)]) ⟨a8,hS,b7⟩ (by kernel_rfl) (by simp only [AllT,InR,and_true]; omega) ?_
  exact F7 ((i.1 + 1,r2)) ⟨a8,hS,b7⟩ hso (by kernel_rfl) (by kernel_rfl) (fun β=>(by kernel_rfl)) (fun β=>(by kernel_rfl)) (by kernel_rfl) (by omega) (by simp only; omega) (fun S w hw hG=>have hr2:=hG.1; ⟨a15 ⟨trivial,trivial⟩,an9 ⟨cf6 ⟨hr2.okc,trivial⟩,trivial⟩⟩) (fun S w hw hG=>have hr2:=hG.1; ⟨(by show RatV S w r2 _; rw [ah9 hlt']; exact hr2),hG.2.2.2.2.2⟩)
 ·refine I6 ⟨a8,hS,b7⟩ (by kernel_rfl) (by kernel_rfl) ?_
  exact q8 (i.2) ⟨a8,hS,b7⟩ (by kernel_rfl) rfl (by kernel_rfl) (fun β=>(by kernel_rfl)) (fun S w hs hw hG=>have ho:=hG.1; ⟨hw,by have e : l.take i.1 = l:=List.take_of_length_le (by omega); rw [e] at ho; exact ho.mono fun k _ hk=>hs k hk⟩)
end Go.Proofs.YtpheooheinfbgaaGreatDoor
end
section
set_option linter.unusedVariables false
set_option linter.unusedSimpArgs false
namespace Go.Proofs.YtpheooheinfbgaaGreatDoor
open Go Go.RowKit
theorem ak9 {S : Nat → Prop} {w : World} {v : Value} {l : List Rat} {m : Nat} {q : Rat} (e : lsum l = q) (hS : Up S w) (h : SeqV true 3 ratF S w v l) (hl : ∀ x ∈ l,rl x m) (hn : l.length * (m + 1) + 1 ≤ 3344) :
  Gives Tryz.prog 71 [v] w fun v' w'=>Ext w w' ∧ RatV S w' v' q:=e ▸ cj8 hS h hl hn
theorem Z9 (a b : Rat) : lsum [a,-b] = a - b:=by unfold lsum; simp only [List.foldl]; grind
theorem co0 (a b c : Rat) : lsum [a,b,c] = a + b + c:=by unfold lsum; simp only [List.foldl]; grind
section
variable {S : Nat → Prop} {w : World} {v a b c : Value} {x y z : Rat}
theorem bv8 (h0 : RatV S w a x) (h1 : RatV S w b y) (hrow : Row S 42 3 w v 2 (a.cells.toList ++ (b.cells.toList ++ []))) : SeqV true 3 ratF S w v [x,y]:=
 ⟨_,[a,b],rfl,fun u hu=>by rcases List.mem_cons.1 hu with rfl | hu; exact h0.lies; rw [List.mem_singleton.1 hu]; exact h1.lies,hrow,fun i p u hp hu=>by
  match i with
  | 0=>simp at hp hu; subst hp; subst hu; exact h0
  | 1=>simp at hp hu; subst hp; subst hu; exact h1
  | i + 2=>simp at hp⟩
theorem ct6 (h0 : RatV S w a x) (h1 : RatV S w b y) (h2 : RatV S w c z) (hrow : Row S 42 3 w v 3 (a.cells.toList ++ (b.cells.toList ++ (c.cells.toList ++ [])))) : SeqV true 3 ratF S w v [x,y,z]:=
 ⟨_,[a,b,c],rfl,fun u hu=>by
  rcases List.mem_cons.1 hu with rfl | hu
  ·exact h0.lies
  ·rcases List.mem_cons.1 hu with rfl | hu
   ·exact h1.lies
   ·rw [List.mem_singleton.1 hu]; exact h2.lies,hrow,fun i p u hp hu=>by
  match i with
  | 0=>simp at hp hu; subst hp; subst hu; exact h0
  | 1=>simp at hp hu; subst hp; subst hu; exact h1
  | 2=>simp at hp hu; subst hp; subst hu; exact h2
  | i + 3=>simp at hp⟩
theorem br9 {p : Rat → Prop} (h0 : p x) (h1 : p y) : ∀ u ∈ [x,y],p u:=fun u hu=>by
 rcases List.mem_cons.1 hu with rfl | hu
 ·exact h0
 ·rw [List.mem_singleton.1 hu]; exact h1
theorem cr6 {p : Rat → Prop} (h0 : p x) (h1 : p y) (h2 : p z) : ∀ u ∈ [x,y,z],p u:=fun u hu=>by
 rcases List.mem_cons.1 hu with rfl | hu
 ·exact h0
 ·exact br9 h1 h2 u hu
end
theorem br8 {q : Rat} : (q.num.sign = 0) = (q = 0):=by
 refine propext ⟨fun h=>?_,fun h=>by subst h; rfl⟩
 exact Rat.num_eq_zero.1 (Int.sign_eq_zero_iff_zero.1 h)
set_option maxRecDepth 100000 in
theorem G6 {S : Nat → Prop} {w : World} {v : Value} {q : Rat} (hS : Up S w) (h : RatV S w v q) : Gives Tryz.prog 38 [v] w fun v' w'=>v' = .bool (tst (q = 0)) ∧ Ext w w':=by
 refine o8 (E:=env) (S0:=S) (G:=(ratG v (q))) (l:=[.one (.ag 3 v)]) Tryz.func38 rfl rfl rfl ⟨h.ok,trivial⟩ rfl h ?_
 refine s_K (.one (.int .i64 q.num.sign)) ⟨a8,hS,b7⟩ (by kernel_rfl) (by kernel_rfl) (j9 rfl) rfl (fun β S w hS hs hw hG=>have h:=hG; ⟨_,(by kernel_rfl),af9 h⟩) ?_
 exact q8 (.bool (tst (q.num.sign = 0))) ⟨a8,hS,b7⟩ (by kernel_rfl) rfl (by kernel_rfl) (fun β=>(by kernel_rfl)) (fun S w hs hw hG=>⟨by rw [br8],hw⟩)
set_option maxRecDepth 100000 in
theorem b64 {S : Nat → Prop} {w : World} {vp vq : Value} {p q : T3} {m n : Nat} (hS : Up S w) (hp : TripV S w vp p) (hq : TripV S w vq q) (hm : tl p m) (hn : tl q n) (hmn : 3 * (m + n + 1) + 1 ≤ 3344) :
  Gives Tryz.prog 39 [vp,vq] w fun v' w'=>Ext w w' ∧ RatV S w' v' (p.dot q):=by
 obtain ⟨a1,b1,c1,rfl,ha1,hb1,hc1⟩:=hp
 obtain ⟨a2,b2,c2,rfl,ha2,hb2,hc2⟩:=hq
 refine o8 (E:=env) (S0:=S) (G:=((ratG a1 p.x).and ((ratG b1 p.y).and ((ratG c1 p.z).and ((ratG a2 q.x).and ((ratG b2 q.y).and (ratG c2 q.z))))))) (l:=[.agg [.ag 3 a1,.ag 3 b1,.ag 3 c1],.agg [.ag 3 a2,.ag 3 b2,.ag 3 c2]]) Tryz.func39 rfl rfl rfl ⟨G7 ⟨ha1.okc,hb1.okc,hc1.okc,trivial⟩,G7 ⟨ha2.okc,hb2.okc,hc2.okc,trivial⟩,trivial⟩ rfl ⟨ha1,hb1,hc1,ha2,hb2,hc2⟩ ?_
 refine l8 17 ⟨a8,hS,b7⟩ (by kernel_rfl) (by kernel_rfl) (by kernel_rfl) ?_
 refine i1 4 (fun η=>(by kernel_rfl)) ?_
 refine h_1 (fun x0=>.one (.ag 3 x0)) (fun x0=>ratG x0 ((p.x * q.x))) (fun η=>(by kernel_rfl)) (fun _ _ _ h=>⟨h.ok,rfl⟩) (fun β η S w hS hs hw hG hd=>have ha1:=hG.1; have ha2:=hG.2.2.2.1; ⟨_,(by kernel_rfl),F5 hS ha1 ha2 hm.1 hn.1 (by omega)⟩) ?_
 refine i1 4 (fun η=>(by kernel_rfl)) ?_
 refine h_1 (fun x0=>.one (.ag 3 x0)) (fun x0=>ratG x0 ((p.y * q.y))) (fun η=>(by kernel_rfl)) (fun _ _ _ h=>⟨h.ok,rfl⟩) (fun β η S w hS hs hw hG hd=>have hb1:=hG.2.1; have hb2:=hG.2.2.2.2.1; ⟨_,(by kernel_rfl),F5 hS hb1 hb2 hm.2.1 hn.2.1 (by omega)⟩) ?_
 refine i1 4 (fun η=>(by kernel_rfl)) ?_
 refine h_1 (fun x0=>.one (.ag 3 x0)) (fun x0=>ratG x0 ((p.z * q.z))) (fun η=>(by kernel_rfl)) (fun _ _ _ h=>⟨h.ok,rfl⟩) (fun β η S w hS hs hw hG hd=>have hc1:=hG.2.2.1; have hc2:=hG.2.2.2.2.2; ⟨_,(by kernel_rfl),F5 hS hc1 hc2 hm.2.2 hn.2.2 (by omega)⟩) ?_
 refine ak5 42 3 3 (fun x0=>ratsG x0 [p.x * q.x,p.y * q.y,p.z * q.z]) ⟨a8,hS,b7⟩ (fun η=>(by kernel_rfl)) (fun β η S w x0 w' hS hs hw hG hd hk hrow=>ct6 ((dep hd 4 (by kernel_rfl) (by kernel_rfl) : (ratG (η 4) ((p.x * q.x))).p S w).to hk) ((dep hd 9 (by kernel_rfl) (by kernel_rfl) : (ratG (η 9) ((p.y * q.y))).p S w).to hk) ((dep hd 14 (by kernel_rfl) (by kernel_rfl) : (ratG (η 14) ((p.z * q.z))).p S w).to hk) (kc hrow (by kernel_rfl))) ?_
 refine h_1 (fun x0=>.one (.ag 3 x0)) (fun x0=>ratG x0 ((p.dot q))) (fun η=>(by kernel_rfl)) (fun _ _ _ h=>⟨h.ok,rfl⟩) (fun β η S w hS hs hw hG hd=>⟨_,(by kernel_rfl),ak9 (m:=m + n) (co0 _ _ _) hS (dep hd 15 (by kernel_rfl) (by kernel_rfl) : (ratsG (η 15) [p.x * q.x,p.y * q.y,p.z * q.z]).p S w) (cr6 (A8 hm.1 hn.1) (A8 hm.2.1 hn.2.1) (A8 hm.2.2 hn.2.2)) (by simp only [List.length]; omega)⟩) ?_
 refine l6 [true,false,false,false,false] (Gh.nil) (by exact fun _ _ h=>trivial) (fun g η=>(ratG (η 16) ((p.dot q))).and g) (by kernel_rfl) (fun g η=>(by kernel_rfl)) ?_
 intro η_1
 exact q8 ((η_1 16)) ⟨a8,hS,b7⟩ (by kernel_rfl) rfl (by kernel_rfl) (fun β=>(by kernel_rfl)) (fun S w hs hw hG=>have h4:=hG.1; ⟨hw,h4.mono fun k _ hk=>hs k hk⟩)
set_option maxRecDepth 100000 in
set_option maxHeartbeats 1000000 in
theorem Y6 {S : Nat → Prop} {w : World} {vp vq : Value} {p q : T3} {m n : Nat} (hS : Up S w) (hp : TripV S w vp p) (hq : TripV S w vq q) (hm : tl p m) (hn : tl q n) (hmn : 2 * (m + n + 1) + 1 ≤ 3344) :
  Gives Tryz.prog 73 [vp,vq] w fun v' w'=>Ext w w' ∧ TripV S w' v' (p.cross q):=by
 obtain ⟨a1,b1,c1,rfl,ha1,hb1,hc1⟩:=hp
 obtain ⟨a2,b2,c2,rfl,ha2,hb2,hc2⟩:=hq
 refine o8 (E:=env) (S0:=S) (G:=((ratG a1 p.x).and ((ratG b1 p.y).and ((ratG c1 p.z).and ((ratG a2 q.x).and ((ratG b2 q.y).and (ratG c2 q.z))))))) (l:=[.agg [.ag 3 a1,.ag 3 b1,.ag 3 c1],.agg [.ag 3 a2,.ag 3 b2,.ag 3 c2]]) Tryz.func73 rfl rfl rfl ⟨G7 ⟨ha1.okc,hb1.okc,hc1.okc,trivial⟩,G7 ⟨ha2.okc,hb2.okc,hc2.okc,trivial⟩,trivial⟩ rfl ⟨ha1,hb1,hc1,ha2,hb2,hc2⟩ ?_
 refine A5 ⟨a8,hS,b7⟩ (by kernel_rfl) ?_
 refine l8 18 ⟨a8,hS,b7⟩ (by kernel_rfl) (by kernel_rfl) (by kernel_rfl) ?_
 refine i1 7 (fun η=>(by kernel_rfl)) ?_
 refine h_1 (fun x0=>.one (.ag 3 x0)) (fun x0=>ratG x0 ((p.y * q.z))) (fun η=>(by kernel_rfl)) (fun _ _ _ h=>⟨h.ok,rfl⟩) (fun β η S w hS hs hw hG hd=>have hb1:=hG.2.1; have hc2:=hG.2.2.2.2.2; ⟨_,(by kernel_rfl),F5 hS hb1 hc2 hm.2.1 hn.2.2 (by omega)⟩) ?_
 refine i1 6 (fun η=>(by kernel_rfl)) ?_
 refine h_1 (fun x0=>.one (.ag 3 x0)) (fun x0=>ratG x0 ((p.z * q.y))) (fun η=>(by kernel_rfl)) (fun _ _ _ h=>⟨h.ok,rfl⟩) (fun β η S w hS hs hw hG hd=>have hc1:=hG.2.2.1; have hb2:=hG.2.2.2.2.1; ⟨_,(by kernel_rfl),F5 hS hc1 hb2 hm.2.2 hn.2.1 (by omega)⟩) ?_
 refine h_1 (fun x0=>.one (.ag 3 x0)) (fun x0=>ratG x0 ((-(p.z * q.y)))) (fun η=>(by kernel_rfl)) (fun _ _ _ h=>⟨h.ok,rfl⟩) (fun β η S w hS hs hw hG hd=>⟨_,(by kernel_rfl),ar3 (dep hd 14 (by kernel_rfl) (by kernel_rfl) : (ratG (η 14) ((p.z * q.y))).p S w)⟩) ?_
 refine ak5 42 3 2 (fun x0=>ratsG x0 [p.y * q.z,-(p.z * q.y)]) ⟨a8,hS,b7⟩ (fun η=>(by kernel_rfl)) (fun β η S w x0 w' hS hs hw hG hd hk hrow=>bv8 ((dep hd 7 (by kernel_rfl) (by kernel_rfl) : (ratG (η 7) ((p.y * q.z))).p S w).to hk) ((dep hd 15 (by kernel_rfl) (by kernel_rfl) : (ratG (η 15) ((-(p.z * q.y)))).p S w).to hk) (kc hrow (by kernel_rfl))) ?_
 refine h_1 (fun x0=>.one (.ag 3 x0)) (fun x0=>ratG x0 ((p.y * q.z - p.z * q.y))) (fun η=>(by kernel_rfl)) (fun _ _ _ h=>⟨h.ok,rfl⟩) (fun β η S w hS hs hw hG hd=>⟨_,(by kernel_rfl),ak9 (m:=m + n) (Z9 _ _) hS (dep hd 16 (by kernel_rfl) (by kernel_rfl) : (ratsG (η 16) [p.y * q.z,-(p.z * q.y)]).p S w) (br9 (A8 hm.2.1 hn.2.2) (ai3 (A8 hm.2.2 hn.2.1))) (by simp only [List.length]; omega)⟩) ?_
 refine l6 [true,false,false,false,false] ((ratG a1 p.x).and ((ratG b1 p.y).and ((ratG c1 p.z).and ((ratG a2 q.x).and ((ratG b2 q.y).and ((ratG c2 q.z).and (Gh.nil))))))) (by exact fun _ _ h=>⟨h.1,h.2.1,h.2.2.1,h.2.2.2.1,h.2.2.2.2.1,h.2.2.2.2.2,trivial⟩) (fun g η=>(ratG (η 17) ((p.y * q.z - p.z * q.y))).and g) (by kernel_rfl) (fun g η=>(by kernel_rfl)) ?_
 intro η_1
 refine l8 18 ⟨a8,hS,b7⟩ (by kernel_rfl) (by kernel_rfl) (by kernel_rfl) ?_
 refine i1 7 (fun η=>(by kernel_rfl)) ?_
 refine h_1 (fun x0=>.one (.ag 3 x0)) (fun x0=>ratG x0 ((p.z * q.x))) (fun η=>(by kernel_rfl)) (fun _ _ _ h=>⟨h.ok,rfl⟩) (fun β η S w hS hs hw hG hd=>have hc1:=hG.2.2.2.1; have ha2:=hG.2.2.2.2.1; ⟨_,(by kernel_rfl),F5 hS hc1 ha2 hm.2.2 hn.1 (by omega)⟩) ?_
 refine i1 6 (fun η=>(by kernel_rfl)) ?_
 refine h_1 (fun x0=>.one (.ag 3 x0)) (fun x0=>ratG x0 ((p.x * q.z))) (fun η=>(by kernel_rfl)) (fun _ _ _ h=>⟨h.ok,rfl⟩) (fun β η S w hS hs hw hG hd=>have ha1:=hG.2.1; have hc2:=hG.2.2.2.2.2.2.1; ⟨_,(by kernel_rfl),F5 hS ha1 hc2 hm.1 hn.2.2 (by omega)⟩) ?_
 refine h_1 (fun x0=>.one (.ag 3 x0)) (fun x0=>ratG x0 ((-(p.x * q.z)))) (fun η=>(by kernel_rfl)) (fun _ _ _ h=>⟨h.ok,rfl⟩) (fun β η S w hS hs hw hG hd=>⟨_,(by kernel_rfl),ar3 (dep hd 14 (by kernel_rfl) (by kernel_rfl) : (ratG (η 14) ((p.x * q.z))).p S w)⟩) ?_
 refine ak5 42 3 2 (fun x0=>ratsG x0 [p.z * q.x,-(p.x * q.z)]) ⟨a8,hS,b7⟩ (fun η=>(by kernel_rfl)) (fun β η S w x0 w' hS hs hw hG hd hk hrow=>bv8 ((dep hd 7 (by kernel_rfl) (by kernel_rfl) : (ratG (η 7) ((p.z * q.x))).p S w).to hk) ((dep hd 15 (by kernel_rfl) (by kernel_rfl) : (ratG (η 15) ((-(p.x * q.z)))).p S w).to hk) (kc hrow (by kernel_rfl))) ?_
 refine h_1 (fun x0=>.one (.ag 3 x0)) (fun x0=>ratG x0 ((p.z * q.x - p.x * q.z))) (fun η=>(by kernel_rfl)) (fun _ _ _ h=>⟨h.ok,rfl⟩) (fun β η S w hS hs hw hG hd=>⟨_,(by kernel_rfl),ak9 (m:=m + n) (Z9 _ _) hS (dep hd 16 (by kernel_rfl) (by kernel_rfl) : (ratsG (η 16) [p.z * q.x,-(p.x * q.z)]).p S w) (br9 (A8 hm.2.2 hn.1) (ai3 (A8 hm.1 hn.2.2))) (by simp only [List.length]; omega)⟩) ?_
 refine l6 [true,false,false,false,false] ((ratG (η_1 17) ((p.y * q.z - p.z * q.y))).and ((ratG a1 p.x).and ((ratG b1 p.y).and ((ratG a2 q.x).and ((ratG b2 q.y).and (Gh.nil)))))) (by exact fun _ _ h=>⟨h.1,h.2.1,h.2.2.1,h.2.2.2.2.1,h.2.2.2.2.2.1,trivial⟩) (fun g η=>(ratG (η 17) ((p.z * q.x - p.x * q.z))).and g) (by kernel_rfl) (fun g η=>(by kernel_rfl)) ?_
 intro η_2
 refine l8 18 ⟨a8,hS,b7⟩ (by kernel_rfl) (by kernel_rfl) (by kernel_rfl) ?_
 refine i1 7 (fun η=>(by kernel_rfl)) ?_
 refine h_1 (fun x0=>.one (.ag 3 x0)) (fun x0=>ratG x0 ((p.x * q.y))) (fun η=>(by kernel_rfl)) (fun _ _ _ h=>⟨h.ok,rfl⟩) (fun β η S w hS hs hw hG hd=>have ha1:=hG.2.2.1; have hb2:=hG.2.2.2.2.2.1; ⟨_,(by kernel_rfl),F5 hS ha1 hb2 hm.1 hn.2.1 (by omega)⟩) ?_
 refine i1 6 (fun η=>(by kernel_rfl)) ?_
 refine h_1 (fun x0=>.one (.ag 3 x0)) (fun x0=>ratG x0 ((p.y * q.x))) (fun η=>(by kernel_rfl)) (fun _ _ _ h=>⟨h.ok,rfl⟩) (fun β η S w hS hs hw hG hd=>have hb1:=hG.2.2.2.1; have ha2:=hG.2.2.2.2.1; ⟨_,(by kernel_rfl),F5 hS hb1 ha2 hm.2.1 hn.1 (by omega)⟩) ?_
 refine h_1 (fun x0=>.one (.ag 3 x0)) (fun x0=>ratG x0 ((-(p.y * q.x)))) (fun η=>(by kernel_rfl)) (fun _ _ _ h=>⟨h.ok,rfl⟩) (fun β η S w hS hs hw hG hd=>⟨_,(by kernel_rfl),ar3 (dep hd 14 (by kernel_rfl) (by kernel_rfl) : (ratG (η 14) ((p.y * q.x))).p S w)⟩) ?_
 refine ak5 42 3 2 (fun x0=>ratsG x0 [p.x * q.y,-(p.y * q.x)]) ⟨a8,hS,b7⟩ (fun η=>(by kernel_rfl)) (fun β η S w x0 w' hS hs hw hG hd hk hrow=>bv8 ((dep hd 7 (by kernel_rfl) (by kernel_rfl) : (ratG (η 7) ((p.x * q.y))).p S w).to hk) ((dep hd 15 (by kernel_rfl) (by kernel_rfl) : (ratG (η 15) ((-(p.y * q.x)))).p S w).to hk) (kc hrow (by kernel_rfl))) ?_
 refine h_1 (fun x0=>.one (.ag 3 x0)) (fun x0=>ratG x0 ((p.x * q.y - p.y * q.x))) (fun η=>(by kernel_rfl)) (fun _ _ _ h=>⟨h.ok,rfl⟩) (fun β η S w hS hs hw hG hd=>⟨_,(by kernel_rfl),ak9 (m:=m + n) (Z9 _ _) hS (dep hd 16 (by kernel_rfl) (by kernel_rfl) : (ratsG (η 16) [p.x * q.y,-(p.y * q.x)]).p S w) (br9 (A8 hm.1 hn.2.1) (ai3 (A8 hm.2.1 hn.1))) (by simp only [List.length]; omega)⟩) ?_
 refine l6 [true,false,false,false,false] ((ratG (η_2 17) ((p.z * q.x - p.x * q.z))).and ((ratG (η_1 17) ((p.y * q.z - p.z * q.y))).and (Gh.nil))) (by exact fun _ _ h=>⟨h.1,h.2.1,trivial⟩) (fun g η=>(ratG (η 17) ((p.x * q.y - p.y * q.x))).and g) (by kernel_rfl) (fun g η=>(by kernel_rfl)) ?_
 intro η_3
 exact q8 (tri3 (η_1 17) (η_2 17) (η_3 17)) ⟨a8,hS,b7⟩ (by kernel_rfl) rfl (by kernel_rfl) (fun β=>(by kernel_rfl)) (fun S w hs hw hG=>have hz:=hG.1; have hy:=hG.2.1; have hx:=hG.2.2.1; ⟨hw,_,_,_,rfl,hx.mono fun k _ hk=>hs k hk,hy.mono fun k _ hk=>hs k hk,hz.mono fun k _ hk=>hs k hk⟩)
end Go.Proofs.YtpheooheinfbgaaGreatDoor
end

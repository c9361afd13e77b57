/- Part 4. -/
import Derived.Test.YtmkhgjccoolfjaaGreatDoorSeconds3
import Derived.Test.YtmkhgjccoolfjaaGreatDoorSeconds1
import Derived.KernelRfl
import Derived.Test.YtmkhgjccoolfjaaGreatDoorSeconds2
set_option linter.unusedSimpArgs false
set_option linter.unusedVariables false
set_option maxRecDepth 100000
set_option maxHeartbeats 8000000
section
namespace Go.Proofs.YtmkhgjccoolfjaaGreatDoor
open Go Go.RowKit Tryz
variable {x : Option Eff} {o : Op} {s : SV} {vc : List Prop} {m b i n g j : Nat} {T : TypeId} {l l' : List Ch} {base : Bs} {β b0 : Nat → Nat} {ρ : Fr} {w w' w0 : World} {S S' K S0 : Nat → Prop} {v : Value} {P : Program} {E : Env} {o1 : Oper} {r : List Oper} {want : Bool} {p : Prop} {fr : List (Nat × SV)} {Q : G8} {f : FuncId} {α : Type} {Ψ : Value → World → Prop} {rs : List ResultVar} {Φ : List PanicEntry → World → Prop} {code : Code} {args : List Value} {R : Fr → World → Prop}
def be9 : Option Eff → Option Eff
 | some (.put s vc)=>some (.put s vc)
 | _=>none
def a02 : Option Eff → Option Eff
 | some (.mk T l s)=>some (.mk T l s)
 | _=>none
def ci6 : Option Eff → Option Eff
 | some (.wr b l)=>some (.wr b l)
 | _=>none
theorem ai0 {e : Eff} (h : be9 x = some e) : x = some e ∧ ∃ s vc,e = .put s vc:=by
 unfold be9 at h
 split at h
 ·exact ⟨h,_,_,(Option.some.inj h).symm⟩
 cases h
theorem L8 {e : Eff} (h : a02 x = some e) : x = some e ∧ ∃ T l s,e = .mk T l s:=by
 unfold a02 at h
 split at h
 ·exact ⟨h,_,_,_,(Option.some.inj h).symm⟩
 cases h
theorem ba6 {e : Eff} (h : ci6 x = some e) : x = some e ∧ ∃ b l,e = .wr b l:=by
 unfold ci6 at h
 split at h
 ·exact ⟨h,_,_,(Option.some.inj h).symm⟩
 cases h
noncomputable def dj4 (E : Env) (fr : List (Nat × SV)) (hp : List HE) : Op → Option Eff
 | .move x=>(opd fr x).map fun s=>.put s []
 | .assign x=>(opd fr x).map fun s=>.put s []
 | .pick c x y=>bv3 (opd fr c) (opd fr x) (opd fr y)
 | .build T ps=>bo1 E T (ps.toList.map fun p=>(p.1,opd fr p.2))
 | .load T x=>a45 E hp T (opd fr x)
 | .nilCheck x=>cg7 (opd fr x)
 | .binOp op t x y _=>cm0 E op t (opd fr x) (opd fr y)
 | .unOp op _ x=>c48 op (opd fr x)
 | .convert s d x=>bv1 E s d (opd fr x)
 | .makeInterface T x=>bi7 E T (opd fr x)
 | .makeFunc fn first cap=>bv0 fn first (cap.toList.map (opd fr))
 | .slice T x lo hi mx=>cl0 E T (opd fr x) (lo.map (opd fr)) (hi.map (opd fr)) (mx.map (opd fr))
 | .fieldAddr T x f=>bb4 E T f (opd fr x)
 | .field T x f=>bo2 E T f (opd fr x)
 | .indexAddr T x i=>a82 E T (opd fr x) (opd fr i)
 | .index T x i=>bl0 E T (opd fr x) (opd fr i)
 | .extract x i=>ay7 i (opd fr x)
 | .call c=>bv8 E c.callee c.argTypes.toList (c.args.toList.map (opd fr))
 | _=>none
noncomputable def eff (E : Env) (fr : List (Nat × SV)) (hp : List HE) : Op → Option Eff
 | .alloc T=>a02 (ar4 E T hp.length)
 | .box T x=>a02 (bm1 T hp.length (opd fr x))
 | .buildSlice T n ps=>a02 (bw3 E T n hp.length (ps.toList.map fun p=>(p.1,opd fr p.2)))
 | .store T x y=>ci6 (bi6 E hp T (opd fr x) (opd fr y))
 | o=>be9 (dj4 E fr hp o)
section
variable {P : Program} {E : Env} {β : Nat → Nat} {w : World} {ty : TypeId} {ρ : Operand → Value} {base : Bs} {fr : List (Nat × SV)} {hp : List HE}
def ah6 (β : Nat → Nat) (m : Nat) (fr : List (Nat × SV)) (ρ : Operand → Value) (o : Op) : Prop:=∀ x,x ∈ o.operands.toList → Kn β m (opd fr x) (ρ x)
theorem bw2 (hle : hp.length ≤ m) (hE : EnvOk P E) (hm : Mem base hp β w) (hk : ah6 β m fr ρ o) (h : dj4 E fr hp o = some (.put s vc)) (hv : I3 vc) : ai5 P ρ o ty w (s.den β) ∧ s.Ok m:=by
 cases o <;> simp only [dj4] at h <;> first | (cases h; done) | skip
 case move x=>
  have h1:=hk x (by simp [Op.operands]) _ (as5 h)
  exact ⟨fun d pos aft g=>by simp [execOp,h1.1],h1.2⟩
 case assign x=>
  have h1:=hk x (by simp [Op.operands]) _ (as5 h)
  exact ⟨fun d pos aft g=>by simp [execOp,h1.1],h1.2⟩
 case pick c x y=>exact ce6 (hk c (by simp [Op.operands])) (hk x (by simp [Op.operands])) (hk y (by simp [Op.operands])) h
 case build T ps=>exact b96 hE (fun p hp=>hk p.2 (by simp [Op.operands]; exact ⟨p.1,by simpa using hp⟩)) h
 case load T x=>exact ⟨(az3 hE hm (hk x (by simp [Op.operands])) h).1,(az3 (P:=P) (ty:=ty) hE hm (hk x (by simp [Op.operands])) h).2.le hle⟩
 case nilCheck x=>exact ct6 (hk x (by simp [Op.operands])) h
 case binOp op t x y t'=>exact cz9 hE (hk x (by simp [Op.operands])) (hk y (by simp [Op.operands])) h hv
 case unOp op t x=>exact dh3 (hk x (by simp [Op.operands])) h hv
 case convert a b x=>exact ce9 hE (hk x (by simp [Op.operands])) h hv
 case makeInterface T x=>exact b95 hE (hk x (by simp [Op.operands])) h
 case makeFunc fn first cap=>exact cl1 (fun x hx=>hk x (by simp only [Op.operands,Array.toList_append,List.mem_append]; exact .inr hx)) h
 case slice T x lo hi mx=>
  exact cx3 (f:=opd fr) hE (hk x (by simp [Op.operands])) (fun o ho=>hk o (by subst ho; simp [Op.operands])) (fun o ho=>hk o (by subst ho; simp [Op.operands])) (fun o ho=>hk o (by subst ho; simp [Op.operands])) h
 case fieldAddr T x f=>exact bz1 hE (hk x (by simp [Op.operands])) h
 case field T x f=>exact cb0 hE (hk x (by simp [Op.operands])) h
 case indexAddr T x i=>exact b07 hE (hk x (by simp [Op.operands])) (hk i (by simp [Op.operands])) h
 case index T x i=>exact cc4 hE (hk x (by simp [Op.operands])) (hk i (by simp [Op.operands])) h
 case extract x i=>exact bp2 (hk x (by simp [Op.operands])) h
 case call c=>exact cm2 (f:=opd fr) hE (fun x hx=>hk x (by simp only [Op.operands,Call.operands,Array.toList_append,List.mem_append]; exact .inr hx)) h
theorem dl3 (hE : EnvOk P E) (hm : Mem base hp β w) (hk : ah6 β hp.length fr ρ o) (h : eff E fr hp o = some (.put s vc)) (hv : I3 vc) : ai5 P ρ o ty w (s.den β) ∧ s.Ok hp.length:=by
 unfold eff at h
 split at h
 ·obtain ⟨_,_,_,_,e⟩:=L8 h; cases e
 ·obtain ⟨_,_,_,_,e⟩:=L8 h; cases e
 ·obtain ⟨_,_,_,_,e⟩:=L8 h; cases e
 ·obtain ⟨_,_,_,e⟩:=ba6 h; cases e
 exact bw2 (Nat.le_refl _) hE hm hk (ai0 h).1 hv
theorem d43 (hE : EnvOk P E) (hk : ah6 β hp.length fr ρ o) (h : eff E fr hp o = some (.mk T l s)) :
  (∀ c ∈ l,c.Ok hp.length) ∧ s.Ok (hp.length + 1) ∧ ∀ β' : Nat → Nat,β' hp.length = w.heap.size → ∀ d pos aft g,(execOp ρ ⟨d,o,ty,pos,aft,g⟩).run P w = .ok (.value (s.den β')) (w.alloc (.cells (d6 β l).toArray T)):=by
 unfold eff at h
 split at h
 ·rename_i T'
  obtain ⟨rfl,rfl,h1,h2⟩:=bc7 (P:=P) (m:=hp.length) (β:=β) (w:=w) (ρ:=ρ) (ty:=ty) hE (L8 h).1
  exact ⟨h1,Nat.lt_succ_self _,fun β' hb d pos aft g=>by rw [h2]; simp only [SV.den,Ch.den,hb]⟩
 ·rename_i T' x
  obtain ⟨rfl,rfl,h1,h2⟩:=bs5 (P:=P) (w:=w) (ty:=ty) (hk x (by simp [Op.operands])) (L8 h).1
  exact ⟨h1,Nat.lt_succ_self _,fun β' hb d pos aft g=>by rw [h2]; simp only [SV.den,Ch.den,hb]⟩
 ·rename_i T' n ps
  obtain ⟨rfl,h1,h2⟩:=br5 (P:=P) (w:=w) (ty:=ty) hE (fun p hp=>hk p.2 (by simp [Op.operands]; exact ⟨p.1,by simpa using hp⟩)) (L8 h).1
  exact ⟨h1,Nat.lt_succ_self _,fun β' hb d pos aft g=>by rw [h2]; simp only [SV.den,Ch.den,hb]⟩
 ·obtain ⟨_,_,_,e⟩:=ba6 h; cases e
 obtain ⟨_,_,_,e⟩:=ai0 h; cases e
theorem d31 (hE : EnvOk P E) (hm : Mem base hp β w) (hk : ah6 β hp.length fr ρ o) (h : eff E fr hp o = some (.wr b l')) :
  ∃ T' l w',hp[b]? = some (HE.blk T' l) ∧ (∀ c ∈ l',c.Ok hp.length) ∧ Wrt (β b) w w' ∧ Blk w' (β b) T' (d6 β l') ∧ ∀ d pos aft g,(execOp ρ ⟨d,o,ty,pos,aft,g⟩).run P w = .ok .skip w':=by
 unfold eff at h
 split at h
 ·obtain ⟨_,_,_,_,e⟩:=L8 h; cases e
 ·obtain ⟨_,_,_,_,e⟩:=L8 h; cases e
 ·obtain ⟨_,_,_,_,e⟩:=L8 h; cases e
 ·rename_i T x y
  exact b28 hE hm (hk x (by simp [Op.operands])) (hk y (by simp [Op.operands])) (ba6 h).1
 obtain ⟨_,_,_,e⟩:=ai0 h; cases e
end
structure Gh where
 p : (Nat → Prop) → World → Prop
 keep : ∀ {S : Nat → Prop} {w w' : World},p S w → Keeps S w w' → p S w'
 mono : ∀ {S S' : Nat → Prop} {w : World},p S w → (∀ k,k < w.heap.size → S k → S' k) → p S' w
abbrev Gh.nil : Gh:=⟨fun _ _=>True,fun _ _=>trivial,fun _ _=>trivial⟩
abbrev Gh.and (a b : Gh) : Gh:=⟨fun S w=>a.p S w ∧ b.p S w,fun h k=>⟨a.keep h.1 k,b.keep h.2 k⟩,fun h k=>⟨a.mono h.1 k,b.mono h.2 k⟩⟩
variable {G : Gh}
structure St where
 fr : List (Nat × SV)
 hp : List HE
variable {st st' : St}
structure Sat (base : Bs) (st : St) (β : Nat → Nat) (ρ : Fr) (w : World) : Prop where
 fr : ∀ d,Kn β st.hp.length (J8 st.fr d) (ρ d)
 mem : Mem base st.hp β w
 agr : base.m ≤ st.hp.length ∧ ∀ i,i < base.m → β i = base.b i
theorem Sat.ops (h : Sat base st β ρ w) (o : Op) : ah6 β st.hp.length st.fr (ev ρ) o:=
 fun x _=>ai2 fun t _=>h.fr t
theorem Keeps.behind {w1 w2 : World} (h : Keeps S w w1) (k : Keeps S' w1 w2) (hs : ∀ i,i < w.heap.size → S i → S' i) : Keeps S w w2:=
 ⟨k.os.trans h.os,k.tape.trans h.tape,k.output.trans h.output,Nat.le_trans h.size k.size,
  fun i hi hk=>(k.block i (Nat.lt_of_lt_of_le hi h.size) (hs i hi hk)).trans (h.block i hi hk)⟩
theorem AbsE.keep (A : AbsE) (h : A.R w) (hl : ∀ k,A.Q k → k < w.heap.size) (k : Keeps S w w') (hs : ∀ k,A.Q k → S k) : A.R w':=
 A.frame w w' h k.size fun i hi=>k.block i (hl i hi) (hs i hi)
theorem Mem.to {hp : List HE} (h : Mem base hp β w) (k : Ext w w') : Mem base hp β w':=
 ⟨fun i T l hi=>⟨(h.blk i T l hi).1.to k,(h.blk i T l hi).2⟩,fun i T s v n cs hi=>ab6 (h.row i T s v n cs hi) k,fun i A hi=>A.keep (h.abs i A hi) (fun k' g=>(h.low i k' ⟨_,hi,g⟩).2) k fun _ _=>trivial,fun i k' hk=>⟨(h.low i k' hk).1,Nat.lt_of_lt_of_le (h.low i k' hk).2 k.size⟩,h.apart⟩
theorem Mem.grow {hp : List HE} {m0 : Nat} (h : Mem ⟨w0.heap.size,K,m0,b0⟩ hp β w) (hw : Keeps K w0 w) (k : Keeps S' w w') (b : Nat) (hm : ∀ i,¬ S' i → m7 β hp b i) : Keeps K w0 w':=
 Keeps.behind hw k fun i hi hk=>Classical.byContradiction fun hn=>by
  rcases (h.low b i (hm i hn)).1 with h6 | h6
  ·have h7 : w0.heap.size ≤ i:=h6
   omega
  exact h6 hk
theorem H6 {d : Nat} {r : List (Nat × SV)} : J8 ((i,s) :: r) d = if i = d then some s else J8 r d:=by
 simp only [J8]
 by_cases e : i = d
 ·subst e; simp
 have : Nat.beq i d = false:=by
  cases hq : Nat.beq i d with
  | false=>rfl
  | true=>exact absurd (Nat.eq_of_beq_eq_true hq) e
 rw [this,if_neg e]
 rfl
theorem ag5 {d : Nat} : upd ρ d v i = if d = i then v else ρ i:=by
 by_cases e : d = i
 ·subst e; rw [A8,if_pos rfl]
 rw [if_neg e,Q6]
 cases hq : Nat.beq i d with
 | false=>rfl
 | true=>exact absurd (Nat.eq_of_beq_eq_true hq).symm e
theorem Sat.put {d : Nat} (h : Sat base st β ρ w) (hv : v = s.den β) (ok : s.Ok st.hp.length) : Sat base ⟨(d,s) :: st.fr,st.hp⟩ β (upd ρ d v) w:=by
 refine ⟨fun i s' hs=>?_,h.mem,h.agr⟩
 rw [H6] at hs
 rw [ag5]
 split at hs
 ·rename_i e
  rw [if_pos e]
  simp only [Option.some.injEq] at hs
  subst hs
  exact ⟨hv,ok⟩
 rename_i e
 rw [if_neg e]
 exact h.fr i s' hs
theorem Sat.to (h : Sat base st β ρ w) (k : Ext w w') : Sat base st β ρ w':=⟨h.fr,h.mem.to k,h.agr⟩
def βs (β : Nat → Nat) (n g : Nat) : Nat → Nat:=fun i=>if i = n then g else β i
theorem b22 (h : i < n) : βs β n g i = β i:=by unfold βs; rw [if_neg (by omega)]
theorem aj4 : βs β n g n = g:=by unfold βs; rw [if_pos rfl]
theorem as0 {hp : List HE} {k : Nat} : m7 (βs β hp.length g) (hp ++ [.blk T l]) i k ↔ (i = hp.length ∧ k = g) ∨ (i ≠ hp.length ∧ m7 β hp i k):=by
 by_cases e : i = hp.length
 ·subst e
  rw [U3 (e:=.blk T l) (by simp)]
  simp [HE.mine,aj4]
 by_cases hl : i < hp.length
 ·unfold m7
  rw [List.getElem?_append_left hl,b22 hl]
  simp [e]
 have h1 : ¬ m7 β hp i k:=aj5 (List.getElem?_eq_none (by omega))
 have h2 : ¬ m7 (βs β hp.length g) (hp ++ [.blk T l]) i k:=aj5 (List.getElem?_eq_none (by simp; omega))
 simp [e,h1,h2]
theorem Sat.new {d : Nat} (h : Sat base st β ρ w) (hb : base.n ≤ w.heap.size) (hok : ∀ c ∈ l,c.Ok st.hp.length) (ok : s.Ok (st.hp.length + 1)) :
  Sat base ⟨(d,s) :: st.fr,st.hp ++ [.blk T l]⟩ (βs β st.hp.length w.heap.size) (upd ρ d (s.den (βs β st.hp.length w.heap.size))) (w.alloc (.cells (d6 β l).toArray T)):=by
 have hlen : (st.hp ++ [HE.blk T l]).length = st.hp.length + 1:=by simp
 have hc : ∀ i,i < st.hp.length → β i = βs β st.hp.length w.heap.size i:=fun i hi=>(b22 hi).symm
 have k:=R1 w (.cells (d6 β l).toArray T)
 have h2:=h.to k
 refine ⟨fun i s' hs=>?_,⟨?_,?_,?_,?_,?_⟩,by rw [hlen]; exact Nat.le_succ_of_le h.agr.1,fun i hi=>(b22 (Nat.lt_of_lt_of_le hi h.agr.1)).trans (h.agr.2 i hi)⟩
 ·rw [H6] at hs
  rw [ag5,hlen]
  split at hs
  ·rename_i e
   rw [if_pos e]
   simp only [Option.some.injEq] at hs
   subst hs
   exact ⟨rfl,ok⟩
  rename_i e
  rw [if_neg e]
  obtain ⟨e1,e2⟩:=h.fr i s' hs
  exact ⟨e1.trans (SV.den_congr hc e2),e2.le (Nat.le_succ _)⟩
 ·intro i T' l' hi
  rw [hlen]
  by_cases e : i = st.hp.length
  ·subst e
   simp at hi
   obtain ⟨rfl,rfl⟩:=hi
   rw [aj4]
   refine ⟨?_,fun c hc=>(hok c hc).le (Nat.le_succ _)⟩
   rw [← K6 hc hok]
   exact Blk.new _ _ _
  ·have hl : i < st.hp.length:=by
    have:=(List.getElem?_eq_some_iff.1 hi).1
    simp at this
    omega
   rw [List.getElem?_append_left hl] at hi
   obtain ⟨e1,e2⟩:=h2.mem.blk i T' l' hi
   rw [b22 hl,← K6 hc e2]
   exact ⟨e1,fun c hc=>(e2 c hc).le (Nat.le_succ _)⟩
 ·intro i T' s' v n cs hi
  have hl : i < st.hp.length:=by
   have h3:=(List.getElem?_eq_some_iff.1 hi).1
   simp at h3
   rcases Nat.lt_or_ge i st.hp.length with h | h
   ·exact h
   obtain rfl : i = st.hp.length:=by omega
   simp at hi
  rw [List.getElem?_append_left hl] at hi
  exact h2.mem.row i T' s' v n cs hi
 ·intro i A hi
  have hl : i < st.hp.length:=by
   have h3:=(List.getElem?_eq_some_iff.1 hi).1
   simp at h3
   rcases Nat.lt_or_ge i st.hp.length with h | h
   ·exact h
   obtain rfl : i = st.hp.length:=by omega
   simp at hi
  rw [List.getElem?_append_left hl] at hi
  exact h2.mem.abs i A hi
 ·intro i k' hk
  rw [as0] at hk
  rcases hk with ⟨_,rfl⟩ | ⟨_,hk⟩
  ·exact ⟨.inl hb,by simp⟩
  exact h2.mem.low i k' hk
 intro i j k' hi hj
 rw [as0] at hi hj
 rcases hi with ⟨e1,e2⟩ | ⟨_,hi⟩ <;> rcases hj with ⟨e3,e4⟩ | ⟨_,hj⟩
 ·omega
 ·have:=(h.mem.low j k' hj).2
  omega
 ·have:=(h.mem.low i k' hi).2
  omega
 exact h.mem.apart i j k' hi hj
theorem dy3 {hp : List HE} : ∀ k,k < w.heap.size → Sof S0 β hp k → Sof S0 (βs β hp.length w.heap.size) (hp ++ [.blk T l]) k:=by
 intro k hk ⟨h1,h2⟩
 refine ⟨h1,fun i hi=>?_⟩
 rw [as0] at hi
 rcases hi with ⟨_,hi⟩ | ⟨_,hi⟩
 ·omega
 exact h2 i hi
theorem aq4 {hp : List HE} {T' : TypeId} (h : hp[b]? = some (.blk T l)) (i k : Nat) : m7 β (hp.set b (.blk T' l')) i k ↔ m7 β hp i k:=by
 by_cases e : b = i
 ·subst e
  have hl:=(List.getElem?_eq_some_iff.1 h).1
  rw [U3 h,U3 (List.getElem?_set_self hl)]
  exact Iff.rfl
 unfold m7
 rw [List.getElem?_set_ne e]
theorem Sat.wr (h : Sat base st β ρ w) (hb : st.hp[b]? = some (.blk T l)) (hok : ∀ c ∈ l',c.Ok st.hp.length) (k : Wrt (β b) w w') (hn : Blk w' (β b) T (d6 β l')) :
  Sat base ⟨st.fr,st.hp.set b (.blk T l')⟩ β ρ w':=by
 have hlen : (st.hp.set b (.blk T l')).length = st.hp.length:=by simp
 have hbl:=(List.getElem?_eq_some_iff.1 hb).1
 have hmb : m7 β st.hp b (β b):=⟨_,hb,rfl⟩
 refine ⟨fun d=>by rw [hlen]; exact h.fr d,⟨?_,?_,?_,?_,?_⟩,by rw [hlen]; exact h.agr.1,h.agr.2⟩
 ·intro i T' l2 hi
  rw [hlen]
  by_cases e : b = i
  ·subst e
   rw [List.getElem?_set_self hbl] at hi
   simp only [Option.some.injEq,HE.blk.injEq] at hi
   obtain ⟨rfl,rfl⟩:=hi
   exact ⟨hn,hok⟩
  rw [List.getElem?_set_ne e] at hi
  obtain ⟨e1,e2⟩:=h.mem.blk i T' l2 hi
  refine ⟨e1.wr k fun e3=>e ?_,e2⟩
  exact h.mem.apart b i (β b) hmb ⟨_,hi,e3.symm⟩
 ·intro i T' s v n cs hi
  have e : b ≠ i:=by
   intro e
   subst e
   rw [List.getElem?_set_self hbl] at hi
   cases hi
  rw [List.getElem?_set_ne e] at hi
  refine ad1 (h.mem.row i T' s v n cs hi) k fun g hg e3=>e ?_
  exact h.mem.apart b i (β b) hmb ⟨_,hi,by show v.ownBlock = _; rw [hg,e3]⟩
 ·intro i A hi
  have e : b ≠ i:=by
   intro e
   subst e
   rw [List.getElem?_set_self hbl] at hi
   cases hi
  rw [List.getElem?_set_ne e] at hi
  refine A.keep (h.mem.abs i A hi) (fun k' g=>(h.mem.low i k' ⟨_,hi,g⟩).2) k fun g hg e3=>e ?_
  exact h.mem.apart b i (β b) hmb ⟨_,hi,by show A.Q _; rw [← e3]; exact hg⟩
 ·intro i k' hk
  rw [aq4 hb] at hk
  obtain ⟨e1,e2⟩:=h.mem.low i k' hk
  exact ⟨e1,Nat.lt_of_lt_of_le e2 k.size⟩
 intro i j k' hi hj
 rw [aq4 hb] at hi hj
 exact h.mem.apart i j k' hi hj
noncomputable def b11 (E : Env) (st : St) (o : Oper) : Option (St × List Prop):=
 match eff E st.fr st.hp o.op,o.dst with
 | some (.put s vc),some d=>some (⟨(d,s) :: st.fr,st.hp⟩,vc)
 | some (.mk T l s),some d=>some (⟨(d,s) :: st.fr,st.hp ++ [.blk T l]⟩,[])
 | some (.wr b l),none=>match nth st.hp b with
  | some (.blk T _)=>some (⟨st.fr,Z9 st.hp b (.blk T l)⟩,[])
  | _=>none
 | _,_=>none
def Onw (S0 K : Nat → Prop) (w0 : World) (β : Nat → Nat) (hp : List HE) (w : World) (β' : Nat → Nat) (hp' : List HE) (w' : World) : Prop:=
 Keeps K w0 w' ∧ ∀ G : Gh,G.p (Sof S0 β hp) w → G.p (Sof S0 β' hp') w'
theorem cy7 {m0 : Nat} {o : Oper} (hE : EnvOk P E) (h : Sat ⟨w0.heap.size,K,m0,b0⟩ st β ρ w) (hw : Keeps K w0 w)
  (hs : b11 E st o = some (st',vc)) (hv : I3 vc) : Stp P (ev ρ) o w fun v w'=>∃ β',Sat ⟨w0.heap.size,K,m0,b0⟩ st' β' (ar1 ρ o.dst v) w' ∧ Onw S0 K w0 β st.hp w β' st'.hp w':=by
 obtain ⟨dst,op,ty,pos,aft,g⟩:=o
 unfold b11 at hs
 simp only at hs
 split at hs <;> first | (cases hs; done) | skip
 ·rename_i s vc' d he
  simp only [Option.some.injEq,Prod.mk.injEq] at hs
  obtain ⟨rfl,rfl⟩:=hs
  obtain ⟨h1,h2⟩:=dl3 (P:=P) (ty:=ty) hE h.mem (h.ops op) he hv
  unfold Stp
  rw [h1]
  exact ⟨β,h.put rfl h2,hw,fun G hG=>hG⟩
 ·rename_i T l s d he
  simp only [Option.some.injEq,Prod.mk.injEq] at hs
  obtain ⟨rfl,rfl⟩:=hs
  obtain ⟨h1,h2,h3⟩:=d43 (P:=P) (w:=w) (ty:=ty) hE (h.ops op) he
  unfold Stp
  rw [h3 _ aj4]
  have k:=R1 w (.cells (d6 β l).toArray T)
  exact ⟨_,h.new hw.size h1 h2,hw.trans (.of k),fun G hG=>G.keep (G.mono hG dy3) (.of k)⟩
 rename_i b l he
 split at hs <;> first | (cases hs; done) | skip
 rename_i T l0 hn
 simp only [Option.some.injEq,Prod.mk.injEq] at hs
 obtain ⟨rfl,rfl⟩:=hs
 obtain ⟨T',l',w',h1,h2,h3,h4,h5⟩:=d31 (P:=P) (ty:=ty) hE h.mem (h.ops op) he
 rw [O9] at hn
 rw [hn] at h1
 simp only [Option.some.injEq,HE.blk.injEq] at h1
 obtain ⟨rfl,rfl⟩:=h1
 unfold Stp
 rw [h5]
 have hmb : m7 β st.hp b (β b):=⟨_,hn,rfl⟩
 rw [O7]
 refine ⟨β,h.wr hn h2 h3 h4,?_,fun G hG=>?_⟩
 ·exact Keeps.behind hw h3 fun i hi hk e=>by
   subst e
   rcases (h.mem.low b _ hmb).1 with h6 | h6
   ·have h7 : w0.heap.size ≤ β b:=h6
    omega
   exact h6 hk
 refine G.mono (G.keep hG (h3.mono fun k hk e=>hk.2 b (e ▸ hmb))) fun k _ hk=>⟨hk.1,fun i hi=>?_⟩
 rw [aq4 hn] at hi
 exact hk.2 i hi
inductive Cur where
 | code (c : Code)
 | ops (all rest : List Oper)
 | ex (e : Exit)
inductive Kt where
 | code (c : Code)
 | blk (i : Nat)
 | lp (c : Code)
variable {k : List Kt}
structure Out where
 cur : Cur
 k : List Kt
 st : St
 vc : List Prop
def kQ [Rd] (P : Program) (n : Nat) (Q : G8) : List Kt → G8
 | []=>Q
 | .code c :: k=>L6 (fun ρ w=>WqC P n c (kQ P n Q k) ρ w) (kQ P n Q k)
 | .blk i :: k=>J5 i (kQ P n Q k)
 | .lp c :: k=>L6 (fun ρ w=>LH P n c (kQ P n Q k) ρ w) (kQ P n Q k)
def d08 [Rd] (P : Program) (n : Nat) (Q : G8) : Cur → Fr → World → Prop
 | .code c=>WqC P n c Q
 | .ops all rest=>WqR P n all Q rest
 | .ex e=>Q e
noncomputable def b09 (E : Env) (all : List Oper) (o1 : Oper) (r : List Oper) (o : Out) : Option Out:=
 match b11 E o.st o1 with
 | some (st',vc)=>some ⟨.ops all r,o.k,st',vc ++ o.vc⟩
 | none=>none
def bb9 (st : St) (d : Option Tmp) : St:=match d with | some d=>⟨(d,.und) :: st.fr,st.hp⟩ | none=>st
noncomputable def bl9 (E : Env) (un : Bool) (o : Out) : Option Out:=
 match o.cur with
 | .code c=>match c with
  | .skip=>some ⟨.ex .normal,o.k,o.st,o.vc⟩
  | .label _=>some ⟨.ex .normal,o.k,o.st,o.vc⟩
  | .seq a b=>some ⟨.code a,.code b :: o.k,o.st,o.vc⟩
  | .block i c=>some ⟨.code c,.blk i :: o.k,o.st,o.vc⟩
  | .exit i=>some ⟨.ex (.exit i),o.k,o.st,o.vc⟩
  | .ret=>some ⟨.ex .ret,o.k,o.st,o.vc⟩
  | .region _ ops d=>bif d then none else some ⟨.ops ops.toList ops.toList,o.k,o.st,o.vc⟩
  | .cond x a b=>match opd o.st.fr x with
   | some (.one (.bb true))=>some ⟨.code a,o.k,o.st,o.vc⟩
   | some (.one (.bb false))=>some ⟨.code b,o.k,o.st,o.vc⟩
   | _=>none
  | .loop c=>bif un then some ⟨.code c,.lp c :: o.k,o.st,o.vc⟩ else none
  | _=>none
 | .ops all []=>some ⟨.ex .normal,o.k,o.st,o.vc⟩
 | .ops all (o1 :: r)=>match o1.guard with
  | none=>b09 E all o1 r o
  | some (j,want)=>match H4 all j with
   | none=>none
   | some d=>match J8 o.st.fr d with
    | some (.one (.bb x))=>bif x == want then some ⟨.ops all (⟨o1.dst,o1.op,o1.type,o1.pos,o1.after,none⟩ :: r),o.k,o.st,o.vc⟩ else some ⟨.ops all r,o.k,bb9 o.st o1.dst,o.vc⟩
    | some .und=>some ⟨.ops all r,o.k,bb9 o.st o1.dst,o.vc⟩
    | _=>none
 | .ex e=>match e,o.k with
  | .normal,.code c :: k=>some ⟨.code c,k,o.st,o.vc⟩
  | .normal,.blk i :: k=>some ⟨.ex .normal,k,o.st,o.vc⟩
  | .normal,.lp c :: k=>some ⟨.code c,.lp c :: k,o.st,o.vc⟩
  | .exit i,.code _ :: k=>some ⟨.ex (.exit i),k,o.st,o.vc⟩
  | .exit i,.lp _ :: k=>some ⟨.ex (.exit i),k,o.st,o.vc⟩
  | .exit i,.blk j :: k=>bif Nat.beq i j then some ⟨.ex .normal,k,o.st,o.vc⟩ else some ⟨.ex (.exit i),k,o.st,o.vc⟩
  | .ret,_ :: k=>some ⟨.ex .ret,k,o.st,o.vc⟩
  | _,_=>none
noncomputable def exec (E : Env) (un : Bool) : Nat → Out → Out
 | 0,o=>o
 | n + 1,o=>match bl9 E un o with
  | some o'=>exec E un n o'
  | none=>o
structure Cx where
 P : Program
 n : Nat
 E : Env
 w0 : World
 S0 : Nat → Prop
 K : Nat → Prop
 Q : G8
 m : Nat
 b : Nat → Nat
abbrev Cx.bs (c : Cx) : Bs:=⟨c.w0.heap.size,c.K,c.m,c.b⟩
structure Cx.Ok (c : Cx) : Prop where
 env : EnvOk c.P c.E
 up : Up c.S0 c.w0
 lent : ∀ k,¬ c.K k → c.S0 k
theorem l8 : ∀ k,¬ All k → S k:=fun _ h=>absurd trivial h
theorem Sat.up0 {c : Cx} (h : Sat c.bs st β ρ w) (hc : c.Ok) (b k : Nat) (hm : m7 β st.hp b k) : c.S0 k:=by
 rcases (h.mem.low b k hm).1 with h1 | h1
 ·exact hc.up k h1
 exact hc.lent k h1
def fe3 (c : Cx) (st : St) (G : Gh) (X : Fr → World → Prop) : Prop:=∀ β ρ w,Sat c.bs st β ρ w → Keeps c.K c.w0 w → G.p (Sof c.S0 β st.hp) w → X ρ w
structure Run [Rd] (c : Cx) (o : Out) (G : Gh) : Prop where
 run : fe3 c o.st G (d08 c.P c.n (kQ c.P c.n c.Q o.k) o.cur)
structure VcOk (l : List Prop) : Prop where
 all : I3 l
section
variable {c : Cx} {o o' : Out} {G : Gh} {un : Bool}
theorem cd0 (h : Sat base st β ρ w) (d : Option Tmp) : Sat base (bb9 st d) β (ar1 ρ d undef) w:=by
 cases d with
 | none=>exact h
 | some d=>exact h.put rfl trivial
theorem cr7 {d : Option Tmp} : (bb9 st d).hp = st.hp:=by cases d <;> rfl
theorem cz0 [Rd] {all : List Oper} (hc : c.Ok) (hg : o1.guard = none) (hcur : o.cur = .ops all (o1 :: r)) (h : b09 c.E all o1 r o = some o') (hv : I3 o'.vc) (hr : Run c o' G) : Run c o G:=by
 unfold b09 at h
 cases hs : b11 c.E o.st o1 with
 | none=>rw [hs] at h; cases h
 | some x=>
  obtain ⟨st',vc⟩:=x
  rw [hs] at h
  simp only [Option.some.injEq] at h
  subst h
  refine ⟨fun β ρ w hS hw hG=>?_⟩
  rw [hcur]
  have h1:=cy7 (S0:=c.S0) (K:=c.K) hc.env hS hw hs (bc5.1 hv).1
  refine aw8 hg (h1.mono fun v w' ⟨β',hS',hw',hG'⟩=>?_)
  exact hr.run β' _ w' hS' hw' (hG' G hG)
theorem a52 {b : Bool} {x y z : Out} (h : (bif b then some x else some y) = some z) : (b = true ∧ x = z) ∨ (b = false ∧ y = z):=by
 cases b
 ·exact .inr ⟨rfl,Option.some.inj h⟩
 exact .inl ⟨rfl,Option.some.inj h⟩
theorem c90 (h : bl9 c.E un o = some o') : I3 o'.vc → I3 o.vc:=by
 intro hv
 unfold bl9 at h
 split at h
 ·split at h <;> first | (simp only [Option.some.injEq] at h; subst h; exact hv) | (cases h; done) | skip
  ·rename_i d _
   cases d <;> simp only [cond_true,cond_false,Option.some.injEq] at h
   ·subst h; exact hv
   cases h
  ·split at h <;> first | (simp only [Option.some.injEq] at h; subst h; exact hv) | (cases h; done)
  cases un <;> simp only [cond_true,cond_false,Option.some.injEq] at h
  ·cases h
  subst h; exact hv
 ·simp only [Option.some.injEq] at h; subst h; exact hv
 ·split at h
  ·unfold b09 at h
   split at h
   ·simp only [Option.some.injEq] at h
    subst h
    exact (bc5.1 hv).2
   cases h
  split at h
  ·cases h
  split at h <;> first | (simp only [Option.some.injEq] at h; subst h; exact hv) | (cases h; done) | skip
  rcases a52 h with ⟨_,rfl⟩ | ⟨_,rfl⟩ <;> exact hv
 split at h <;> first | (simp only [Option.some.injEq] at h; subst h; exact hv) | (cases h; done) | skip
 rcases a52 h with ⟨_,rfl⟩ | ⟨_,rfl⟩ <;> exact hv
theorem cw7 [Rd] {all : List Oper} {d : Nat} {x : Bool} (hg : o1.guard = some (j,want)) (hd : H4 all j = some d) (hx : J8 st.fr d = some (.one (.bb x))) (hb : (x == want) = true)
  (hr : Run c ⟨.ops all (⟨o1.dst,o1.op,o1.type,o1.pos,o1.after,none⟩ :: r),k,st,vc⟩ G) : Run c ⟨.ops all (o1 :: r),k,st,vc⟩ G:=by
 obtain ⟨dst,op,ty,pos,aft,g⟩:=o1
 simp only at hg
 subst hg
 refine ⟨fun β ρ w hS hw hG=>?_⟩
 refine by4 hd ?_ (hr.run β ρ w hS hw hG)
 rw [((hS.fr d) _ hx).1,← eq_of_beq hb]
 rfl
theorem ck0 [Rd] {all : List Oper} {d : Nat} {x : Bool} (hg : o1.guard = some (j,want)) (hd : H4 all j = some d) (hx : J8 st.fr d = some (.one (.bb x))) (hb : (x == want) = false)
  (hr : Run c ⟨.ops all r,k,bb9 st o1.dst,vc⟩ G) : Run c ⟨.ops all (o1 :: r),k,st,vc⟩ G:=by
 obtain ⟨dst,op,ty,pos,aft,g⟩:=o1
 simp only at hg
 subst hg
 refine ⟨fun β ρ w hS hw hG=>?_⟩
 refine bp3 hd ((hS.fr d) _ hx).1 hb ?_
 exact hr.run β _ w (cd0 hS dst) hw (by rw [cr7]; exact hG)
theorem cw2 [Rd] {all : List Oper} {d : Nat} (hg : o1.guard = some (j,want)) (hd : H4 all j = some d) (hx : J8 st.fr d = some .und)
  (hr : Run c ⟨.ops all r,k,bb9 st o1.dst,vc⟩ G) : Run c ⟨.ops all (o1 :: r),k,st,vc⟩ G:=by
 obtain ⟨dst,op,ty,pos,aft,g⟩:=o1
 simp only at hg
 subst hg
 refine ⟨fun β ρ w hS hw hG=>?_⟩
 refine bj2 hd ((hS.fr d) _ hx).1 ?_
 exact hr.run β _ w (cd0 hS dst) hw (by rw [cr7]; exact hG)
theorem df2 [Rd] (hc : c.Ok) (h : bl9 c.E un o = some o') (hv : I3 o'.vc) (hr : Run c o' G) : Run c o G:=by
 obtain ⟨cur,k,st,vc⟩:=o
 unfold bl9 at h
 simp only at h
 split at h
 ·split at h <;> first | (cases h; done) | skip
  ·simp only [Option.some.injEq] at h; subst h
   exact ⟨fun β ρ w hS hw hG=>dn0 (hr.run β ρ w hS hw hG)⟩
  ·simp only [Option.some.injEq] at h; subst h
   exact ⟨fun β ρ w hS hw hG=>c40 (hr.run β ρ w hS hw hG)⟩
  ·simp only [Option.some.injEq] at h; subst h
   exact ⟨fun β ρ w hS hw hG=>dc4 (hr.run β ρ w hS hw hG)⟩
  ·simp only [Option.some.injEq] at h; subst h
   exact ⟨fun β ρ w hS hw hG=>di2 (hr.run β ρ w hS hw hG)⟩
  ·simp only [Option.some.injEq] at h; subst h
   exact ⟨fun β ρ w hS hw hG=>do3 (hr.run β ρ w hS hw hG)⟩
  ·simp only [Option.some.injEq] at h; subst h
   exact ⟨fun β ρ w hS hw hG=>d82 (hr.run β ρ w hS hw hG)⟩
  ·rename_i id ops d
   cases d with
   | true=>cases h
   | false=>
    simp only [cond_false,Option.some.injEq] at h
    subst h
    refine ⟨fun β ρ w hS hw hG=>?_⟩
    have h1:=cx8 (id:=id) (hr.run β ρ w hS hw hG)
    rwa [Array.toArray_toList] at h1
  ·split at h <;> first | (cases h; done) | skip
   ·rename_i e
    simp only [Option.some.injEq] at h; subst h
    exact ⟨fun β ρ w hS hw hG=>a16 ((ai2 (fun t _=>hS.fr t)) _ e).1 (hr.run β ρ w hS hw hG)⟩
   rename_i e
   simp only [Option.some.injEq] at h; subst h
   exact ⟨fun β ρ w hS hw hG=>ay3 ((ai2 (fun t _=>hS.fr t)) _ e).1 (hr.run β ρ w hS hw hG)⟩
  cases un with
  | false=>cases h
  | true=>
   simp only [cond_true,Option.some.injEq] at h
   subst h
   exact ⟨fun β ρ w hS hw hG=>b58 (df7 (hr.run β ρ w hS hw hG))⟩
 ·simp only [Option.some.injEq] at h; subst h
  exact ⟨fun β ρ w hS hw hG=>d79 (hr.run β ρ w hS hw hG)⟩
 ·split at h
  ·rename_i hg
   exact cz0 hc hg rfl h hv hr
  rename_i j want hg
  split at h
  ·cases h
  rename_i d hd
  split at h <;> first | (cases h; done) | skip
  ·rename_i x hx
   rcases a52 h with ⟨hb,rfl⟩ | ⟨hb,rfl⟩
   ·exact cw7 hg hd hx hb hr
   exact ck0 hg hd hx hb hr
  rename_i hx
  simp only [Option.some.injEq] at h; subst h
  exact cw2 hg hd hx hr
 split at h <;> first | (cases h; done) | skip
 ·simp only [Option.some.injEq] at h; subst h
  exact ⟨fun β ρ w hS hw hG=>hr.run β ρ w hS hw hG⟩
 ·simp only [Option.some.injEq] at h; subst h
  exact ⟨fun β ρ w hS hw hG=>hr.run β ρ w hS hw hG⟩
 ·simp only [Option.some.injEq] at h; subst h
  exact ⟨fun β ρ w hS hw hG=>df7 (hr.run β ρ w hS hw hG)⟩
 ·simp only [Option.some.injEq] at h; subst h
  exact ⟨fun β ρ w hS hw hG=>hr.run β ρ w hS hw hG⟩
 ·simp only [Option.some.injEq] at h; subst h
  exact ⟨fun β ρ w hS hw hG=>hr.run β ρ w hS hw hG⟩
 ·rcases a52 h with ⟨hb,rfl⟩ | ⟨hb,rfl⟩
  ·exact ⟨fun β ρ w hS hw hG=>R7 hb (hr.run β ρ w hS hw hG)⟩
  exact ⟨fun β ρ w hS hw hG=>bx9 hb (hr.run β ρ w hS hw hG)⟩
 rename_i x k
 simp only [Option.some.injEq] at h; subst h
 cases x with
 | code c=>exact ⟨fun β ρ w hS hw hG=>hr.run β ρ w hS hw hG⟩
 | blk i=>exact ⟨fun β ρ w hS hw hG=>hr.run β ρ w hS hw hG⟩
 | lp c=>exact ⟨fun β ρ w hS hw hG=>hr.run β ρ w hS hw hG⟩
theorem dr4 : ∀ {N : Nat} {o : Out},I3 (exec c.E un N o).vc → I3 o.vc:=by
 intro N
 induction N with
 | zero=>intro o h; exact h
 | succ N ih=>
  intro o h
  simp only [exec] at h
  cases hn : bl9 c.E un o with
  | none=>rw [hn] at h; exact h
  | some o'=>rw [hn] at h; exact c90 hn (ih h)
theorem cr2 [Rd] (hc : c.Ok) : ∀ {N : Nat} {o : Out},I3 (exec c.E un N o).vc → Run c (exec c.E un N o) G → Run c o G:=by
 intro N
 induction N with
 | zero=>intro o _ h; exact h
 | succ N ih=>
  intro o hv h
  simp only [exec] at h hv
  cases hn : bl9 c.E un o with
  | none=>rw [hn] at h; exact h
  | some o'=>
   rw [hn] at h hv
   exact df2 hc hn (dr4 hv) (ih hv h)
end
section
variable {c : Cx} {o : Out} {G : Gh} {un : Bool}
theorem de2 [Rd] (hc : c.Ok) (un : Bool) (N : Nat) (hv : VcOk (exec c.E un N o).vc) (h : Run c (exec c.E un N o) G) : Run c o G:=cr2 hc hv.all h
theorem vc0 {l : List Prop} (h : l = []) : VcOk l:=by subst h; exact ⟨trivial⟩
theorem vcs {l ps : List Prop} (h : l = ps) (hp : I3 ps) : VcOk l:=by subst h; exact ⟨hp⟩
theorem Sof.up {hp : List HE} (hS : Up S0 w) (hm : Mem base hp β w) : Up (Sof S0 β hp) w:=
 fun k hk=>⟨hS k hk,fun i hi=>by have:=(hm.low i k hi).2; omega⟩
theorem cf4 [Rd] (h : ∀ S w,Keeps c.K c.w0 w → G.p S w → p) (k : p → Run c o G) : Run c o G:=
 ⟨fun β ρ w hS hw hG=>(k (h _ w hw hG)).run β ρ w hS hw hG⟩
theorem av5 [Rd] {G' : Gh} (h : ∀ S w,Keeps c.K c.w0 w → G.p S w → G'.p S w) (k : Run c o G') : Run c o G:=
 ⟨fun β ρ w hS hw hG=>k.run β ρ w hS hw (h _ w hw hG)⟩
def a23 : List (Option SV) → Option (List SV)
 | []=>some []
 | x :: r=>match x,a23 r with | some s,some l=>some (s :: l) | _,_=>none
def dv8 : Nat ⊕ Value → SV
 | .inl b=>.one (.ptr b 0)
 | .inr x=>.one (.val x)
def al2 (st : St) : Cur → Option (FuncId × List SV × Nat)
 | .ops _ (o1 :: _)=>match o1.guard,o1.dst,o1.op with
  | none,some d,.call cl=>match cl.callee with
   | .value x=>match opd st.fr x with
    | some (.one (.fn f cap))=>match a23 (cl.args.toList.map (opd st.fr)) with
     | some l=>some (f,l ++ cap.map dv8,d)
     | none=>none
    | _=>none
   | _=>none
  | _,_,_=>none
 | _=>none
def H9 (f : FuncId) (o : Out) : Bool:=match al2 o.st o.cur with | some (g,_,_)=>Nat.beq g f | none=>false
def y5 (o : Out) : List SV:=match al2 o.st o.cur with | some (_,l,_)=>l | none=>[]
def G3 (o : Out) (s : SV) : Out:=match o.cur with | .ops all (o1 :: r)=>⟨.ops all r,o.k,⟨(o1.dst.getD 0,s) :: o.st.fr,o.st.hp⟩,[]⟩ | _=>o
theorem b20 (hk : ∀ d,Kn β m (J8 fr d) (ρ d)) : ∀ {xs : List Operand} {l : List SV},a23 (xs.map (opd fr)) = some l → xs.map (ev ρ) = l.map (SV.den β):=by
 intro xs
 induction xs with
 | nil=>intro l h; simp only [List.map_nil,a23,Option.some.injEq] at h; subst h; rfl
 | cons x r ih=>
  intro l h
  simp only [List.map_cons,a23] at h
  split at h <;> first | (cases h; done) | skip
  rename_i s l' e1 e2
  simp only [Option.some.injEq] at h
  subst h
  rw [List.map_cons,List.map_cons,ih e2,(ai2 (fun t _=>hk t) _ e1).1]
theorem bs0 (l : List (Nat ⊕ Value)) : (l.map dv8).map (SV.den β) = l.map (az2 β):=by
 rw [List.map_map]
 refine List.map_congr_left fun x _=>?_
 cases x <;> rfl
theorem a61 [Rd] {ch : List PanicEntry} : ∀ {k : List Kt},Q (.panic ch) ρ w → kQ P n Q k (.panic ch) ρ w:=by
 intro k
 induction k with
 | nil=>exact id
 | cons x k ih=>intro h; cases x <;> exact ih h
theorem bo7 [ci : CallI c.P f] (hf : H9 f o = true) (hS : Sat c.bs o.st β ρ w) :
  ∃ all o1 r d,o.cur = .ops all (o1 :: r) ∧ o1.guard = none ∧ o1.dst = some d ∧ (∀ s,G3 o s = ⟨.ops all r,o.k,⟨(d,s) :: o.st.fr,o.st.hp⟩,[]⟩) ∧
   (execOp (ev ρ) o1).run c.P w = .ok (.enter f ((y5 o).map (SV.den β)).toArray) w:=by
 unfold H9 at hf
 cases hco : al2 o.st o.cur with
 | none=>rw [hco] at hf; cases hf
 | some x=>
  obtain ⟨g,l,d⟩:=x
  rw [hco] at hf
  obtain rfl : g = f:=Nat.eq_of_beq_eq_true hf
  have hargs : y5 o = l:=by unfold y5; rw [hco]
  unfold al2 at hco
  split at hco <;> first | (cases hco; done) | skip
  rename_i all o1 r hcur
  split at hco <;> first | (cases hco; done) | skip
  rename_i d' cl hg hd hop
  split at hco <;> first | (cases hco; done) | skip
  rename_i x hcl
  split at hco <;> first | (cases hco; done) | skip
  rename_i f' cap hx
  split at hco <;> first | (cases hco; done) | skip
  rename_i l' hl
  simp only [Option.some.injEq,Prod.mk.injEq] at hco
  obtain ⟨rfl,rfl,rfl⟩:=hco
  refine ⟨all,o1,r,d',hcur,hg,hd,fun s=>by unfold G3; rw [hcur]; simp only [hd,Option.getD_some],?_⟩
  have h1:=(ai2 (ρ:=ρ) (fun t _=>hS.fr t) _ hx).1
  have h2:=b20 hS.fr hl
  rw [hargs,List.map_append,bs0,← h2]
  obtain ⟨dst,op,ty,pos,aft,g⟩:=o1
  simp only at hop hg hd
  subst hop
  obtain ⟨callee,args,ts⟩:=cl
  simp only at hcl
  subst hcl
  simp [execOp,resolve,Deferred.ofValue,h1,SV.den,Ch.den,invoke,ci.run]
theorem bg2 [Rd] (f : FuncId) [ci : CallI c.P f] (hc : c.Ok) (pat : α → SV) (pre : α → Prop) (Δ : α → Gh) (hf : H9 f o = true)
  (h : ∀ β S w,Up S w → Mem c.bs o.st.hp β w → (∀ k,S k → c.S0 k) → Keeps c.K c.w0 w → G.p S w → ∃ args,(y5 o).map (SV.den β) = args ∧ Gives c.P f args w fun v w'=>Ext w w' ∧ ∃ a,v = (pat a).den β ∧ (pat a).Ok o.st.hp.length ∧ pre a ∧ (Δ a).p S w')
  (hn : ∀ a,pre a → Run c (G3 o (pat a)) ((Δ a).and G)) : Run c o G:=by
 refine ⟨fun β ρ w hS hw hG=>?_⟩
 obtain ⟨all,o1,r,d,hcur,hg,hd,hnx,hr⟩:=bo7 hf hS
 obtain ⟨args,ha,hgv⟩:=h β _ w (Sof.up (hc.up.to hw) hS.mem) hS.mem (fun k g=>g.1) hw hG
 rw [hcur]
 show WqR c.P c.n all (kQ c.P c.n c.Q o.k) (o1 :: r) ρ w
 refine aw8 hg ?_
 unfold Stp
 rw [hr,ha]
 refine hgv.mono ?_
 rintro v w' ⟨hk,a,rfl,hok,hp,hΔ⟩
 have h1:=hn a hp
 rw [hnx] at h1
 have h2:=h1.run β _ w' ((hS.to hk).put rfl hok) (hw.trans (.of hk)) ⟨hΔ,G.keep hG (.of hk)⟩
 rw [hd]
 exact h2
theorem df5 [Rd] (f : FuncId) [ci : CallI c.P f] (hc : c.Ok) (pat : α → SV) (pre : α → Prop) (Δ : α → Gh) (hf : H9 f o = true)
  (h : ∀ β S w,Up S w → (∀ k,S k → c.S0 k) → Keeps c.K c.w0 w → G.p S w → ∃ args,(y5 o).map (SV.den β) = args ∧ Gives c.P f args w fun v w'=>Ext w w' ∧ ∃ a,v = (pat a).den β ∧ (pat a).Ok 0 ∧ pre a ∧ (Δ a).p S w')
  (hn : ∀ a,pre a → Run c (G3 o (pat a)) ((Δ a).and G)) : Run c o G:=
 bg2 f hc pat pre Δ hf (fun g S w h1 _ h2 h3 h4=>let ⟨args,ha,hg⟩:=h g S w h1 h2 h3 h4; ⟨args,ha,hg.mono fun v w' ⟨k,a,e1,e2,e3,e4⟩=>⟨k,a,e1,e2.le (Nat.zero_le _),e3,e4⟩⟩) hn
theorem ca0 [Rd] (f : FuncId) [ci : CallI c.P f] (hc : c.Ok) (pat : α → SV) (pre : α → Prop) (Δ : α → Gh) (hf : H9 f o = true)
  (h : ∀ β S w,Up S w → Mem c.bs o.st.hp β w → (∀ k,S k → c.S0 k) → Keeps c.K c.w0 w → G.p S w → ∃ args,(y5 o).map (SV.den β) = args ∧ GivesE c.P f args w (fun v w'=>Ext w w' ∧ ∃ a,v = (pat a).den β ∧ (pat a).Ok 0 ∧ pre a ∧ (Δ a).p S w') fun ch w'=>∀ ρ,c.Q (.panic ch) ρ w')
  (hn : ∀ a,pre a → Run c (G3 o (pat a)) ((Δ a).and G)) : Run c o G:=by
 refine ⟨fun β ρ w hS hw hG=>?_⟩
 obtain ⟨all,o1,r,d,hcur,hg,hd,hnx,hr⟩:=bo7 hf hS
 obtain ⟨args,ha,hgv⟩:=h β _ w (Sof.up (hc.up.to hw) hS.mem) hS.mem (fun k g=>g.1) hw hG
 rw [hcur]
 show WqR c.P c.n all (kQ c.P c.n c.Q o.k) (o1 :: r) ρ w
 rw [ha] at hr
 refine cz3 hg hd hr hgv ?_ fun ch w' hp=>a61 (hp ρ)
 rintro v w' ⟨hk,a,rfl,hok,hp,hΔ⟩
 have h1:=hn a hp
 rw [hnx] at h1
 exact h1.run β _ w' ((hS.to hk).put rfl (hok.le (Nat.zero_le _))) (hw.trans (.of hk)) ⟨hΔ,G.keep hG (.of hk)⟩
theorem dn3 [Rd] (f : FuncId) [ci : CallI c.P f] (hc : c.Ok) (pat : α → SV) (pre : α → Prop) (Δ : α → Gh) (hf : H9 f o = true)
  (h : ∀ β S w,Up S w → (∀ k,S k → c.S0 k) → Keeps c.K c.w0 w → G.p S w → ∃ args,(y5 o).map (SV.den β) = args ∧ GivesE c.P f args w (fun v w'=>Ext w w' ∧ ∃ a,v = (pat a).den β ∧ (pat a).Ok 0 ∧ pre a ∧ (Δ a).p S w') fun ch w'=>∀ ρ,c.Q (.panic ch) ρ w')
  (hn : ∀ a,pre a → Run c (G3 o (pat a)) ((Δ a).and G)) : Run c o G:=
 ca0 f hc pat pre Δ hf (fun g S w h1 _ h2 h3 h4=>h g S w h1 h2 h3 h4) hn
def bm4 (st : St) : Cur → Option (Prop × Code × Code)
 | .code (.cond x a b)=>match opd st.fr x with | some (.one (.tp p))=>some (p,a,b) | _=>none
 | _=>none
def am1 (o : Out) : Bool:=(bm4 o.st o.cur).isSome
def ar8 (o : Out) : Prop:=match bm4 o.st o.cur with | some (p,_,_)=>p | none=>False
def J6 (o : Out) (b : Bool) : Out:=match bm4 o.st o.cur with | some (_,x,y)=>⟨.code (bif b then x else y),o.k,o.st,[]⟩ | none=>o
theorem dz2 [Rd] (hc : am1 o = true) (hp : ar8 o = p) (ht : p → Run c (J6 o true) G) (hf : ¬ p → Run c (J6 o false) G) : Run c o G:=by
 refine ⟨fun β ρ w hS hw hG=>?_⟩
 unfold am1 at hc
 cases hco : bm4 o.st o.cur with
 | none=>rw [hco] at hc; cases hc
 | some x=>
  obtain ⟨q,a,b⟩:=x
  have e1 : ar8 o = q:=by unfold ar8; rw [hco]
  have e2 : J6 o true = ⟨.code a,o.k,o.st,[]⟩:=by unfold J6; rw [hco]; rfl
  have e3 : J6 o false = ⟨.code b,o.k,o.st,[]⟩:=by unfold J6; rw [hco]; rfl
  rw [e1] at hp
  subst hp
  rw [e2] at ht
  rw [e3] at hf
  unfold bm4 at hco
  split at hco <;> first | (cases hco; done) | skip
  rename_i x a' b' hcur
  split at hco <;> first | (cases hco; done) | skip
  rename_i p' hx
  simp only [Option.some.injEq,Prod.mk.injEq] at hco
  obtain ⟨rfl,rfl,rfl⟩:=hco
  rw [hcur]
  exact b41 ((ai2 (fun t _=>hS.fr t) _ hx).1) (fun h=>(ht h).run β ρ w hS hw hG) (fun h=>(hf h).run β ρ w hS hw hG)
theorem fa0 [Rd] (hc : am1 o = true) (hp : ar8 o = p) (h : p) (ht : Run c (J6 o true) G) : Run c o G:=dz2 hc hp (fun _=>ht) fun n=>absurd h n
theorem fd9 [Rd] (hc : am1 o = true) (hp : ar8 o = p) (h : ¬ p) (ht : Run c (J6 o false) G) : Run c o G:=dz2 hc hp (fun n=>absurd n h) fun _=>ht
def ac1 (st : St) (d : Nat) : Option Prop:=match J8 st.fr d with | some (.one (.tp p))=>some p | _=>none
def W9 (o : Out) (d : Nat) (s : SV) : Out:=⟨o.cur,o.k,⟨(d,s) :: o.st.fr,o.st.hp⟩,[]⟩
theorem cg3 [Rd] (d : Nat) (hp : ac1 o.st d = some p) (ht : p → Run c (W9 o d (.one (.bb true))) G) (hf : ¬ p → Run c (W9 o d (.one (.bb false))) G) : Run c o G:=by
 refine ⟨fun β ρ w hS hw hG=>?_⟩
 unfold ac1 at hp
 split at hp <;> first | (cases hp; done) | skip
 rename_i q hq
 simp only [Option.some.injEq] at hp
 subst hp
 have h1:=((hS.fr d) _ hq).1
 by_cases h : q
 ·have h2 : ρ d = .bool true:=by rw [h1]; exact congrArg Value.bool (j6 h)
  have h3:=(ht h).run β (upd ρ d (.bool true)) w (hS.put rfl trivial) hw hG
  rwa [a62 h2] at h3
 have h2 : ρ d = .bool false:=by rw [h1]; exact congrArg Value.bool (j2 h)
 have h3:=(hf h).run β (upd ρ d (.bool false)) w (hS.put rfl trivial) hw hG
 rwa [a62 h2] at h3
theorem cd9 [Rd] (d : Nat) (hp : ac1 o.st d = some p) (h : p) (ht : Run c (W9 o d (.one (.bb true))) G) : Run c o G:=cg3 d hp (fun _=>ht) fun n=>absurd h n
theorem cu5 [Rd] (d : Nat) (hp : ac1 o.st d = some p) (h : ¬ p) (ht : Run c (W9 o d (.one (.bb false))) G) : Run c o G:=cg3 d hp (fun n=>absurd n h) fun _=>ht
noncomputable def at8 (E : Env) (st : St) : List ResultVar → Option (List SV)
 | []=>some []
 | .tmp t :: r=>match J8 st.fr t,at8 E st r with | some s,some l=>some (s :: l) | _,_=>none
 | .cell a T :: r=>match a45 E st.hp T (J8 st.fr a),at8 E st r with | some (.put s _),some l=>some (s :: l) | _,_=>none
theorem a13 (hE : EnvOk c.P c.E) (hS : Sat base st β ρ w) : ∀ {rs : List ResultVar} {l : List SV},at8 c.E st rs = some l → S8 c.P ρ w rs (l.map (SV.den β)):=by
 intro rs
 induction rs with
 | nil=>intro l h; simp only [at8,Option.some.injEq] at h; subst h; rfl
 | cons r rs ih=>
  intro l h
  cases r with
  | tmp t=>
   simp only [at8] at h
   split at h <;> first | (cases h; done) | skip
   rename_i s l' e1 e2
   simp only [Option.some.injEq] at h
   subst h
   exact ⟨_,_,((hS.fr t) _ e1).1.symm,ih e2,rfl⟩
  | cell a T=>
   simp only [at8] at h
   split at h <;> first | (cases h; done) | skip
   rename_i s vc l' e1 e2
   simp only [Option.some.injEq] at h
   subst h
   refine ⟨_,_,?_,ih e2,rfl⟩
   obtain ⟨h1,h2⟩:=az3 (P:=c.P) (ty:=0) (x:=.tmp a) hE hS.mem (ai2 (fun t _=>hS.fr t)) e1
   have h3 := h1 none "" #[] none
   unfold a45 at e1
   split at e1 <;> first | (cases e1; done) | skip
   rename_i b o ha
   have h4 : ρ a = .pointer (some ⟨β b,o,none⟩):=((hS.fr a) _ ha).1
   refine ⟨_,h4,?_⟩
   have h5 : ev ρ (.tmp a) = .pointer (some ⟨β b,o,none⟩):=h4
   simp only [execOp,h5,Instr.loadAt,Instr.sureAddr,Sem.run_bind,Sem.run_pure,Result.andThen] at h3
   cases hl : (loadVar T ⟨β b,o,none⟩).run c.P w with
   | ok v w2=>rw [hl] at h3; simp only [Result.ok.injEq,Next.value.injEq] at h3; rw [h3.1,h3.2]
   | halt x w2=>rw [hl] at h3; cases h3
def ai1 (o : Out) : Bool:=match o.cur,o.k with
 | .ex .ret,[]=>true
 | .ex .normal,[]=>true
 | _,_=>false
noncomputable def ah8 (E : Env) (rs : List ResultVar) (st : St) (β : Nat → Nat) : Option Value:=(at8 E st rs).map fun l=>be5 (l.map (SV.den β))
theorem dx5 [Rd] {fn : Func} (v : Value) (hc : c.Ok) (hQ : c.Q = az0 c.P fn Ψ) (hrs : fn.results.toList = rs) (he : ai1 o = true) (hv : ∀ β,ah8 c.E rs o.st β = some v)
  (h : ∀ S w,(∀ k,S k → c.S0 k) → Keeps c.K c.w0 w → G.p S w → Ψ v w) : Run c o G:=by
 refine ⟨fun β ρ w hS hw hG=>?_⟩
 have h1:=hv β
 unfold ah8 at h1
 cases hl : at8 c.E o.st rs with
 | none=>rw [hl] at h1; cases h1
 | some l=>
  rw [hl] at h1
  simp only [Option.map_some,Option.some.injEq] at h1
  have h2:=a13 hc.env hS hl
  have h3:=h _ w (fun k g=>g.1) hw hG
  have hend : ∀ e,e = Exit.ret ∨ e = Exit.normal → az0 c.P fn Ψ e ρ w:=by
   rintro e (rfl | rfl) <;> exact ⟨_,hrs ▸ h2,h1 ▸ h3⟩
  unfold ai1 at he
  split at he <;> first | (cases he; done) | skip
  ·rename_i e1 e2
   rw [e1,e2]
   show c.Q .ret ρ w
   rw [hQ]
   exact hend _ (.inl rfl)
  rename_i e1 e2
  rw [e1,e2]
  show c.Q .normal ρ w
  rw [hQ]
  exact hend _ (.inr rfl)
theorem dk0 [Rd] {fn : Func} (v : Value) (hc : c.Ok) (hQ : c.Q = ct7 c.P fn Ψ Φ) (hrs : fn.results.toList = rs) (he : ai1 o = true) (hv : ∀ β,ah8 c.E rs o.st β = some v)
  (h : ∀ S w,(∀ k,S k → c.S0 k) → Keeps c.K c.w0 w → G.p S w → Ψ v w) : Run c o G:=by
 refine ⟨fun β ρ w hS hw hG=>?_⟩
 have h1:=hv β
 unfold ah8 at h1
 cases hl : at8 c.E o.st rs with
 | none=>rw [hl] at h1; cases h1
 | some l=>
  rw [hl] at h1
  simp only [Option.map_some,Option.some.injEq] at h1
  have h2:=a13 hc.env hS hl
  have h3:=h _ w (fun k g=>g.1) hw hG
  unfold ai1 at he
  split at he <;> first | (cases he; done) | skip
  ·rename_i e1 e2
   rw [e1,e2]
   show c.Q .ret ρ w
   rw [hQ]
   exact ⟨_,hrs ▸ h2,h1 ▸ h3⟩
  rename_i e1 e2
  rw [e1,e2]
  show c.Q .normal ρ w
  rw [hQ]
  exact ⟨_,hrs ▸ h2,h1 ▸ h3⟩
end
abbrev Cx.fn (P : Program) (fn : Func) (E : Env) (w0 : World) (S0 : Nat → Prop) (Ψ : Value → World → Prop) : Cx:=⟨P,fn.ntmps,E,w0,S0,All,az0 P fn Ψ,0,fun _=>0⟩
abbrev Cx.fnE (P : Program) (fn : Func) (E : Env) (w0 : World) (S0 : Nat → Prop) (Ψ : Value → World → Prop) (Φ : List PanicEntry → World → Prop) : Cx:=⟨P,fn.ntmps,E,w0,S0,All,ct7 P fn Ψ Φ,0,fun _=>0⟩
theorem fc7 [Rd] {fn : Func} {o : Out} (v : Value) (hc : (Cx.fn P fn E w0 S0 Ψ).Ok) (hrs : fn.results.toList = rs) (he : ai1 o = true) (hv : ∀ β,ah8 E rs o.st β = some v)
  (h : ∀ S w,(∀ k,S k → S0 k) → Ext w0 w → G.p S w → Ψ v w) : Run (Cx.fn P fn E w0 S0 Ψ) o G:=dx5 v hc rfl hrs he hv h
theorem d00 [Rd] {fn : Func} {o : Out} (v : Value) (hc : (Cx.fnE P fn E w0 S0 Ψ Φ).Ok) (hrs : fn.results.toList = rs) (he : ai1 o = true) (hv : ∀ β,ah8 E rs o.st β = some v)
  (h : ∀ S w,(∀ k,S k → S0 k) → Ext w0 w → G.p S w → Ψ v w) : Run (Cx.fnE P fn E w0 S0 Ψ Φ) o G:=dk0 v hc rfl hrs he hv h
def bo3 : Nat → List SV → List (Nat × SV)
 | _,[]=>[]
 | i,s :: r=>(i,s) :: bo3 (i + 1) r
theorem bt0 : ∀ {l : List SV} {i d : Nat},(∀ s ∈ l,s.Ok m) → Kn β m (J8 (bo3 i l) d) (if i ≤ d then (l.map (SV.den β)).getD (d - i) undef else undef):=by
 intro l
 induction l with
 | nil=>intro i d _ s hs; cases hs
 | cons x r ih=>
  intro i d hok s hs
  simp only [bo3] at hs
  rw [H6] at hs
  split at hs
  ·rename_i e
   subst e
   simp only [Option.some.injEq] at hs
   subst hs
   refine ⟨by simp,hok _ (List.mem_cons_self ..)⟩
  rename_i e
  have h1:=ih (i:=i + 1) (d:=d) (fun s g=>hok s (List.mem_cons_of_mem _ g)) s hs
  refine ⟨?_,h1.2⟩
  rw [← h1.1]
  by_cases hd : i + 1 ≤ d
  ·rw [if_pos hd,if_pos (by omega),List.map_cons,show d - i = (d - (i + 1)) + 1 by omega]
   rfl
  rw [if_neg hd,if_neg (by omega)]
def SVsOk : List SV → Prop
 | []=>True
 | s :: r=>s.Ok 0 ∧ SVsOk r
theorem SVsOk.all : ∀ {l : List SV},SVsOk l → ∀ s ∈ l,s.Ok 0:=by
 intro l
 induction l with
 | nil=>intro _ s hs; cases hs
 | cons x r ih=>
  intro h s hs
  rcases List.mem_cons.1 hs with rfl | hs
  ·exact h.1
  exact ih h.2 s hs
theorem a99 {l : List SV} (hok : SVsOk l) (hb : base.m = 0) : Sat base ⟨bo3 0 l,[]⟩ (fun _=>0) (fun i=>(l.map (SV.den fun _=>0)).getD i undef) w:=by
 refine ⟨fun d s hs=>?_,⟨fun i T l hi=>by simp at hi,fun i T s v n cs hi=>by simp at hi,fun i A hi=>by simp at hi,fun i k hk=>by simp [m7] at hk,fun i j k hk=>by simp [m7] at hk⟩,by rw [hb]; exact Nat.zero_le _,fun i hi=>by omega⟩
 have h:=bt0 (β:=fun _=>0) (m:=0) (i:=0) (d:=d) hok.all s hs
 simpa using h
theorem n4 {fn : Func} {l : List SV} (hf : P.funcs[f]? = some fn) (hb : fn.body = some code) (hok : bd9 fn code = true)
  (hn : Nat.ble args.length fn.ntmps = true) (hl : SVsOk l) (ha : l.map (SV.den fun _=>0) = args) (hG : G.p S0 w)
  (h : Run (Cx.fn P fn E w S0 Ψ) ⟨.code code,[],⟨bo3 0 l,[]⟩,[]⟩ G) : Gives P f args w Ψ:=by
 refine bu4 hf hb hok hn ?_
 subst ha
 exact h.run _ _ w (a99 hl rfl) .refl (G.mono hG fun k _ hk=>⟨hk,fun i hi=>by simp [m7] at hi⟩)
theorem U9 {fn : Func} {l : List SV} (hf : P.funcs[f]? = some fn) (hb : fn.body = some code) (hok : bd9 fn code = true)
  (hn : Nat.ble args.length fn.ntmps = true) (hl : SVsOk l) (ha : l.map (SV.den fun _=>0) = args) (hG : G.p S0 w)
  (h : Run (Cx.fnE P fn E w S0 Ψ Φ) ⟨.code code,[],⟨bo3 0 l,[]⟩,[]⟩ G) : GivesE P f args w Ψ Φ:=by
 refine ci8 hf hb hok hn ?_
 subst ha
 exact h.run _ _ w (a99 hl rfl) .refl (G.mono hG fun k _ hk=>⟨hk,fun i hi=>by simp [m7] at hi⟩)
inductive HV where
 | blk (T : TypeId) (cs : List Value)
 | row (T : TypeId) (s : Nat) (v : Value) (n : Nat) (cs : List Value)
 | gone
 | abs (A : AbsE)
 | hid (T : TypeId) (cs : List Value)
noncomputable def HE.den (β : Nat → Nat) : HE → HV
 | .blk T l=>.blk T (d6 β l)
 | .row T s v n cs=>.row T s v n cs
 | .gone=>.gone
 | .abs A=>.abs A
 | .hid T l=>.hid T (d6 β l)
noncomputable def aa1 (β : Nat → Nat) : List HE → List HE → List HV
 | _,[]=>[]
 | [],_ :: r=>.gone :: aa1 β [] r
 | _ :: q,.gone :: r=>.gone :: aa1 β q r
 | h :: q,.blk _ _ :: r=>h.den β :: aa1 β q r
 | h :: q,.row _ _ _ _ _ :: r=>h.den β :: aa1 β q r
 | h :: q,.abs _ :: r=>h.den β :: aa1 β q r
 | h :: q,.hid _ _ :: r=>h.den β :: aa1 β q r
noncomputable def frV (β : Nat → Nat) (fr : List (Nat × SV)) : List (Nat × SV) → List (Option Value)
 | []=>[]
 | (d,_) :: r=>(J8 fr d).map (SV.den β) :: frV β fr r
noncomputable def bp6 (β : Nat → Nat) : List (Nat × SV) → List (Option Value)
 | []=>[]
 | (_,s) :: r=>some (s.den β) :: bp6 β r
def bv5 (st st' : St) : Prop:=∀ β,frV β st.fr st'.fr = bp6 β st'.fr ∧ aa1 β st.hp st'.hp = st'.hp.map (HE.den β) ∧ st'.hp.length ≤ st.hp.length
theorem cc3 (h1 : ∀ β,frV β st.fr st'.fr = bp6 β st'.fr) (h2 : ∀ β,aa1 β st.hp st'.hp = st'.hp.map (HE.den β)) (h3 : Nat.ble st'.hp.length st.hp.length = true) : bv5 st st':=fun β=>⟨h1 β,h2 β,Nat.le_of_ble_eq_true h3⟩
def HE.Ok (m : Nat) : HE → Prop
 | .blk _ l=>∀ c ∈ l,c.Ok m
 | _=>True
def ak9 (st : St) : Prop:=(∀ d s,J8 st.fr d = some s → s.Ok st.hp.length) ∧ ∀ h ∈ st.hp,h.Ok st.hp.length
theorem c30 : ∀ {fr' : List (Nat × SV)},frV β fr fr' = bp6 β fr' → ∀ d s',J8 fr' d = some s' → ∃ s,J8 fr d = some s ∧ s.den β = s'.den β:=by
 intro fr'
 induction fr' with
 | nil=>intro _ d s' h; cases h
 | cons p r ih=>
  obtain ⟨i,x⟩:=p
  intro h d s' hs
  simp only [frV,bp6,List.cons.injEq] at h
  rw [H6] at hs
  split at hs
  ·rename_i e
   subst e
   simp only [Option.some.injEq] at hs
   subst hs
   cases hl : J8 fr i with
   | none=>rw [hl] at h; cases h.1
   | some s=>rw [hl] at h; exact ⟨s,rfl,by simpa using h.1⟩
  exact ih h.2 d s' hs
theorem c39 : ∀ {d : Nat} {s : SV},J8 fr d = some s → (d,s) ∈ fr:=by
 induction fr with
 | nil=>intro d s h; cases h
 | cons p r ih=>
  obtain ⟨i,x⟩:=p
  intro d s h
  rw [H6] at h
  split at h
  ·rename_i e
   subst e
   simp only [Option.some.injEq] at h
   subst h
   exact List.mem_cons_self ..
  exact List.mem_cons_of_mem _ (ih h)
theorem aw4 : ∀ {hp hp' : List HE},aa1 β hp hp' = hp'.map (HE.den β) → hp'.length ≤ hp.length → ∀ (i : Nat) (h' : HE),hp'[i]? = some h' → h' = .gone ∨ ∃ h,hp[i]? = some h ∧ h.den β = h'.den β:=by
 intro hp hp'
 induction hp' generalizing hp with
 | nil=>intro _ _ i h' hi; simp at hi
 | cons x r ih=>
  intro h hl i h' hi
  cases hp with
  | nil=>simp at hl
  | cons y q=>
   have hl' : r.length ≤ q.length:=by simpa using hl
   cases i with
   | zero=>
    simp only [List.getElem?_cons_zero,Option.some.injEq] at hi
    subst hi
    cases x with
    | gone=>exact .inl rfl
    | blk T l=>simp only [aa1,List.map_cons,List.cons.injEq] at h; exact .inr ⟨y,rfl,h.1⟩
    | row T s v n cs=>simp only [aa1,List.map_cons,List.cons.injEq] at h; exact .inr ⟨y,rfl,h.1⟩
    | abs A=>simp only [aa1,List.map_cons,List.cons.injEq] at h; exact .inr ⟨y,rfl,h.1⟩
    | hid T l=>simp only [aa1,List.map_cons,List.cons.injEq] at h; exact .inr ⟨y,rfl,h.1⟩
   | succ i=>
    simp only [List.getElem?_cons_succ] at hi ⊢
    cases x <;> simp only [aa1,List.map_cons,List.cons.injEq] at h <;> exact ih h.2 hl' i h' hi
theorem c29 {h h' : HE} (e : h.den β = h'.den β) : h.mine b = h'.mine b:=by
 cases h <;> cases h' <;> simp only [HE.den,HV.row.injEq,HV.abs.injEq,reduceCtorEq] at e <;> first | rfl | (subst e; rfl) | (obtain ⟨rfl,rfl,rfl,rfl,rfl⟩:=e; rfl)
theorem Sat.sub (h : Sat base st β ρ w) (hs : bv5 st st') (hok : ak9 st') : Sat ⟨base.n,base.K,0,base.b⟩ st' β ρ w ∧ ∀ S0 k,Sof S0 β st.hp k → Sof S0 β st'.hp k:=by
 obtain ⟨h1,h2,h3⟩:=hs β
 have hm : ∀ i k,m7 β st'.hp i k → m7 β st.hp i k:=by
  rintro i k ⟨h',hi,hk⟩
  rcases aw4 h2 h3 i h' hi with rfl | ⟨x,hx,hd⟩
  ·cases hk
  exact ⟨x,hx,by rw [c29 hd]; exact hk⟩
 refine ⟨⟨fun d s' hs'=>?_,⟨?_,?_,?_,?_,?_⟩,Nat.zero_le _,fun i hi=>absurd hi (Nat.not_lt_zero i)⟩,fun S0 k hk=>⟨hk.1,fun i hi=>hk.2 i (hm i k hi)⟩⟩
 ·obtain ⟨s,hl,hd⟩:=c30 h1 d s' hs'
  exact ⟨((h.fr d) s hl).1.trans hd,hok.1 _ _ hs'⟩
 ·intro i T l hi
  rcases aw4 h2 h3 i _ hi with e | ⟨x,hx,hd⟩
  ·cases e
  cases x with
  | blk T' l'=>
   simp only [HE.den,HV.blk.injEq] at hd
   obtain ⟨rfl,hd⟩:=hd
   rw [← hd]
   exact ⟨(h.mem.blk i T' l' hx).1,hok.2 _ (List.mem_of_getElem? hi)⟩
  | row T s v n cs=>cases hd
  | gone=>cases hd
  | abs A=>cases hd
  | hid T2 l2=>cases hd
 ·intro i T s v n cs hi
  rcases aw4 h2 h3 i _ hi with e | ⟨x,hx,hd⟩
  ·cases e
  cases x with
  | blk T' l'=>cases hd
  | row T' s' v' n' cs'=>
   simp only [HE.den,HV.row.injEq] at hd
   obtain ⟨rfl,rfl,rfl,rfl,rfl⟩:=hd
   exact h.mem.row i _ _ _ _ _ hx
  | gone=>cases hd
  | abs A=>cases hd
  | hid T2 l2=>cases hd
 ·intro i A hi
  rcases aw4 h2 h3 i _ hi with e | ⟨x,hx,hd⟩
  ·cases e
  cases x with
  | blk T' l'=>cases hd
  | row T' s' v' n' cs'=>cases hd
  | gone=>cases hd
  | abs A'=>
   simp only [HE.den,HV.abs.injEq] at hd
   subst hd
   exact h.mem.abs i _ hx
  | hid T2 l2=>cases hd
 ·exact fun i k hk=>h.mem.low i k (hm i k hk)
 exact fun i j k hi hj=>h.mem.apart i j k (hm i k hi) (hm j k hj)
section
variable {c : Cx} {o : Out} {G : Gh} {ι : Type}
def RelI (c : Cx) (st' : ι → St) (GI : ι → Gh) (i : ι) (ρ : Fr) (w : World) : Prop:=∃ β,(Sat ⟨c.w0.heap.size,c.K,0,c.b⟩ (st' i) β ρ w ∧ ∀ j,j < c.m → β j = c.b j) ∧ Keeps c.K c.w0 w ∧ (GI i).p (Sof c.S0 β (st' i).hp) w
theorem RelI.sat {st' : ι → St} {GI : ι → Gh} {i : ι} (h : RelI c st' GI i ρ w) (hl : c.m ≤ (st' i).hp.length) : ∃ β,Sat c.bs (st' i) β ρ w ∧ Keeps c.K c.w0 w ∧ (GI i).p (Sof c.S0 β (st' i).hp) w:=
 let ⟨β,⟨h1,h2⟩,h3,h4⟩:=h; ⟨β,⟨h1.fr,⟨h1.mem.blk,h1.mem.row,h1.mem.abs,h1.mem.low,h1.mem.apart⟩,hl,h2⟩,h3,h4⟩
def aq7 (c : Cx) (st' : ι → St) (GI : ι → Gh) (pre : ι → Prop) : Fr → World → Prop:=fun ρ w=>∃ i,pre i ∧ RelI c st' GI i ρ w
def ax8 (c : Cx) (st' : ι → St) (GI : ι → Gh) (pre : ι → Prop) (m : ι → Nat) (i : ι) : Fr → World → Prop:=fun ρ w=>∃ i',pre i' ∧ m i' < m i ∧ RelI c st' GI i' ρ w
abbrev Cx.sub [Rd] (c : Cx) (R : Fr → World → Prop) (k : List Kt) : Cx:=⟨c.P,c.n,c.E,c.w0,c.S0,c.K,L6 R (kQ c.P c.n c.Q k),c.m,c.b⟩
theorem Cx.Ok.sub [Rd] (h : c.Ok) : (c.sub R k).Ok:=⟨h.env,h.up,h.lent⟩
theorem bn1 {st' : ι → St} {GI : ι → Gh} (i : ι) (hS : Sat c.bs o.st β ρ w) (hw : Keeps c.K c.w0 w) (hG : G.p (Sof c.S0 β o.st.hp) w) (hsub : bv5 o.st (st' i)) (hok : ∀ S w,Keeps c.K c.w0 w → G.p S w → ak9 (st' i)) (hg : ∀ S w,Keeps c.K c.w0 w → G.p S w → (GI i).p S w) :
  RelI c st' GI i ρ w:=by
 obtain ⟨h1,h2⟩:=hS.sub hsub (hok _ _ hw hG)
 exact ⟨β,⟨h1,hS.agr.2⟩,hw,(GI i).mono (hg _ _ hw hG) fun k _ hk=>h2 c.S0 k hk⟩
def at0 (o : Out) : Bool:=match o.cur,o.k with | .ex .normal,[]=>true | _,_=>false
theorem a71 (h : at0 o = true) : o.cur = .ex .normal ∧ o.k = []:=by
 unfold at0 at h
 split at h
 ·rename_i h1 h2; exact ⟨h1,h2⟩
 cases h
theorem d17 [Rd] {st' : ι → St} {GI : ι → Gh} {pre : ι → Prop} (i : ι) (he : at0 o = true) (hp : pre i) (hsub : bv5 o.st (st' i)) (hok : ∀ S w,Keeps c.K c.w0 w → G.p S w → ak9 (st' i)) (hg : ∀ S w,Keeps c.K c.w0 w → G.p S w → (GI i).p S w) :
  Run (c.sub (aq7 c st' GI pre) k) o G:=by
 refine ⟨fun β ρ w hS hw hG=>?_⟩
 obtain ⟨h1,h2⟩:=a71 he
 rw [h1,h2]
 exact ⟨i,hp,bn1 i hS hw hG hsub hok hg⟩
theorem ds9 [Rd] {st' : ι → St} {GI : ι → Gh} {pre : ι → Prop} {m : ι → Nat} {j : ι} (i : ι) (he : at0 o = true) (hp : pre i) (hlt : m i < m j) (hsub : bv5 o.st (st' i)) (hok : ∀ S w,Keeps c.K c.w0 w → G.p S w → ak9 (st' i)) (hg : ∀ S w,Keeps c.K c.w0 w → G.p S w → (GI i).p S w) :
  Run (c.sub (ax8 c st' GI pre m j) k) o G:=by
 refine ⟨fun β ρ w hS hw hG=>?_⟩
 obtain ⟨h1,h2⟩:=a71 he
 rw [h1,h2]
 exact ⟨i,hp,hlt,bn1 i hS hw hG hsub hok hg⟩
def cp4 (o : Out) : Bool:=match o.cur,o.k with | .ex .normal,_=>false | .ex _,[]=>true | _,_=>false
theorem fa5 [Rd] (he : cp4 o = true) (h : Run c ⟨o.cur,k,o.st,[]⟩ G) : Run (c.sub R k) o G:=by
 refine ⟨fun β ρ w hS hw hG=>?_⟩
 have h1:=h.run β ρ w hS hw hG
 unfold cp4 at he
 cases hc : o.cur with
 | code x=>rw [hc] at he; cases he
 | ops all r=>rw [hc] at he; cases he
 | ex e=>
  cases hk : o.k with
  | cons x r=>rw [hc,hk] at he; cases e <;> cases he
  | nil=>
   rw [hc,hk] at he
   rw [hc] at h1
   cases e with
   | normal=>cases he
   | _=>exact h1
theorem a97 [Rd] {Q' : G8} (hq : ∀ e ρ w,Q e ρ w → Q' e ρ w) : ∀ {cur : Cur},d08 P n Q cur ρ w → d08 P n Q' cur ρ w:=by
 intro cur h
 cases cur with
 | code x=>exact bg1 h hq
 | ops all rest=>
  show WqR P n all Q' rest ρ w
  exact dc3 h hq
 | ex e=>exact hq _ _ _ h
theorem fb7 [Rd] (st' : ι → St) (GI : ι → Gh) (pre : ι → Prop) (hl : ∀ i,o.st.hp.length ≤ (st' i).hp.length) (h1 : Run (c.sub (aq7 c st' GI pre) o.k) ⟨o.cur,[],o.st,[]⟩ G) (h2 : ∀ i,pre i → Run c ⟨.ex .normal,o.k,st' i,[]⟩ (GI i)) : Run c o G:=by
 refine ⟨fun β ρ w hS hw hG=>?_⟩
 refine a97 ?_ (h1.run β ρ w hS hw hG)
 intro e ρ' w' hq
 cases e with
 | normal=>
  obtain ⟨i,hp,hr⟩:=hq
  obtain ⟨β',hS',hw',hG'⟩:=hr.sat (Nat.le_trans hS.agr.1 (hl i))
  exact (h2 i hp).run β' ρ' w' hS' hw' hG'
 | _=>exact hq
def b05 (o : Out) : Bool:=match o.cur with | .code (.loop _)=>true | _=>false
def at2 (o : Out) : Code:=match o.cur with | .code (.loop c)=>c | _=>.skip
theorem dw0 [Rd] (st' : ι → St) (GI : ι → Gh) (pre : ι → Prop) (m : ι → Nat) (i : ι) (hl : ∀ i,o.st.hp.length ≤ (st' i).hp.length) (he : b05 o = true) (hp : pre i) (hsub : bv5 o.st (st' i)) (hok : ∀ S w,Keeps c.K c.w0 w → G.p S w → ak9 (st' i)) (hg : ∀ S w,Keeps c.K c.w0 w → G.p S w → (GI i).p S w)
  (hb : ∀ i,pre i → Run (c.sub (ax8 c st' GI pre m i) o.k) ⟨.code (at2 o),[],st' i,[]⟩ (GI i)) : Run c o G:=by
 refine ⟨fun β ρ w hS hw hG=>?_⟩
 have hrel:=bn1 i hS hw hG hsub hok hg
 unfold b05 at he
 split at he <;> first | (cases he; done) | skip
 rename_i x hx
 have hbd : at2 o = x:=by unfold at2; rw [hx]
 rw [hx]
 show WqC c.P c.n (.loop x) (kQ c.P c.n c.Q o.k) ρ w
 have key : ∀ N i ρ w,m i = N → pre i → RelI c st' GI i ρ w → LH c.P c.n x (kQ c.P c.n c.Q o.k) ρ w:=by
  intro N
  induction N using Nat.strongRecOn with
  | _ N ih=>
   intro i ρ w hm hp hrel
   obtain ⟨β,hS,hw,hG⟩:=hrel.sat (Nat.le_trans hS.agr.1 (hl i))
   have h1:=(hb i hp).run β ρ w hS hw hG
   rw [hbd] at h1
   refine df7 (bg1 h1 ?_)
   intro e ρ' w' hq
   cases e with
   | normal=>
    obtain ⟨i',hp',hlt,hr⟩:=hq
    exact ih (m i') (by omega) i' ρ' w' rfl hp' hr
   | _=>exact hq
 exact b58 (key _ i ρ w rfl hp hrel)
end
end Go.Proofs.YtmkhgjccoolfjaaGreatDoor
end
section
namespace Go.Proofs.YtmkhgjccoolfjaaGreatDoor
open Go Tryz
def env : Env:=[(2,⟨1,8,false,F6 (.int .i64 0),.int .i64⟩),(3,⟨1,8,false,F6 (.int .i64 0),.int .i64⟩),(4,⟨1,1,false,F6 (.bool false),.bool⟩),(9,⟨1,16,false,F6 (.string { data:=#[] }),.str⟩),(22,⟨8,64,true,F6 (rp 8 [.int .i64 0]),.array 8 3⟩),(23,⟨6,48,true,F6 (rp 6 [.int .i64 0]),.array 6 3⟩),(24,⟨9,72,true,F6 (rp 9 [.int .i64 0]),.array 9 3⟩),(26,⟨1,24,false,F6 (.slice none 0 0),.slice 3⟩),(28,⟨2,32,true,F6 (.agg #[.bool false,.slice none 0 0]),.struct [(0,1,false),(1,1,false)]⟩),(30,⟨4,64,true,F6 (rp 2 [.bool false,.slice none 0 0]),.struct [(0,2,true),(2,2,true)]⟩),(31,⟨12,192,true,F6 (rp 6 [.bool false,.slice none 0 0]),.array 3 30⟩),(33,⟨36,576,true,F6 (rp 18 [.bool false,.slice none 0 0]),.array 3 31⟩),(36,⟨24,384,true,F6 (rp 12 [.bool false,.slice none 0 0]),.array 6 30⟩),(39,⟨12,192,true,F6 (rp 6 [.bool false,.slice none 0 0]),.array 3 30⟩),(46,⟨1,8,false,F6 (.int .u64 0),.int .u64⟩),(51,⟨2,32,true,F6 (.agg #[.bool false,.slice none 0 0]),.struct [(0,1,false),(1,1,false)]⟩),(53,⟨3,56,true,F6 (.agg #[.bool false,.slice none 0 0,.slice none 0 0]),.struct [(0,2,true),(2,1,false)]⟩),(54,⟨9,168,true,F6 (rp 3 [.bool false,.slice none 0 0,.slice none 0 0]),.array 3 53⟩),(55,⟨9,168,true,F6 (rp 3 [.bool false,.slice none 0 0,.slice none 0 0]),.array 3 53⟩),(56,⟨1,8,false,F6 (.int .i64 0),.int .i64⟩),(60,⟨18,336,true,F6 (rp 6 [.bool false,.slice none 0 0,.slice none 0 0]),.array 6 53⟩),(69,⟨72,1152,true,F6 (.agg ([.bool false,.slice none 0 0,.bool false,.slice none 0 0,.bool false,.slice none 0 0,.bool false,.slice none 0 0,.bool false,.slice none 0 0,.bool false,.slice none 0 0,.bool false,.slice none 0 0,.bool false,.slice none 0 0,.bool false,.slice none 0 0,.bool false,.slice none 0 0,.bool false,.slice none 0 0,.bool false,.slice none 0 0,.bool false,.slice none 0 0,.bool false,.slice none 0 0,.bool false,.slice none 0 0,.bool false,.slice none 0 0,.bool false,.slice none 0 0,.bool false,.slice none 0 0].append [.bool false,.slice none 0 0,.bool false,.slice none 0 0,.bool false,.slice none 0 0,.bool false,.slice none 0 0,.bool false,.slice none 0 0,.bool false,.slice none 0 0,.bool false,.slice none 0 0,.bool false,.slice none 0 0,.bool false,.slice none 0 0,.bool false,.slice none 0 0,.bool false,.slice none 0 0,.bool false,.slice none 0 0,.bool false,.slice none 0 0,.bool false,.slice none 0 0,.bool false,.slice none 0 0,.bool false,.slice none 0 0,.bool false,.slice none 0 0,.bool false,.slice none 0 0]).toArray),.array 6 39⟩),(70,⟨54,1008,true,F6 (rp 18 [.bool false,.slice none 0 0,.slice none 0 0]),.array 6 55⟩),(76,⟨6,48,true,F6 (rp 6 [.int .i64 0]),.array 6 3⟩),(77,⟨12,96,true,F6 (rp 12 [.int .i64 0]),.array 2 76⟩),(78,⟨30,240,true,F6 (rp 30 [.int .i64 0]),.array 5 76⟩),(87,⟨45,840,true,F6 (rp 15 [.bool false,.slice none 0 0,.slice none 0 0]),.array 5 55⟩),(98,⟨27,504,true,F6 (rp 9 [.bool false,.slice none 0 0,.slice none 0 0]),.array 3 54⟩),(128,⟨1,24,false,F6 (.slice none 0 0),.slice 30⟩),(135,⟨1,24,false,F6 (.slice none 0 0),.slice 55⟩),(136,⟨27,504,true,F6 (rp 9 [.bool false,.slice none 0 0,.slice none 0 0]),.array 3 55⟩),(139,⟨1,24,false,F6 (.slice none 0 0),.slice 39⟩),(162,⟨1,8,true,F6 (.agg #[.int .i64 0]),.struct [(0,1,false)]⟩),(165,⟨1,24,false,F6 (.slice none 0 0),.slice 53⟩),(178,⟨4,64,true,F6 (.agg #[.bool false,.slice none 0 0,.slice none 0 0,.bool false]),.struct [(0,3,true),(3,1,false)]⟩),(188,⟨2,16,true,F6 (rp 2 [.int .i64 0]),.array 2 3⟩),(194,⟨1,24,false,F6 (.slice none 0 0),.slice 98⟩)]
theorem c8 : EnvOk prog env:=p8 (tyq underlying2) (p8 (tyq underlying3) (p8 (tyq underlying4) (p8 (tyq underlying9) (p8 (tyq underlying22) (p8 (tyq underlying23) (p8 (tyq underlying24) (p8 (tyq underlying26) (p8 (tyq (⟨_,underlying28,by kernel_rfl,fun w=>by kernel_rfl⟩)) (p8 (tyq (⟨_,underlying30,by kernel_rfl,fun w=>by kernel_rfl⟩)) (p8 (tyq underlying31) (p8 (tyq underlying33) (p8 (tyq underlying36) (p8 (tyq underlying39) (p8 (tyq underlying46) (p8 (tyq (⟨_,underlying51,by kernel_rfl,fun w=>by kernel_rfl⟩)) (p8 (tyq (⟨_,underlying53,by kernel_rfl,fun w=>by kernel_rfl⟩)) (p8 (tyq underlying54) (p8 (tyq underlying55) (p8 (tyq underlying56) (p8 (tyq underlying60) (p8 (tyq underlying69) (p8 (tyq underlying70) (p8 (tyq underlying76) (p8 (tyq underlying77) (p8 (tyq underlying78) (p8 (tyq underlying87) (p8 (tyq underlying98) (p8 (tyq underlying128) (p8 (tyq underlying135) (p8 (tyq underlying136) (p8 (tyq underlying139) (p8 (tyq (⟨_,underlying162,by kernel_rfl,fun w=>by kernel_rfl⟩)) (p8 (tyq underlying165) (p8 (tyq (⟨_,underlying178,by kernel_rfl,fun w=>by kernel_rfl⟩)) (p8 (tyq underlying188) (p8 (tyq underlying194) (cy5)))))))))))))))))))))))))))))))))))))
end Go.Proofs.YtmkhgjccoolfjaaGreatDoor
end
section
namespace Go.Proofs.YtmkhgjccoolfjaaGreatDoor
open Go Go.RowKit Tryz
variable {P : Program} {E : Env} {β β' : Nat → Nat} {m b j k s n i t n' : Nat} {T ty : TypeId} {fr : List (Nat × SV)} {w w' w2 w0 : World} {ρ ρ' : Fr} {o : Out} {c : Cx} {st st0 : St} {G G1 A : Gh} {F : Nat → Option ((Nat → Value) → List Ch)} {x X v' : Value} {S lst S0 : Nat → Prop} {l lc lf : (Nat → Value) → List Ch} {base : Bs} {D : List Deferred} {a : Act} {v η : Nat → Value} {cs args cs' : List Value} {es : List Edge} {p : Prop} {f : FuncId} {o1 : Oper} {kk : List Kt} {q : Rat} {α ι : Type} {Ψ : Value → World → Prop} {rs : List ResultVar} {W : List (Nat × Nat)} {R : Fr → World → Prop} {Q : G8}
inductive HRec where
 | val (d : Nat) (sv : (Nat → Value) → SV)
 | mk (d : Nat) (T : TypeId) (l : (Nat → Value) → List Ch)
 | spec (d : Nat) (p : Value → SV) (Δ : Value → Gh)
 | st (k : Nat) (l : (Nat → Value) → List Ch)
 | same
 | sto (b : Nat) (T : TypeId) (l0 : List Ch) (l : (Nat → Value) → List Ch)
def HRec.d : HRec → Option Nat
 | .val d _=>some d
 | .mk d _ _=>some d
 | .spec d _ _=>some d
 | .st _ _=>none
 | .same=>none
 | .sto _ _ _ _=>none
def cnt : List HRec → Nat
 | []=>0
 | .mk _ _ _ :: r=>cnt r + 1
 | .val _ _ :: r=>cnt r
 | .spec _ _ _ :: r=>cnt r
 | .st _ _ :: r=>cnt r
 | .same :: r=>cnt r
 | .sto _ _ _ _ :: r=>cnt r
def HRec.sv (m0 m n : Nat) (η : Nat → Value) : HRec → SV
 | .val _ sv=>sv η
 | .mk _ _ _=>.one (.ptr (m0 + m) 0)
 | .spec _ p _=>p (η n)
 | .st _ _=>.und
 | .same=>.und
 | .sto _ _ _ _=>.und
variable {acc r L : List HRec} {h : HRec}
def a39 (m0 : Nat) (η : Nat → Value) : List HRec → List (Nat × SV)
 | []=>[]
 | h :: r=>match h.d with | some d=>(d,h.sv m0 (cnt r) r.length η) :: a39 m0 η r | none=>a39 m0 η r
def frH (st : St) (acc : List HRec) (η : Nat → Value) : List (Nat × SV):=a39 st.hp.length η acc ++ st.fr
def ak6 : List HRec → Nat → Option ((Nat → Value) → List Ch)
 | [],_=>none
 | .st k l :: r,j=>bif Nat.beq k j then some l else ak6 r j
 | .val _ _ :: r,j=>ak6 r j
 | .mk _ _ _ :: r,j=>ak6 r j
 | .spec _ _ _ :: r,j=>ak6 r j
 | .same :: r,j=>ak6 r j
 | .sto _ _ _ _ :: r,j=>ak6 r j
def X9 (F : Nat → Option ((Nat → Value) → List Ch)) (η : Nat → Value) : List HRec → List HE
 | []=>[]
 | .mk _ T l :: r=>X9 F η r ++ [.blk T (((F r.length).getD l) η)]
 | .val _ _ :: r=>X9 F η r
 | .spec _ _ _ :: r=>X9 F η r
 | .st _ _ :: r=>X9 F η r
 | .same :: r=>X9 F η r
 | .sto _ _ _ _ :: r=>X9 F η r
def U8 (η : Nat → Value) (acc : List HRec) : List HE:=X9 (ak6 acc) η acc
def ar2 (G : Gh) (η : Nat → Value) : List HRec → Gh
 | []=>G
 | .spec _ _ Δ :: r=>(Δ (η r.length)).and (ar2 G η r)
 | .val _ _ :: r=>ar2 G η r
 | .mk _ _ _ :: r=>ar2 G η r
 | .st _ _ :: r=>ar2 G η r
 | .same :: r=>ar2 G η r
 | .sto _ _ _ _ :: r=>ar2 G η r
def ae6 : List HRec → List Nat
 | []=>[]
 | .sto b _ _ _ :: r=>b :: ae6 r
 | .val _ _ :: r=>ae6 r
 | .mk _ _ _ :: r=>ae6 r
 | .spec _ _ _ :: r=>ae6 r
 | .st _ _ :: r=>ae6 r
 | .same :: r=>ae6 r
def U7 (η : Nat → Value) : List HRec → List HE → List HE
 | [],hp=>hp
 | .sto b T _ l :: r,hp=>Z9 (U7 η r hp) b (.blk T (l η))
 | .val _ _ :: r,hp=>U7 η r hp
 | .mk _ _ _ :: r,hp=>U7 η r hp
 | .spec _ _ _ :: r,hp=>U7 η r hp
 | .st _ _ :: r,hp=>U7 η r hp
 | .same :: r,hp=>U7 η r hp
def HE.hide : HE → HE
 | .blk T l=>.hid T l
 | e=>e
variable {hp : List HE}
def cr6 : List HE → Nat → List HE
 | [],_=>[]
 | h :: r,0=>h.hide :: r
 | h :: r,i + 1=>h :: cr6 r i
def am9 : List Nat → List HE → List HE
 | [],hp=>hp
 | b :: r,hp=>cr6 (am9 r hp) b
def bd1 : List HE → Bool
 | []=>true
 | .hid _ _ :: _=>false
 | .blk _ _ :: r=>bd1 r
 | .row _ _ _ _ _ :: r=>bd1 r
 | .gone :: r=>bd1 r
 | .abs _ :: r=>bd1 r
def ch4 : List Nat → Nat → Bool
 | [],_=>false
 | b :: r,i=>bif Nat.beq b i then true else ch4 r i
def cz2 (η : Nat → Value) : List HRec → Nat → Gh
 | [],_=>.nil
 | h :: r,j=>bif Nat.beq r.length j then (match h with | .spec _ _ Δ=>Δ (η j) | _=>.nil) else cz2 η r j
structure depsH (acc : List HRec) (es : List Edge) (η : Nat → Value) (S : Nat → Prop) (w : World) : Prop where
 all : ∀ j,E9 es j = true → (cz2 η acc j).p S w
noncomputable def cf6 (E : Env) (hp : List HE) (fr : List (Nat × SV)) (o : Oper) : Option (SV × List Prop):=match be9 (dj4 E fr hp o.op) with | some (.put s vc)=>some (s,vc) | _=>none
noncomputable def Z1 (E : Env) (hp : List HE) (all : List Oper) (fr : List (Nat × SV)) (o : Oper) : Option (SV × List Prop):=
 match o.guard with
 | none=>cf6 E hp fr o
 | some (j,want)=>match H4 all j with
  | none=>none
  | some g=>match J8 fr g with
   | some (.one (.bb x))=>bif x == want then cf6 E hp fr o else some (.und,[])
   | some .und=>some (.und,[])
   | _=>none
def G4 (all : List Oper) (fr : List (Nat × SV)) (o : Oper) : Bool:=
 match o.guard with
 | none=>true
 | some (j,want)=>match H4 all j with
  | none=>false
  | some g=>match J8 fr g with | some (.one (.bb x))=>x == want | _=>false
def cg9 (E : Env) (fr : List (Nat × SV)) (k : Nat) : Op → Option Eff
 | .alloc T=>a02 (ar4 E T k)
 | .box T x=>a02 (bm1 T k (opd fr x))
 | _=>none
def ax9 (E : Env) (fr : List (Nat × SV)) (b : Nat) (lc : List Ch) : Op → Option (List Ch)
 | .store T' x y=>match opd fr x,opd fr y,E.get T' with
  | some (.one (.ptr b' o)),some yv,some ti=>match yv.chunks with
   | some new=>bif Nat.beq b b' && Nat.beq (aa3 new) ti.size then stL lc o ti.size new else none
   | none=>none
  | _,_,_=>none
 | _=>none
theorem ca3 {ρ : Operand → Value} {o : Op} {lc l' : List Ch} (hE : EnvOk P E) (hk : ah6 β m fr ρ o) (hok : ∀ c ∈ lc,c.Ok m) (hb : Blk w (β b) T (d6 β lc)) (h : ax9 E fr b lc o = some l') :
  (∀ c ∈ l',c.Ok m) ∧ ∃ w',Wrt (β b) w w' ∧ Blk w' (β b) T (d6 β l') ∧ ∀ d pos aft g,(execOp ρ ⟨d,o,ty,pos,aft,g⟩).run P w = .ok .skip w':=by
 unfold ax9 at h
 split at h <;> first | (cases h; done) | skip
 rename_i T' x y
 have hx:=hk x (by simp [Op.operands])
 have hy:=hk y (by simp [Op.operands])
 split at h <;> first | (cases h; done) | skip
 rename_i b' o yv ti e1 e2 e3
 have h1:=(hx _ e1).1
 have h2:=hy _ e2
 split at h <;> first | (cases h; done) | skip
 rename_i new e4
 cases hs : (Nat.beq b b' && Nat.beq (aa3 new) ti.size) with
 | false=>rw [hs] at h; cases h
 | true=>
  rw [hs] at h
  simp only [cond_true] at h
  simp only [Bool.and_eq_true] at hs
  obtain rfl:=Nat.eq_of_beq_eq_true hs.1
  have hsz:=Nat.eq_of_beq_eq_true hs.2
  obtain ⟨h3,h4⟩:=SV.chunks_ok (β:=β) e4 h2.2
  obtain ⟨h5,h6,h7⟩:=bx1 (β:=β) h hok h4
  obtain ⟨z,hty,_⟩:=(hE.get e3).ty
  have hlen:=U0 (β:=β) h4
  have h8:=run_storeCells_at P (β b) o T (d6 β new) 0 (d6 β lc).toArray w hb (by simp; omega) (ag6 h4)
  have e9 : ((d6 β lc).toArray.toList.take (o + 0) ++ d6 β new ++ (d6 β lc).toArray.toList.drop (o + 0 + (d6 β new).length)).toArray = (d6 β l').toArray:=by
   rw [← h5]
   simp [hlen,hsz]
  rw [e9] at h8
  refine ⟨h7,w.setRow (β b) (d6 β l').toArray,⟨rfl,rfl,rfl,by simp [World.setRow],fun k _ hk=>setRow_other w _ k _ hk⟩,setRow_heap w _ _ _ T (0,0) hb,fun d pos aft g=>?_⟩
  have e10 : (d6 β new).length = ti.size:=by omega
  have h11 : ρ x = .pointer (some ⟨β b,o,none⟩):=h1
  simp [execOp,h11,h2.1,Instr.storeAt,Instr.sureAddr,storeVar,hty.runSize w,h3,e10,h8]
def b77 (P : Program) (σ : Operand → Value) (o : Oper) (w : World) (Ψ : Value → World → Prop) (Φ : List PanicEntry → World → Prop) : Prop:=
 match (execOp σ o).run P w with
 | .ok (.value v) w'=>Ψ v w'
 | .ok (.enter f args) w'=>GivesE P f args.toList w' Ψ Φ
 | _=>False
def Loc (c : Cx) (st : St) (G : Gh) (all : List Oper) (acc : List HRec) (o : Oper) : HRec → Prop
 | .val d sv=>o.dst = some d ∧ ∀ η,∃ s vc,Z1 c.E st.hp all (frH st acc η) o = some (s,vc) ∧
   ∀ S w,Keeps c.K c.w0 w → (∀ k,S k → c.S0 k) → G.p S w → depsH acc o.after.toList η S w → I3 vc ∧ ∀ β,s.den β = (sv η).den β ∧ ∀ m,s.Ok m → (sv η).Ok m
 | .mk d T l=>o.dst = some d ∧ ∀ η,G4 all (frH st acc η) o = true ∧ cg9 c.E (frH st acc η) (st.hp.length + cnt acc) o.op = some (.mk T (l η) (.one (.ptr (st.hp.length + cnt acc) 0)))
 | .st k l=>o.dst = none ∧ E9 o.after.toList k = true ∧ (∀ j l',acc.reverse[j]? = some (.st k l') → E9 o.after.toList j = true) ∧ ∃ d T lc,acc.reverse[k]? = some (.mk d T lc) ∧
   ∀ η,G4 all (frH st acc η) o = true ∧ ax9 c.E (frH st acc η) (st.hp.length + cnt (acc.drop (acc.length - k))) (((ak6 acc k).getD lc) η) o.op = some (l η)
 | .same=>o.dst = none ∧ ∀ η,G4 all (frH st acc η) o = true ∧ ∀ β F w m,ah6 β m (frH st acc η) (ev F) o.op → Mem c.bs st.hp β w → (execOp (ev F) o).run c.P w = .ok .skip w
 | .sto b T l0 l=>o.dst = none ∧ ch4 (ae6 acc) b = false ∧ nth st.hp b = some (.hid T l0) ∧ ∀ η,G4 all (frH st acc η) o = true ∧ ax9 c.E (frH st acc η) b l0 o.op = some (l η)
 | .spec d p Δ=>o.dst = some d ∧ ∀ η,G4 all (frH st acc η) o = true ∧ ∀ β S w F m,ah6 β m (frH st acc η) (ev F) o.op → Up S w → Mem c.bs st.hp β w → (∀ k,S k → c.S0 k) → Keeps c.K c.w0 w → G.p S w → depsH acc o.after.toList η S w →
   b77 c.P (ev F) o w (fun v w'=>Ext w w' ∧ v = (p v).den (fun _=>0) ∧ (p v).Ok 0 ∧ (Δ v).p S w') fun ch w'=>∀ ρ,c.Q (.panic ch) ρ w'
def HdI (c : Cx) (st : St) (G : Gh) (all : List Oper) (K : List HRec → Prop) : List HRec → List Oper → Prop
 | acc,[]=>K acc
 | acc,o :: r=>∃ h,Loc c st G all acc o h ∧ HdI c st G all K (h :: acc) r
structure Hd (c : Cx) (st : St) (G : Gh) (all : List Oper) (K : List HRec → Prop) (acc : List HRec) (ops : List Oper) : Prop where
 run : HdI c st G all K acc ops
theorem dr9 {all : List Oper} {K : List HRec → Prop} : ∀ (r : List Oper) (acc : List HRec),HdI c st G all K acc r →
  ∃ L : List HRec,L.length = r.length ∧ K (L.reverse ++ acc) ∧ ∀ k (hk : k < r.length),∃ h,L[k]? = some h ∧ Loc c st G all ((L.take k).reverse ++ acc) r[k] h:=by
 intro r
 induction r with
 | nil=>intro acc h; exact ⟨[],rfl,h,fun k hk=>absurd hk (by simp)⟩
 | cons o r ih=>
  rintro acc ⟨h0,hl,hr⟩
  obtain ⟨L,h1,h2,h3⟩:=ih _ hr
  refine ⟨h0 :: L,by simp [h1],by simpa using h2,fun k hk=>?_⟩
  cases k with
  | zero=>exact ⟨h0,rfl,by simpa using hl⟩
  | succ k=>
   obtain ⟨h,h4,h5⟩:=h3 k (by simpa using hk)
   exact ⟨h,by simpa using h4,by simpa using h5⟩
section
variable {m0 : Nat} {η : Nat → Value}
theorem bc9 {a b : List (Nat × SV)} {d : Nat} : J8 (a ++ b) d = match J8 a d with | some s=>some s | none=>J8 b d:=by
 induction a with
 | nil=>rfl
 | cons p r ih=>
  obtain ⟨i,x⟩:=p
  rw [List.cons_append,H6,H6]
  split
  ·rfl
  exact ih
theorem ce8 : ∀ {acc : List HRec} {d : Nat} {s : SV},J8 (a39 m0 η acc) d = some s → ∃ n h r,acc.drop n = h :: r ∧ h.d = some d ∧ s = h.sv m0 (cnt r) r.length η:=by
 intro acc
 induction acc with
 | nil=>intro d s h; cases h
 | cons x r ih=>
  intro d s h
  have next : J8 (a39 m0 η r) d = some s → ∃ n h r',(x :: r).drop n = h :: r' ∧ h.d = some d ∧ s = h.sv m0 (cnt r') r'.length η:=fun h=>by
   obtain ⟨n,y,q,h1,h2,h3⟩:=ih h
   exact ⟨n + 1,y,q,by simpa using h1,h2,h3⟩
  simp only [a39] at h
  cases hx : x.d with
  | none=>rw [hx] at h; exact next h
  | some d'=>
   rw [hx] at h
   simp only at h
   rw [H6] at h
   split at h
   ·rename_i e
    simp only [Option.some.injEq] at h
    exact ⟨0,x,r,rfl,by rw [hx,e],h.symm⟩
   exact next h
theorem be0 : ∀ {acc : List HRec} {d : Nat},J8 (a39 m0 η acc) d = none → ∀ h ∈ acc,h.d ≠ some d:=by
 intro acc
 induction acc with
 | nil=>intro d h x hx; cases hx
 | cons x r ih=>
  intro d h y hy
  simp only [a39] at h
  cases hx : x.d with
  | none=>
   rw [hx] at h
   rcases List.mem_cons.1 hy with rfl | hy
   ·rw [hx]; simp
   exact ih h y hy
  | some d'=>
   rw [hx] at h
   simp only at h
   rw [H6] at h
   split at h
   ·cases h
   rename_i e
   rcases List.mem_cons.1 hy with rfl | hy
   ·rw [hx]; simpa using e
   exact ih h y hy
theorem cq5 : ∀ {acc : List HRec},(X9 F η acc).length = cnt acc:=by
 intro acc
 induction acc with
 | nil=>rfl
 | cons h r ih=>cases h <;> simp [X9,cnt,ih]
theorem dd6 : (U8 η acc).length = cnt acc:=cq5
theorem c89 : ∀ {acc : List HRec} {n : Nat},cnt (acc.drop n) ≤ cnt acc:=by
 intro acc
 induction acc with
 | nil=>intro n; simp
 | cons h r ih=>
  intro n
  cases n with
  | zero=>exact Nat.le_refl _
  | succ n=>have:=@ih n; cases h <;> simp only [List.drop_succ_cons,cnt] <;> omega
theorem ci1 : ∀ {acc : List HRec} {j : Nat} {x : HE},(X9 F η acc)[j]? = some x → ∃ n d T l r,acc.drop n = .mk d T l :: r ∧ cnt r = j ∧ x = .blk T (((F r.length).getD l) η):=by
 intro acc
 induction acc with
 | nil=>intro j x h; simp [X9] at h
 | cons y r ih=>
  intro j x h
  have next : (X9 F η r)[j]? = some x → ∃ n d T l q,(y :: r).drop n = .mk d T l :: q ∧ cnt q = j ∧ x = .blk T (((F q.length).getD l) η):=fun h=>by
   obtain ⟨n,d',T,l,q,h1,h2,h3⟩:=ih h
   exact ⟨n + 1,d',T,l,q,by simpa using h1,h2,h3⟩
  cases y with
  | val d sv=>exact next h
  | spec d p Δ=>exact next h
  | st k l=>exact next h
  | same=>exact next h
  | sto b T l0 l=>exact next h
  | mk d T l=>
   simp only [X9] at h
   by_cases hj : j < (X9 F η r).length
   ·rw [List.getElem?_append_left hj] at h
    exact next h
   have hl:=(List.getElem?_eq_some_iff.1 h).1
   simp at hl
   have e : j = (X9 F η r).length:=by omega
   subst e
   simp at h
   exact ⟨0,d,T,l,r,rfl,cq5.symm,h.symm⟩
theorem cw9 {x : HE} (h : (U8 η acc)[j]? = some x) : ∃ n d T l r,acc.drop n = .mk d T l :: r ∧ cnt r = j ∧ x = .blk T (((ak6 acc r.length).getD l) η):=ci1 h
theorem d72 : ∀ {acc : List HRec},G.p S w → (∀ n d p Δ r,acc.drop n = .spec d p Δ :: r → (Δ (η r.length)).p S w) → (ar2 G η acc).p S w:=by
 intro acc
 induction acc with
 | nil=>intro h _; exact h
 | cons y r ih=>
  intro h k
  have h2:=ih h fun n d p Δ q hq=>k (n + 1) d p Δ q (by simpa using hq)
  cases y with
  | val d sv=>exact h2
  | mk d T l=>exact h2
  | st k l=>exact h2
  | same=>exact h2
  | sto b T l0 l=>exact h2
  | spec d p Δ=>exact ⟨k 0 d p Δ r rfl,h2⟩
theorem d32 : ∀ {acc : List HRec},(∀ n d p Δ r,acc.drop n = .spec d p Δ :: r → r.length = j → (Δ (η j)).p S w) → (cz2 η acc j).p S w:=by
 intro acc
 induction acc with
 | nil=>intro _; trivial
 | cons y r ih=>
  intro k
  simp only [cz2]
  cases hb : Nat.beq r.length j with
  | true=>
   have e:=Nat.eq_of_beq_eq_true hb
   cases y with
   | val d sv=>trivial
   | mk d T l=>trivial
   | st k l=>trivial
   | same=>trivial
   | sto b T l0 l=>trivial
   | spec d p Δ=>exact k 0 d p Δ r rfl e
  | false=>exact ih fun n d p Δ q hq=>k (n + 1) d p Δ q (by simpa using hq)
end
theorem cu9 : ∀ {acc : List HRec},ak6 acc k = some l → ∃ n : Nat,acc[n]? = some (HRec.st k l) ∧ ∀ (m : Nat) l',m < n → acc[m]? ≠ some (HRec.st k l'):=by
 intro acc
 induction acc with
 | nil=>intro h; cases h
 | cons x r ih=>
  intro h
  have next : ak6 r k = some l → (∀ l',x ≠ .st k l') → ∃ n : Nat,(x :: r)[n]? = some (HRec.st k l) ∧ ∀ (m : Nat) l',m < n → (x :: r)[m]? ≠ some (HRec.st k l'):=fun h hx=>by
   obtain ⟨n,h1,h2⟩:=ih h
   refine ⟨n + 1,by simpa using h1,fun m l' hm=>?_⟩
   cases m with
   | zero=>simpa using hx l'
   | succ m=>simpa using h2 m l' (by omega)
  cases x with
  | val d sv=>exact next h fun l' e=>by cases e
  | mk d T lc=>exact next h fun l' e=>by cases e
  | spec d p Δ=>exact next h fun l' e=>by cases e
  | same=>exact next h fun l' e=>by cases e
  | sto b T l0 lq=>exact next h fun l' e=>by cases e
  | st k' l2=>
   simp only [ak6] at h
   cases hb : Nat.beq k' k with
   | true=>
    rw [hb] at h
    simp only [cond_true,Option.some.injEq] at h
    obtain rfl:=Nat.eq_of_beq_eq_true hb
    subst h
    exact ⟨0,rfl,fun m l' hm=>absurd hm (Nat.not_lt_zero m)⟩
   | false=>
    rw [hb] at h
    refine next h fun l' e=>?_
    cases e
    simp at hb
theorem cu8 : ∀ {acc : List HRec},ak6 acc k = none → ∀ (m : Nat) l',acc[m]? ≠ some (HRec.st k l'):=by
 intro acc
 induction acc with
 | nil=>intro h m l'; simp
 | cons x r ih=>
  intro h m l'
  have next : ak6 r k = none → (∀ l',x ≠ .st k l') → (x :: r)[m]? ≠ some (HRec.st k l'):=fun h hx=>by
   cases m with
   | zero=>simpa using hx l'
   | succ m=>simpa using ih h m l'
  cases x with
  | val d sv=>exact next h fun l' e=>by cases e
  | mk d T lc=>exact next h fun l' e=>by cases e
  | spec d p Δ=>exact next h fun l' e=>by cases e
  | same=>exact next h fun l' e=>by cases e
  | sto b T l0 lq=>exact next h fun l' e=>by cases e
  | st k' l2=>
   simp only [ak6] at h
   cases hb : Nat.beq k' k with
   | true=>rw [hb] at h; cases h
   | false=>
    rw [hb] at h
    refine next h fun l' e=>?_
    cases e
    simp at hb
theorem do1 [Rd] {all : List Oper} {o : Oper} {s : SV} {vc : List Prop} (hE : EnvOk c.P c.E) (hle : hp.length ≤ m) (hall : all.all (ae7 n) = true) (hm : MtI n D a ρ) (hM : Mem base hp β w)
  (hk : ah6 β m fr (ev ρ) o.op) (hg : ∀ j b,o.guard = some (j,b) → ∀ g,H4 all j = some g → Kn β m (J8 fr g) (ρ g)) (h : Z1 c.E hp all fr o = some (s,vc)) (hv : I3 vc) :
  s.Ok m ∧ ((Region.wanted o (yielded all.toArray a.tmps) = true ∧ (execOp (ev ρ) o).run c.P w = .ok (.value (s.den β)) w) ∨ (Region.wanted o (yielded all.toArray a.tmps) = false ∧ s.den β = undef)):=by
 obtain ⟨dst,op,ty,pos,aft,g⟩:=o
 have hput' : cf6 c.E hp fr ⟨dst,op,ty,pos,aft,g⟩ = some (s,vc) → s.Ok m ∧ (execOp (ev ρ) ⟨dst,op,ty,pos,aft,g⟩).run c.P w = .ok (.value (s.den β)) w:=by
  intro h
  unfold cf6 at h
  simp only at h
  split at h <;> first | (cases h; done) | skip
  rename_i s' vc' he
  simp only [Option.some.injEq,Prod.mk.injEq] at h
  obtain ⟨rfl,rfl⟩:=h
  obtain ⟨h1,h2⟩:=bw2 (P:=c.P) (ty:=ty) hle hE hM hk (ai0 he).1 hv
  exact ⟨h2,h1 _ _ _ _⟩
 unfold Z1 at h
 simp only at h
 split at h
 ·obtain ⟨h1,h2⟩:=hput' h
  exact ⟨h1,.inl ⟨rfl,h2⟩⟩
 rename_i j want
 split at h <;> first | (cases h; done) | skip
 rename_i gs hd
 have hkg:=hg j want rfl gs hd
 split at h <;> first | (cases h; done) | skip
 ·rename_i x hx
  have hv1 : ρ gs = .bool x:=(hkg _ hx).1
  have hy:=ai9 hall hm hd hv1
  cases hb : (x == want) with
  | true=>
   rw [hb] at h
   obtain ⟨h1,h2⟩:=hput' h
   refine ⟨h1,.inl ⟨?_,h2⟩⟩
   unfold Region.wanted
   simp only [hy]
   have:=eq_of_beq hb
   subst this
   simp
  | false=>
   rw [hb] at h
   simp only [cond_false,Option.some.injEq,Prod.mk.injEq] at h
   obtain ⟨rfl,rfl⟩:=h
   refine ⟨trivial,.inr ⟨?_,rfl⟩⟩
   unfold Region.wanted
   simp only [hy]
   simpa using hb
 rename_i hx
 have hv1 : ρ gs = undef:=(hkg _ hx).1
 have hy:=at9 hall hm hd hv1
 simp only [Option.some.injEq,Prod.mk.injEq] at h
 obtain ⟨rfl,rfl⟩:=h
 refine ⟨trivial,.inr ⟨?_,rfl⟩⟩
 unfold Region.wanted
 simp only [hy]
 rfl
theorem ad7 [Rd] {all : List Oper} {o : Oper} (hall : all.all (ae7 n) = true) (hm : MtI n D a ρ)
  (hg : ∀ j b,o.guard = some (j,b) → ∀ g,H4 all j = some g → Kn β m (J8 fr g) (ρ g)) (h : G4 all fr o = true) : Region.wanted o (yielded all.toArray a.tmps) = true:=by
 obtain ⟨dst,op,ty,pos,aft,g⟩:=o
 unfold G4 at h
 unfold Region.wanted
 simp only at h hg ⊢
 split at h
 ·rfl
 rename_i j want
 split at h <;> first | (cases h; done) | skip
 rename_i gs hd
 split at h <;> first | (cases h; done) | skip
 rename_i x hx
 have hv1 : ρ gs = .bool x:=((hg j want rfl gs hd) _ hx).1
 simp only [ai9 hall hm hd hv1]
 have:=eq_of_beq h
 subst this
 simp
section
variable {L : List HRec}
abbrev A3 (L : List HRec) (k : Nat) : List HRec:=(L.take k).reverse
theorem ab0 (h : k ≤ L.length) : (A3 L k).length = k:=by simp; omega
theorem az6 (hi : i ≤ L.length) (hk : k < i) (hh : L[k]? = some h) : (A3 L i).drop (i - 1 - k) = h :: A3 L k:=by
 have hkl : k < L.length:=by omega
 have e : L.take i = L.take k ++ h :: (L.take i).drop (k + 1):=by
  have h1 : L[k] = h:=by rw [List.getElem?_eq_getElem hkl] at hh; exact Option.some.inj hh
  have h2 : (L.take i).drop k = h :: (L.take i).drop (k + 1):=by
   rw [List.drop_eq_getElem_cons (by simp; omega)]
   congr 1
   rw [List.getElem_take]
   exact h1
  rw [← h2]
  have h3 : L.take k = (L.take i).take k:=by rw [List.take_take]; congr 1; omega
  rw [h3,List.take_append_drop]
 unfold A3
 rw [e,List.reverse_append,List.reverse_cons,List.append_assoc]
 rw [List.drop_append]
 have hl : ((L.take i).drop (k + 1)).reverse.length = i - 1 - k:=by simp; omega
 rw [hl,List.drop_eq_nil_of_le (by omega),Nat.sub_self]
 rfl
theorem a12 (hi : i ≤ L.length) (hd : (A3 L i).drop n = h :: r) : ∃ k,k < i ∧ L[k]? = some h ∧ r = A3 L k:=by
 have hn : n < i:=by
  have:=congrArg List.length hd
  simp only [List.length_drop,ab0 hi,List.length_cons] at this
  omega
 have hkl : i - 1 - n < L.length:=by omega
 have h1:=az6 (k:=i - 1 - n) hi (by omega) (List.getElem?_eq_getElem hkl)
 rw [show i - 1 - (i - 1 - n) = n by omega,hd] at h1
 simp only [List.cons.injEq] at h1
 exact ⟨i - 1 - n,by omega,by rw [List.getElem?_eq_getElem hkl,h1.1],h1.2⟩
theorem ci2 {d : Nat} (hi : i ≤ L.length) (hk : k < i) (hh : L[k]? = some (.mk d T l)) : cnt (A3 L k) < cnt (A3 L i):=by
 have h1:=az6 hi hk hh
 have h2:=@c89 (A3 L i) (i - 1 - k)
 rw [h1] at h2
 simp only [cnt] at h2
 omega
end
theorem a83 (hi : i ≤ L.length) (hm : m < i) : (A3 L i)[m]? = L[i - 1 - m]?:=by
 unfold A3
 rw [List.getElem?_reverse (by rw [List.length_take]; omega),List.length_take,Nat.min_eq_left hi,List.getElem?_take,if_pos (by omega)]
def Cont (t : Nat) (L : List HRec) (lst : Nat → Prop) (k : Nat) (lc lf : (Nat → Value) → List Ch) : Prop:=
 (lf = lc ∧ ∀ j l',j < t → lst j → L[j]? ≠ some (HRec.st k l')) ∨ ∃ j,j < t ∧ lst j ∧ L[j]? = some (HRec.st k lf) ∧ ∀ j' l',j' < t → lst j' → L[j']? = some (HRec.st k l') → j' ≤ j
theorem Cont.add (h : Cont t L lst k lc lf) (hn : ∀ l',L[i]? ≠ some (HRec.st k l')) : Cont t L (fun j=>j = i ∨ lst j) k lc lf:=by
 rcases h with ⟨h1,h2⟩ | ⟨j,h1,h2,h3,h4⟩
 ·refine .inl ⟨h1,fun j l' hj hl=>?_⟩
  rcases hl with rfl | hl
  ·exact hn l'
  exact h2 j l' hj hl
 refine .inr ⟨j,h1,.inr h2,h3,fun j' l' hj' hl hg=>?_⟩
 rcases hl with rfl | hl
 ·exact absurd hg (hn l')
 exact h4 j' l' hj' hl hg
theorem Cont.eq (h : Cont t L lst k lc lf) (hi : i ≤ L.length) (hit : i ≤ t) (hl : ∀ j l',j < t → L[j]? = some (HRec.st k l') → (lst j ↔ j < i)) : (ak6 (A3 L i) k).getD lc = lf:=by
 cases hs : ak6 (A3 L i) k with
 | none=>
  have hn:=cu8 hs
  have hn' : ∀ j l',j < i → L[j]? ≠ some (HRec.st k l'):=fun j l' hj=>by
   have:=hn (i - 1 - j) l'
   rwa [a83 hi (by omega),show i - 1 - (i - 1 - j) = j by omega] at this
  rcases h with ⟨h1,h2⟩ | ⟨j,h1,h2,h3,h4⟩
  ·exact h1.symm
  exact absurd h3 (hn' j lf ((hl j lf h1 h3).1 h2))
 | some l=>
  obtain ⟨n,h5,h6⟩:=cu9 hs
  have hni : n < i:=by
   have:=(List.getElem?_eq_some_iff.1 h5).1
   rwa [ab0 hi] at this
  rw [a83 hi hni] at h5
  have h7:=(hl _ l (by omega) h5).2 (by omega)
  rcases h with ⟨h1,h2⟩ | ⟨j,h1,h2,h3,h4⟩
  ·exact absurd h5 (h2 _ l (by omega) h7)
  have h8:=h4 _ l (by omega) h7 h5
  have h9:=(hl j lf h1 h3).1 h2
  rcases Nat.lt_or_ge (i - 1 - n) j with h10 | h10
  ·have:=h6 (i - 1 - j) lf (by omega)
   rw [a83 hi (by omega),show i - 1 - (i - 1 - j) = j by omega] at this
   exact absurd h3 this
  have e : j = i - 1 - n:=by omega
  rw [e,h5] at h3
  simpa using h3
section
variable {c : Cx} {st : St} {G : Gh} {l : List Oper} {t M : Nat} {L : List HRec} {β0 : Nat → Nat} {ρ0 : Fr} {w00 : World}
def K8 (st : St) (L : List HRec) (k : Nat) : Nat:=st.hp.length + cnt (A3 L k)
structure Comp (st : St) (t : Nat) (L : List HRec) (β0 : Nat → Nat) (lst : Nat → Prop) (v : Nat → Value) (β : Nat → Nat) (η' : Nat → Value) (β' : Nat → Nat) : Prop where
 res : ∀ k,k < t → lst k → ∀ d p Δ,L[k]? = some (.spec d p Δ) → η' k = v k
 old : ∀ i,i < st.hp.length → β' i = β0 i
 blk : ∀ k,k < t → lst k → ∀ d T lc,L[k]? = some (.mk d T lc) → β' (K8 st L k) = β (K8 st L k)
def SL (c : Cx) (st : St) (t : Nat) (L : List HRec) (β0 : Nat → Nat) (lst : Nat → Prop) (β : Nat → Nat) : Nat → Prop:=
 fun b=>Sof c.S0 β0 st.hp b ∧ ∀ k,k < t → lst k → ∀ d T lc,L[k]? = some (.mk d T lc) → β (K8 st L k) ≠ b
def NTg (t : Nat) (L : List HRec) (β0 : Nat → Nat) (g : Nat) : Prop:=∀ k b T l0 l,k < t → L[k]? = some (HRec.sto b T l0 l) → g ≠ β0 b
def TgOk (st : St) (t : Nat) (L : List HRec) : Prop:=∀ k b T l0 l,k < t → L[k]? = some (HRec.sto b T l0 l) → st.hp[b]? = some (.hid T l0) ∧ ∀ k' T' l0' l',k' < t → L[k']? = some (HRec.sto b T' l0' l') → k' = k
theorem Mem.keeps (h : Mem base hp β w) (k : Keeps S w w') (hs : ∀ i g,m7 β hp i g → (∀ T l,hp[i]? ≠ some (.hid T l)) → S g) : Mem base hp β w':=by
 refine ⟨fun i T l hi=>⟨?_,(h.blk i T l hi).2⟩,fun i T s v n cs hi=>?_,fun i A hi=>?_,fun i g hg=>⟨(h.low i g hg).1,Nat.lt_of_lt_of_le (h.low i g hg).2 k.size⟩,h.apart⟩
 ·have h1:=(h.blk i T l hi).1
  have hm : m7 β hp i (β i):=⟨_,hi,rfl⟩
  exact (k.block _ (h.low i _ hm).2 (hs i _ hm fun T l e=>by rw [hi] at e; cases e)).trans h1
 ·exact ad1 (h.row i T s v n cs hi) k fun g hg=>hs i g ⟨_,hi,hg⟩ fun T l e=>by rw [hi] at e; cases e
 exact A.keep (h.abs i A hi) (fun k' g=>(h.low i k' ⟨_,hi,g⟩).2) k fun g hg=>hs i g ⟨_,hi,hg⟩ fun T l e=>by rw [hi] at e; cases e
theorem TgOk.mine (hT : TgOk st t L) {l0 : List Ch} (hk : k < t) (h : L[k]? = some (HRec.sto b T l0 lf)) : m7 β0 st.hp b (β0 b):=⟨_,(hT k b T l0 lf hk h).1,rfl⟩
theorem TgOk.mem (hT : TgOk st t L) (h : Mem base st.hp β0 w) (k : Keeps (NTg t L β0) w w') : Mem base st.hp β0 w':=by
 refine h.keeps k fun i g hg hn k b T l0 lf hk hs e=>?_
 subst e
 have:=h.apart i b _ hg (hT.mine hk hs)
 subst this
 exact hn _ _ (hT k _ T l0 lf hk hs).1
structure HInv (c : Cx) (st : St) (G : Gh) (t M : Nat) (L : List HRec) (β0 : Nat → Nat) (ρ0 : Fr) (w00 : World) (lst : Nat → Prop) (ρ' : Fr) (v : Nat → Value) (β : Nat → Nat) (w' : World) : Prop where
 ext : Keeps (NTg t L β0) w00 w'
 old : ∀ i,i < st.hp.length → β i = β0 i
 out : ∀ s,(∀ k,k < t → ∀ h,L[k]? = some h → h.d ≠ some s) → ρ' s = ρ0 s
 val : ∀ k,k < t → lst k → ∀ h,L[k]? = some h → ∀ d,h.d = some d → ∀ η' β',Comp st t L β0 lst v β η' β' → ρ' d = (h.sv st.hp.length (cnt (A3 L k)) k η').den β' ∧ (h.sv st.hp.length (cnt (A3 L k)) k η').Ok M
 made : ∀ k,k < t → lst k → ∀ d T lc,L[k]? = some (.mk d T lc) → w00.heap.size ≤ β (K8 st L k) ∧ β (K8 st L k) < w'.heap.size ∧ ∃ lf,Cont t L lst k lc lf ∧ ∀ η' β',Comp st t L β0 lst v β η' β' → Blk w' (β (K8 st L k)) T (d6 β' (lf η')) ∧ ∀ ch ∈ lf η',ch.Ok M
 stl : ∀ j,j < t → lst j → ∀ k l,L[j]? = some (.st k l) → lst k ∧ ∀ j' l',j' < j → L[j']? = some (HRec.st k l') → lst j'
 apart : ∀ k k',k < t → k' < t → lst k → lst k' → ∀ d T lc d' T' lc',L[k]? = some (.mk d T lc) → L[k']? = some (.mk d' T' lc') → β (K8 st L k) = β (K8 st L k') → k = k'
 gh : G.p (SL c st t L β0 lst β) w'
 spec : ∀ k,k < t → lst k → ∀ d p Δ,L[k]? = some (.spec d p Δ) → (Δ (v k)).p (SL c st t L β0 lst β) w'
 sto : ∀ k,k < t → ∀ b T l0 l,L[k]? = some (.sto b T l0 l) → (¬ lst k → Blk w' (β0 b) T (d6 β0 l0)) ∧ (lst k → ∀ η' β',Comp st t L β0 lst v β η' β' → Blk w' (β0 b) T (d6 β' (l η')) ∧ ∀ ch ∈ l η',ch.Ok M)
theorem a64 {v2 : Nat → Value} {β2 : Nat → Nat} (h : ∀ k,k < t → ∀ b T l0 l,L[k]? = some (.sto b T l0 l) → (¬ lst k → Blk w' (β0 b) T (d6 β0 l0)) ∧ (lst k → ∀ η' β',Comp st t L β0 lst v β η' β' → Blk w' (β0 b) T (d6 β' (l η')) ∧ ∀ ch ∈ l η',ch.Ok M))
  (hn : ∀ b T l0 l,L[i]? ≠ some (.sto b T l0 l)) (hc : ∀ {η' β'},Comp st t L β0 (fun k=>k = i ∨ lst k) v2 β2 η' β' → Comp st t L β0 lst v β η' β') (hk : ∀ k b T l0 l cs,k < t → L[k]? = some (.sto b T l0 l) → Blk w' (β0 b) T cs → Blk w2 (β0 b) T cs) :
  ∀ k,k < t → ∀ b T l0 l,L[k]? = some (.sto b T l0 l) → (¬ (k = i ∨ lst k) → Blk w2 (β0 b) T (d6 β0 l0)) ∧ ((k = i ∨ lst k) → ∀ η' β',Comp st t L β0 (fun k=>k = i ∨ lst k) v2 β2 η' β' → Blk w2 (β0 b) T (d6 β' (l η')) ∧ ∀ ch ∈ l η',ch.Ok M):=by
 intro k hk' b T l0 l hg
 obtain ⟨h1,h2⟩:=h k hk' b T l0 l hg
 refine ⟨fun hnl=>hk k b T l0 l _ hk' hg (h1 fun hl=>hnl (.inr hl)),fun hl η' β' hcp=>?_⟩
 rcases hl with rfl | hl
 ·exact absurd hg (hn b T l0 l)
 obtain ⟨h3,h4⟩:=h2 hl η' β' (hc hcp)
 exact ⟨hk k b T l0 l _ hk' hg h3,h4⟩
theorem a65 (h : ∀ j,j < t → lst j → ∀ k l,L[j]? = some (.st k l) → lst k ∧ ∀ j' l',j' < j → L[j']? = some (HRec.st k l') → lst j') (hn : ∀ k l,L[i]? ≠ some (.st k l)) :
  ∀ j,j < t → (j = i ∨ lst j) → ∀ k l,L[j]? = some (.st k l) → (k = i ∨ lst k) ∧ ∀ j' l',j' < j → L[j']? = some (HRec.st k l') → (j' = i ∨ lst j'):=by
 intro j hj hl k l hg
 rcases hl with rfl | hl
 ·exact absurd hg (hn k l)
 obtain ⟨h1,h2⟩:=h j hj hl k l hg
 exact ⟨.inr h1,fun j' l' hj' hg'=>.inr (h2 j' l' hj' hg')⟩
theorem HInv.comp (h : HInv c st G t M L β0 ρ0 w00 lst ρ' v β w') : Comp st t L β0 lst v β v β:=
 ⟨fun _ _ _ _ _ _ _=>rfl,h.old,fun _ _ _ _ _ _ _=>rfl⟩
theorem Mem.congr (h : Mem base hp β w) (hb : ∀ i,i < hp.length → β' i = β i) : Mem base hp β' w:=by
 have hm : ∀ i k,m7 β' hp i k → m7 β hp i k:=by
  rintro i k ⟨x,hi,hk⟩
  rw [hb i (List.getElem?_eq_some_iff.1 hi).1] at hk
  exact ⟨x,hi,hk⟩
 refine ⟨fun i T l hi=>?_,h.row,h.abs,fun i k hk=>h.low i k (hm i k hk),fun i j k hi hj=>h.apart i j k (hm i k hi) (hm j k hj)⟩
 obtain ⟨h1,h2⟩:=h.blk i T l hi
 have hil:=(List.getElem?_eq_some_iff.1 hi).1
 rw [hb i hil,K6 (m:=hp.length) hb h2]
 exact ⟨h1,h2⟩
theorem bz2 (hS : Sat c.bs st β0 ρ0 w00) (hM : st.hp.length ≤ M) (h : HInv c st G t M L β0 ρ0 w00 lst ρ' v β w') (hi : i ≤ L.length) (hit : i ≤ t)
  (hs : ∀ k,k < t → ∀ h,L[k]? = some h → h.d = some s → k < i ∧ lst k) {η' : Nat → Value} (hc : Comp st t L β0 lst v β η' β') : Kn β' M (J8 (frH st (A3 L i) η') s) (ρ' s):=by
 intro x hx
 unfold frH at hx
 rw [bc9] at hx
 cases hl : J8 (a39 st.hp.length η' (A3 L i)) s with
 | some y=>
  rw [hl] at hx
  simp only [Option.some.injEq] at hx
  subst hx
  obtain ⟨n,hh,r,h1,h2,h3⟩:=ce8 hl
  obtain ⟨k,hk,h4,h5⟩:=a12 hi h1
  have h6:=hs k (by omega) hh h4 h2
  have h7:=h.val k (by omega) h6.2 hh h4 s h2 η' β' hc
  subst h5
  rw [ab0 (by omega)] at h3
  rw [h3]
  exact h7
 | none=>
  rw [hl] at hx
  simp only at hx
  have hn:=be0 hl
  have e : ρ' s = ρ0 s:=by
   refine h.out s fun k hk hh hg he=>?_
   obtain ⟨h1,h2⟩:=hs k hk hh hg he
   refine hn hh ?_ he
   rw [List.mem_reverse]
   refine List.mem_of_getElem? (i:=k) ?_
   rw [List.getElem?_take,if_pos h1]
   exact hg
  obtain ⟨e1,e2⟩:=(hS.fr s) x hx
  exact ⟨by rw [e,e1]; exact SV.den_congr (fun i hi=>(hc.old i hi).symm) e2,e2.le hM⟩
theorem HInv.put (h : HInv c st G t M L β0 ρ0 w00 lst ρ' v β w') {d : Nat} {sv : (Nat → Value) → SV} (hi : i < t) (hh : L[i]? = some (.val d sv)) (hu : ∀ k,k < t → ∀ h,L[k]? = some h → h.d = some d → k = i) (hx : ∀ η' β',Comp st t L β0 lst v β η' β' → x = (sv η').den β' ∧ (sv η').Ok M) : HInv c st G t M L β0 ρ0 w00 (fun k=>k = i ∨ lst k) (upd ρ' d x) v β w':=by
 have hcomp : ∀ {η' β'},Comp st t L β0 (fun k=>k = i ∨ lst k) v β η' β' → Comp st t L β0 lst v β η' β':=fun q=>⟨fun k hk hl=>q.res k hk (.inr hl),q.old,fun k hk hl=>q.blk k hk (.inr hl)⟩
 have hSL : SL c st t L β0 (fun k=>k = i ∨ lst k) β = SL c st t L β0 lst β:=by
  funext b
  refine propext ⟨fun q=>⟨q.1,fun k hk hl=>q.2 k hk (.inr hl)⟩,fun q=>⟨q.1,fun k hk hl d' T lc hg=>?_⟩⟩
  rcases hl with rfl | hl
  ·rw [hh] at hg; cases hg
  exact q.2 k hk hl d' T lc hg
 refine ⟨h.ext,h.old,fun s hs=>?_,?_,?_,a65 h.stl (fun k l e=>by rw [hh] at e; cases e),?_,hSL ▸ h.gh,?_,a64 h.sto (fun b T l0 l e=>by rw [hh] at e; cases e) hcomp (fun _ _ _ _ _ _ _ _ h=>h)⟩
 ·rw [ag5,if_neg (show ¬ d = s from fun e=>hs i hi _ hh (congrArg some e))]
  exact h.out s hs
 ·intro k hk hl g hg d' hd' η' β' hc
  rw [ag5]
  split
  ·rename_i e
   obtain rfl:=hu k hk g hg (by rw [hd',e])
   rw [hh] at hg
   cases hg
   exact hx η' β' (hcomp hc)
  rename_i e
  rcases hl with rfl | hl
  ·rw [hh] at hg; cases hg; exact absurd (by simpa [HRec.d] using hd') e
  exact h.val k hk hl g hg d' hd' η' β' (hcomp hc)
 ·intro k hk hl d' T lc hg
  rcases hl with rfl | hl
  ·rw [hh] at hg; cases hg
  obtain ⟨h1,h2,lf,hC,h3⟩:=h.made k hk hl d' T lc hg
  exact ⟨h1,h2,lf,hC.add (fun l' e=>by rw [hh] at e; cases e),fun η' β' hc=>h3 η' β' (hcomp hc)⟩
 ·intro k k' hk hk' hl hl' d1 T1 l1 d2 T2 l2 hg hg'
  rcases hl with rfl | hl
  ·rw [hh] at hg; cases hg
  rcases hl' with rfl | hl'
  ·rw [hh] at hg'; cases hg'
  exact h.apart k k' hk hk' hl hl' _ _ _ _ _ _ hg hg'
 intro k hk hl d' p Δ hg
 rw [hSL]
 rcases hl with rfl | hl
 ·rw [hh] at hg; cases hg
 exact h.spec k hk hl d' p Δ hg
theorem HInv.same (h : HInv c st G t M L β0 ρ0 w00 lst ρ' v β w') (hh : L[i]? = some .same) : HInv c st G t M L β0 ρ0 w00 (fun k=>k = i ∨ lst k) ρ' v β w':=by
 have hcomp : ∀ {η' β'},Comp st t L β0 (fun k=>k = i ∨ lst k) v β η' β' → Comp st t L β0 lst v β η' β':=fun q=>⟨fun k hk hl=>q.res k hk (.inr hl),q.old,fun k hk hl=>q.blk k hk (.inr hl)⟩
 have hSL : SL c st t L β0 (fun k=>k = i ∨ lst k) β = SL c st t L β0 lst β:=by
  funext b
  refine propext ⟨fun q=>⟨q.1,fun k hk hl=>q.2 k hk (.inr hl)⟩,fun q=>⟨q.1,fun k hk hl d' T lc hg=>?_⟩⟩
  rcases hl with rfl | hl
  ·rw [hh] at hg; cases hg
  exact q.2 k hk hl d' T lc hg
 refine ⟨h.ext,h.old,h.out,?_,?_,a65 h.stl (fun k l e=>by rw [hh] at e; cases e),?_,hSL ▸ h.gh,?_,a64 h.sto (fun b T l0 l e=>by rw [hh] at e; cases e) hcomp (fun _ _ _ _ _ _ _ _ h=>h)⟩
 ·intro k hk hl g hg d' hd' η' β' hc
  rcases hl with rfl | hl
  ·rw [hh] at hg; cases hg; cases hd'
  exact h.val k hk hl g hg d' hd' η' β' (hcomp hc)
 ·intro k hk hl d' T lc hg
  rcases hl with rfl | hl
  ·rw [hh] at hg; cases hg
  obtain ⟨h1,h2,lf,hC,h3⟩:=h.made k hk hl d' T lc hg
  exact ⟨h1,h2,lf,hC.add (fun l' e=>by rw [hh] at e; cases e),fun η' β' hc=>h3 η' β' (hcomp hc)⟩
 ·intro k k' hk hk' hl hl' d1 T1 l1 d2 T2 l2 hg hg'
  rcases hl with rfl | hl
  ·rw [hh] at hg; cases hg
  rcases hl' with rfl | hl'
  ·rw [hh] at hg'; cases hg'
  exact h.apart k k' hk hk' hl hl' _ _ _ _ _ _ hg hg'
 intro k hk hl d' p Δ hg
 rw [hSL]
 rcases hl with rfl | hl
 ·rw [hh] at hg; cases hg
 exact h.spec k hk hl d' p Δ hg
theorem HInv.res (h : HInv c st G t M L β0 ρ0 w00 lst ρ' v β w') {d : Nat} {p : Value → SV} {Δ : Value → Gh} (hi : i < t) (hn : ¬ lst i) (hh : L[i]? = some (.spec d p Δ)) (hu : ∀ k,k < t → ∀ h,L[k]? = some h → h.d = some d → k = i) (hk : Ext w' w2) (hx : x = (p x).den (fun _=>0)) (hok : (p x).Ok 0) (hΔ : (Δ x).p (SL c st t L β0 lst β) w2) : HInv c st G t M L β0 ρ0 w00 (fun k=>k = i ∨ lst k) (upd ρ' d x) (fun k=>if k = i then x else v k) β w2:=by
 have hcomp : ∀ {η' : Nat → Value} {β' : Nat → Nat},Comp st t L β0 (fun k=>k = i ∨ lst k) (fun k=>if k = i then x else v k) β η' β' → Comp st t L β0 lst v β η' β' ∧ η' i = x:=fun {η' β'} q=>
  ⟨⟨fun k hk hl d p Δ hg=>by
    have h1 : η' k = if k = i then x else v k:=q.res k hk (.inr hl) d p Δ hg
    rwa [if_neg (fun e : k = i=>hn (by rw [← e]; exact hl))] at h1,q.old,fun k hk hl=>q.blk k hk (.inr hl)⟩,by
   have h1 : η' i = if i = i then x else v i:=q.res i hi (.inl rfl) d p Δ hh
   rwa [if_pos rfl] at h1⟩
 have hSL : SL c st t L β0 (fun k=>k = i ∨ lst k) β = SL c st t L β0 lst β:=by
  funext b
  refine propext ⟨fun q=>⟨q.1,fun k hk hl=>q.2 k hk (.inr hl)⟩,fun q=>⟨q.1,fun k hk hl d' T lc hg=>?_⟩⟩
  rcases hl with rfl | hl
  ·rw [hh] at hg; cases hg
  exact q.2 k hk hl d' T lc hg
 refine ⟨h.ext.trans (.of hk),h.old,fun s hs=>?_,?_,?_,a65 h.stl (fun k l e=>by rw [hh] at e; cases e),?_,hSL ▸ G.keep h.gh (.of hk),?_,a64 h.sto (fun b T l0 l e=>by rw [hh] at e; cases e) (fun q=>(hcomp q).1) (fun _ _ _ _ _ _ _ _ h=>h.to hk)⟩
 ·rw [ag5,if_neg (show ¬ d = s from fun e=>hs i hi _ hh (congrArg some e))]
  exact h.out s hs
 ·intro k hk' hl g hg d' hd' η' β' hc
  obtain ⟨hc1,hc2⟩:=hcomp hc
  rw [ag5]
  split
  ·rename_i e
   obtain rfl:=hu k hk' g hg (by rw [hd',e])
   rw [hh] at hg
   cases hg
   simp only [HRec.sv,hc2]
   exact ⟨hx.trans (SV.den_congr (m:=0) (fun i hi=>absurd hi (Nat.not_lt_zero i)) hok),hok.le (Nat.zero_le _)⟩
  rename_i e
  rcases hl with rfl | hl
  ·rw [hh] at hg; cases hg; exact absurd (by simpa [HRec.d] using hd') e
  exact h.val k hk' hl g hg d' hd' η' β' hc1
 ·intro k hk' hl d' T lc hg
  rcases hl with rfl | hl
  ·rw [hh] at hg; cases hg
  obtain ⟨h1,h2,lf,hC,h3⟩:=h.made k hk' hl d' T lc hg
  exact ⟨h1,Nat.lt_of_lt_of_le h2 hk.size,lf,hC.add (fun l' e=>by rw [hh] at e; cases e),fun η' β' hc=>⟨(h3 η' β' (hcomp hc).1).1.to hk,(h3 η' β' (hcomp hc).1).2⟩⟩
 ·intro k k' hk' hk2 hl hl' d1 T1 l1 d2 T2 l2 hg hg'
  rcases hl with rfl | hl
  ·rw [hh] at hg; cases hg
  rcases hl' with rfl | hl'
  ·rw [hh] at hg'; cases hg'
  exact h.apart k k' hk' hk2 hl hl' _ _ _ _ _ _ hg hg'
 intro k hk' hl d' p' Δ' hg
 rw [hSL]
 by_cases e : k = i
 ·subst e
  rw [hh] at hg
  cases hg
  rw [if_pos rfl]
  exact hΔ
 rw [if_neg e]
 rcases hl with e' | hl
 ·exact absurd e' e
 exact (Δ' (v k)).keep (h.spec k hk' hl d' p' Δ' hg) (.of hk)
theorem HInv.new (hS : Sat c.bs st β0 ρ0 w00) (h : HInv c st G t M L β0 ρ0 w00 lst ρ' v β w') {d : Nat} (hlen : L.length = t) (hi : i < t) (hn : ¬ lst i) (hh : L[i]? = some (.mk d T lc)) (hu : ∀ k,k < t → ∀ h,L[k]? = some h → h.d = some d → k = i) (hMi : K8 st L i < M) (hx : ∀ η' β',Comp st t L β0 lst v β η' β' → cs = d6 β' (lc η') ∧ ∀ ch ∈ lc η',ch.Ok M) :
  HInv c st G t M L β0 ρ0 w00 (fun k=>k = i ∨ lst k) (upd ρ' d (.pointer (some ⟨w'.heap.size,0,none⟩))) v (βs β (K8 st L i) w'.heap.size) (w'.alloc (.cells cs.toArray T)):=by
 have hk:=R1 w' (.cells cs.toArray T)
 have hold : ∀ j,j < st.hp.length → βs β (K8 st L i) w'.heap.size j = β j:=fun j hj=>b22 (by unfold K8; omega)
 have hne : ∀ k,k < t → lst k → ∀ d' T' lc',L[k]? = some (.mk d' T' lc') → βs β (K8 st L i) w'.heap.size (K8 st L k) = β (K8 st L k):=by
  intro k hk hl d' T' lc' hg
  have e : K8 st L k ≠ K8 st L i:=by
   have hki : k ≠ i:=fun e=>hn (e ▸ hl)
   unfold K8
   rcases Nat.lt_or_ge k i with h1 | h1
   ·have:=ci2 (L:=L) (i:=i) (by omega) h1 hg; omega
   have:=ci2 (L:=L) (i:=k) (by omega) (show i < k by omega) hh; omega
  unfold βs
  rw [if_neg e]
 have hcomp : ∀ {η' β'},Comp st t L β0 (fun k=>k = i ∨ lst k) v (βs β (K8 st L i) w'.heap.size) η' β' → Comp st t L β0 lst v β η' β' ∧ β' (K8 st L i) = w'.heap.size:=fun q=>
  ⟨⟨fun k hk hl=>q.res k hk (.inr hl),q.old,fun k hk hl d T lc hg=>(q.blk k hk (.inr hl) d T lc hg).trans (hne k hk hl d T lc hg)⟩,by rw [q.blk i hi (.inl rfl) d T lc hh]; exact aj4⟩
 have hSLm : ∀ b,b < w'.heap.size → SL c st t L β0 lst β b → SL c st t L β0 (fun k=>k = i ∨ lst k) (βs β (K8 st L i) w'.heap.size) b:=by
  intro b hb q
  refine ⟨q.1,fun k hk hl d' T' lc' hg=>?_⟩
  by_cases e : k = i
  ·subst e; rw [aj4]; omega
  rcases hl with e' | hl
  ·exact absurd e' e
  rw [hne k hk hl d' T' lc' hg]; exact q.2 k hk hl d' T' lc' hg
 have hsz : (w'.alloc (.cells cs.toArray T)).heap.size = w'.heap.size + 1:=by simp
 refine ⟨h.ext.trans (.of hk),fun j hj=>(hold j hj).trans (h.old j hj),fun s hs=>?_,?_,?_,a65 h.stl (fun k l e=>by rw [hh] at e; cases e),?_,G.keep (G.mono h.gh hSLm) (.of hk),?_,a64 h.sto (fun b T l0 l e=>by rw [hh] at e; cases e) (fun q=>(hcomp q).1) (fun _ _ _ _ _ _ _ _ h=>h.to hk)⟩
 ·rw [ag5,if_neg (show ¬ d = s from fun e=>hs i hi _ hh (congrArg some e))]
  exact h.out s hs
 ·intro k hk' hl g hg d' hd' η' β' hc
  obtain ⟨hc1,hc2⟩:=hcomp hc
  rw [ag5]
  split
  ·rename_i e
   obtain rfl:=hu k hk' g hg (by rw [hd',e])
   rw [hh] at hg
   cases hg
   have e3 : β' (st.hp.length + cnt (A3 L k)) = w'.heap.size:=hc2
   refine ⟨?_,hMi⟩
   simp only [HRec.sv,SV.den,Ch.den,e3]
  rename_i e
  rcases hl with rfl | hl
  ·rw [hh] at hg; cases hg; exact absurd (by simpa [HRec.d] using hd') e
  exact h.val k hk' hl g hg d' hd' η' β' hc1
 ·intro k hk' hl d' T' lc' hg
  by_cases e : k = i
  ·subst e
   rw [hh] at hg
   cases hg
   rw [aj4]
   refine ⟨h.ext.size,by omega,lc,.inl ⟨rfl,fun j l' hj hl hg=>?_⟩,fun η' β' hc=>?_⟩
   ·rcases hl with rfl | hl
    ·rw [hh] at hg; cases hg
    exact hn (h.stl j hj hl _ _ hg).1
   obtain ⟨h1,h2⟩:=hx η' β' (hcomp hc).1
   rw [← h1]
   exact ⟨Blk.new _ _ _,h2⟩
  rcases hl with e' | hl
  ·exact absurd e' e
  rw [hne k hk' hl d' T' lc' hg]
  obtain ⟨h1,h2,lf,hC,h3⟩:=h.made k hk' hl d' T' lc' hg
  exact ⟨h1,by omega,lf,hC.add (fun l' e'=>by rw [hh] at e'; cases e'),fun η' β' hc=>⟨(h3 η' β' (hcomp hc).1).1.to hk,(h3 η' β' (hcomp hc).1).2⟩⟩
 ·intro k k' hk' hk2 hl hl' d1 T1 l1 d2 T2 l2 hg hg' he
  by_cases e : k = i
  ·by_cases e' : k' = i
   ·rw [e,e']
   rcases hl' with e2 | hl'
   ·exact absurd e2 e'
   ·subst e
    rw [aj4,hne k' hk2 hl' _ _ _ hg'] at he
    have:=(h.made k' hk2 hl' _ _ _ hg').2.1
    omega
  rcases hl with e2 | hl
  ·exact absurd e2 e
  ·by_cases e' : k' = i
   ·subst e'
    rw [aj4,hne k hk' hl _ _ _ hg] at he
    have:=(h.made k hk' hl _ _ _ hg).2.1
    omega
   rcases hl' with e2 | hl'
   ·exact absurd e2 e'
   rw [hne k hk' hl _ _ _ hg,hne k' hk2 hl' _ _ _ hg'] at he
   exact h.apart k k' hk' hk2 hl hl' _ _ _ _ _ _ hg hg' he
 intro k hk' hl d' p Δ hg
 rcases hl with rfl | hl
 ·rw [hh] at hg; cases hg
 exact (Δ (v k)).keep ((Δ (v k)).mono (h.spec k hk' hl d' p Δ hg) hSLm) (.of hk)
theorem HInv.store (hS : Sat c.bs st β0 ρ0 w00) (hT : TgOk st t L) (h : HInv c st G t M L β0 ρ0 w00 lst ρ' v β w') {k0 d0 : Nat} {T0 : TypeId} {l lc0 : (Nat → Value) → List Ch} (hi : i < t) (hk0 : k0 < t) (hlk : lst k0) (hh : L[i]? = some (.st k0 l)) (hh0 : L[k0]? = some (.mk d0 T0 lc0))
  (hord : ∀ j l',j < t → L[j]? = some (.st k0 l') → (lst j ↔ j < i)) (hk : Wrt (β (K8 st L k0)) w' w2) (hx : ∀ η' β',Comp st t L β0 lst v β η' β' → Blk w2 (β (K8 st L k0)) T0 (d6 β' (l η')) ∧ ∀ ch ∈ l η',ch.Ok M) :
  HInv c st G t M L β0 ρ0 w00 (fun k=>k = i ∨ lst k) ρ' v β w2:=by
 have hcomp : ∀ {η' β'},Comp st t L β0 (fun k=>k = i ∨ lst k) v β η' β' → Comp st t L β0 lst v β η' β':=fun q=>⟨fun k hk hl=>q.res k hk (.inr hl),q.old,fun k hk hl=>q.blk k hk (.inr hl)⟩
 have hSL : SL c st t L β0 (fun k=>k = i ∨ lst k) β = SL c st t L β0 lst β:=by
  funext b
  refine propext ⟨fun q=>⟨q.1,fun k hk hl=>q.2 k hk (.inr hl)⟩,fun q=>⟨q.1,fun k hk hl d' T lc hg=>?_⟩⟩
  rcases hl with rfl | hl
  ·rw [hh] at hg; cases hg
  exact q.2 k hk hl d' T lc hg
 have hm0:=h.made k0 hk0 hlk _ _ _ hh0
 have hkS : Keeps (SL c st t L β0 lst β) w' w2:=hk.mono fun b q e=>q.2 k0 hk0 hlk _ _ _ hh0 e.symm
 refine ⟨Keeps.behind h.ext hk (fun b hb _ e=>by omega),h.old,h.out,?_,?_,?_,?_,hSL ▸ G.keep h.gh hkS,?_,a64 h.sto (fun b T l0 l e=>by rw [hh] at e; cases e) hcomp (fun k b T l0 l cs hk' hg h=>h.wr hk fun e=>by have:=(hS.mem.low b _ (hT.mine hk' hg)).2; omega)⟩
 ·intro k hk' hl g hg d' hd' η' β' hc
  rcases hl with rfl | hl
  ·rw [hh] at hg; cases hg; cases hd'
  exact h.val k hk' hl g hg d' hd' η' β' (hcomp hc)
 ·intro k hk' hl d' T lc hg
  rcases hl with rfl | hl
  ·rw [hh] at hg; cases hg
  obtain ⟨h1,h2,lf,hC,h3⟩:=h.made k hk' hl d' T lc hg
  by_cases e : k = k0
  ·subst e
   rw [hh0] at hg
   cases hg
   refine ⟨h1,Nat.lt_of_lt_of_le h2 hk.size,l,.inr ⟨i,hi,.inl rfl,hh,fun j' l' hj' hl' hg'=>?_⟩,fun η' β' hc=>hx η' β' (hcomp hc)⟩
   rcases hl' with rfl | hl'
   ·exact Nat.le_refl _
   exact Nat.le_of_lt ((hord j' l' hj' hg').1 hl')
  refine ⟨h1,Nat.lt_of_lt_of_le h2 hk.size,lf,hC.add (fun l' e'=>by rw [hh] at e'; cases e'; exact e rfl),fun η' β' hc=>?_⟩
  obtain ⟨h4,h5⟩:=h3 η' β' (hcomp hc)
  refine ⟨h4.wr hk fun e'=>e (h.apart k k0 hk' hk0 hl hlk _ _ _ _ _ _ hg hh0 e'),h5⟩
 ·intro j hj hl k l' hg
  rcases hl with rfl | hl
  ·rw [hh] at hg
   cases hg
   exact ⟨.inr hlk,fun j' l' hj' hg'=>.inr ((hord j' l' (by omega) hg').2 hj')⟩
  obtain ⟨h1,h2⟩:=h.stl j hj hl k l' hg
  exact ⟨.inr h1,fun j' l' hj' hg'=>.inr (h2 j' l' hj' hg')⟩
 ·intro k k' hk1 hk2 hl hl' d1 T1 l1 d2 T2 l2 hg hg'
  rcases hl with rfl | hl
  ·rw [hh] at hg; cases hg
  rcases hl' with rfl | hl'
  ·rw [hh] at hg'; cases hg'
  exact h.apart k k' hk1 hk2 hl hl' _ _ _ _ _ _ hg hg'
 intro k hk' hl d' p Δ hg
 rw [hSL]
 rcases hl with rfl | hl
 ·rw [hh] at hg; cases hg
 exact (Δ (v k)).keep (h.spec k hk' hl d' p Δ hg) hkS
theorem HInv.stoT (hS : Sat c.bs st β0 ρ0 w00) (hT : TgOk st t L) (h : HInv c st G t M L β0 ρ0 w00 lst ρ' v β w') {l0 : List Ch} {l : (Nat → Value) → List Ch} (hi : i < t) (hh : L[i]? = some (.sto b T l0 l))
  (hk : Wrt (β0 b) w' w2) (hx : ∀ η' β',Comp st t L β0 lst v β η' β' → Blk w2 (β0 b) T (d6 β' (l η')) ∧ ∀ ch ∈ l η',ch.Ok M) : HInv c st G t M L β0 ρ0 w00 (fun k=>k = i ∨ lst k) ρ' v β w2:=by
 have hcomp : ∀ {η' β'},Comp st t L β0 (fun k=>k = i ∨ lst k) v β η' β' → Comp st t L β0 lst v β η' β':=fun q=>⟨fun k hk hl=>q.res k hk (.inr hl),q.old,fun k hk hl=>q.blk k hk (.inr hl)⟩
 have hSL : SL c st t L β0 (fun k=>k = i ∨ lst k) β = SL c st t L β0 lst β:=by
  funext b
  refine propext ⟨fun q=>⟨q.1,fun k hk hl=>q.2 k hk (.inr hl)⟩,fun q=>⟨q.1,fun k hk hl d' T lc hg=>?_⟩⟩
  rcases hl with rfl | hl
  ·rw [hh] at hg; cases hg
  exact q.2 k hk hl d' T lc hg
 have hm:=hT.mine (β0:=β0) hi hh
 have hlow:=(hS.mem.low b _ hm).2
 have hkS : Keeps (SL c st t L β0 lst β) w' w2:=hk.mono fun g q e=>q.1.2 b (e ▸ hm)
 refine ⟨h.ext.trans (hk.mono fun g hg=>hg i b T l0 l hi hh),h.old,h.out,?_,?_,a65 h.stl (fun k l e=>by rw [hh] at e; cases e),?_,hSL ▸ G.keep h.gh hkS,?_,?_⟩
 ·intro k hk' hl g hg d' hd' η' β' hc
  rcases hl with rfl | hl
  ·rw [hh] at hg; cases hg; cases hd'
  exact h.val k hk' hl g hg d' hd' η' β' (hcomp hc)
 ·intro k hk' hl d' T' lc hg
  rcases hl with rfl | hl
  ·rw [hh] at hg; cases hg
  obtain ⟨h1,h2,lf,hC,h3⟩:=h.made k hk' hl d' T' lc hg
  refine ⟨h1,Nat.lt_of_lt_of_le h2 hk.size,lf,hC.add (fun l' e=>by rw [hh] at e; cases e),fun η' β' hc=>?_⟩
  obtain ⟨h4,h5⟩:=h3 η' β' (hcomp hc)
  exact ⟨h4.wr hk fun e=>by omega,h5⟩
 ·intro k k' hk1 hk2 hl hl' d1 T1 l1 d2 T2 l2 hg hg'
  rcases hl with rfl | hl
  ·rw [hh] at hg; cases hg
  rcases hl' with rfl | hl'
  ·rw [hh] at hg'; cases hg'
  exact h.apart k k' hk1 hk2 hl hl' _ _ _ _ _ _ hg hg'
 ·intro k hk' hl d' p Δ hg
  rw [hSL]
  rcases hl with rfl | hl
  ·rw [hh] at hg; cases hg
  exact (Δ (v k)).keep (h.spec k hk' hl d' p Δ hg) hkS
 intro k hk' b' T' l0' l' hg
 by_cases e : k = i
 ·subst e
  rw [hh] at hg
  cases hg
  exact ⟨fun hnl=>absurd (.inl rfl) hnl,fun _ η' β' hc=>hx η' β' (hcomp hc)⟩
 obtain ⟨h1,h2⟩:=h.sto k hk' b' T' l0' l' hg
 have hne : ¬ β0 b' = β0 b:=fun e'=>by
  have e2:=hS.mem.apart b' b _ (hT.mine hk' hg) (e'.symm ▸ hm)
  subst e2
  exact e ((hT i _ T l0 l hi hh).2 k _ _ _ hk' hg)
 refine ⟨fun hnl=>(h1 fun hl=>hnl (.inr hl)).wr hk hne,fun hl η' β' hc=>?_⟩
 rcases hl with e' | hl
 ·exact absurd e' e
 obtain ⟨h3,h4⟩:=h2 hl η' β' (hcomp hc)
 exact ⟨h3.wr hk hne,h4⟩
theorem HInv.sat (hS : Sat c.bs st β0 ρ0 w00) (hT : TgOk st t L) (hw : Keeps c.K c.w0 w00) (hlen : L.length = t) (hM : M = st.hp.length + cnt (A3 L t)) (h : HInv c st G t M L β0 ρ0 w00 lst ρ' v β w') (hall : ∀ k,k < t → lst k) :
  Sat c.bs ⟨frH st (A3 L t) v,st.hp ++ U8 v (A3 L t)⟩ β ρ' w' ∧ (ar2 G v (A3 L t)).p (Sof c.S0 β (st.hp ++ U8 v (A3 L t))) w':=by
 have hc:=h.comp
 have hlen2 : (st.hp ++ U8 v (A3 L t)).length = M:=by rw [List.length_append,dd6,hM]
 have hnew : ∀ i x,(st.hp ++ U8 v (A3 L t))[i]? = some x → (i < st.hp.length ∧ st.hp[i]? = some x) ∨ ∃ k d T lc,k < t ∧ L[k]? = some (.mk d T lc) ∧ i = K8 st L k ∧ x = .blk T (((ak6 (A3 L t) k).getD lc) v):=by
  intro i x hx
  by_cases hi : i < st.hp.length
  ·rw [List.getElem?_append_left hi] at hx
   exact .inl ⟨hi,hx⟩
  rw [List.getElem?_append_right (by omega)] at hx
  obtain ⟨n,d,T,lc,r,h1,h2,h3⟩:=cw9 hx
  obtain ⟨k,hk,h4,h5⟩:=a12 (by omega) h1
  refine .inr ⟨k,d,T,lc,hk,h4,?_,by rw [h3,h5,ab0 (by omega)]⟩
  unfold K8
  rw [← h5]
  omega
 have hmine : ∀ i b,m7 β (st.hp ++ U8 v (A3 L t)) i b → (i < st.hp.length ∧ m7 β0 st.hp i b) ∨ ∃ k d T lc,k < t ∧ L[k]? = some (.mk d T lc) ∧ i = K8 st L k ∧ b = β (K8 st L k):=by
  rintro i b ⟨x,hx,hb⟩
  rcases hnew i x hx with ⟨h1,h2⟩ | ⟨k,d,T,lc,h1,h2,h3,h4⟩
  ·exact .inl ⟨h1,x,h2,by rw [← h.old i h1]; exact hb⟩
  subst h4
  exact .inr ⟨k,d,T,lc,h1,h2,h3,by rw [← h3]; exact hb⟩
 have hlow : ∀ i b,m7 β0 st.hp i b → b < w00.heap.size:=fun i b hb=>(hS.mem.low i b hb).2
 have hMem0:=(hT.mem hS.mem h.ext).congr h.old
 refine ⟨⟨fun s=>?_,⟨?_,?_,?_,?_,?_⟩,by rw [List.length_append]; exact Nat.le_trans hS.agr.1 (Nat.le_add_right _ _),fun i hi=>(h.old i (Nat.lt_of_lt_of_le hi hS.agr.1)).trans (hS.agr.2 i hi)⟩,?_⟩
 ·rw [hlen2]
  exact bz2 hS (by omega) h (by omega) (Nat.le_refl _) (fun k g _ _ _=>⟨g,hall k g⟩) hc
 ·intro i T l' hi
  rw [hlen2]
  rcases hnew i _ hi with ⟨h1,h2⟩ | ⟨k,d,T',lc,h1,h2,h3,h4⟩
  ·obtain ⟨e1,e2⟩:=hMem0.blk i T l' h2
   exact ⟨e1,fun ch hch=>(e2 ch hch).le (by omega)⟩
  simp only [HE.blk.injEq] at h4
  obtain ⟨rfl,rfl⟩:=h4
  rw [h3]
  obtain ⟨_,_,lf,hC,h5⟩:=h.made k h1 (hall k h1) d T lc h2
  rw [hC.eq (by omega) (Nat.le_refl _) fun j l' hj _=>⟨fun _=>hj,fun _=>hall j hj⟩]
  exact h5 v β hc
 ·intro i T s x n cs hi
  rcases hnew i _ hi with ⟨h1,h2⟩ | ⟨k,d,T',lc,h1,h2,h3,h4⟩
  ·exact hMem0.row i T s x n cs h2
  cases h4
 ·intro i A hi
  rcases hnew i _ hi with ⟨h1,h2⟩ | ⟨k,d,T',lc,h1,h2,h3,h4⟩
  ·exact hMem0.abs i A h2
  cases h4
 ·intro i b hb
  rcases hmine i b hb with ⟨h1,h2⟩ | ⟨k,d,T',lc,h1,h2,h3,h4⟩
  ·exact ⟨(hS.mem.low i b h2).1,Nat.lt_of_lt_of_le (hS.mem.low i b h2).2 h.ext.size⟩
  obtain ⟨e1,e2,_⟩:=h.made k h1 (hall k h1) d T' lc h2
  have:=hw.size
  exact ⟨.inl (Nat.le_trans this (by omega)),by omega⟩
 ·intro i j b hi hj
  rcases hmine i b hi with ⟨h1,h2⟩ | ⟨k,d,T',lc,h1,h2,h3,h4⟩
  ·rcases hmine j b hj with ⟨h5,h6⟩ | ⟨k',d',T2,lc',h5,h6,h7,h8⟩
   ·exact hS.mem.apart i j b h2 h6
   ·have e1:=hlow i b h2
    have e2:=(h.made k' h5 (hall k' h5) d' T2 lc' h6).1
    omega
  ·rcases hmine j b hj with ⟨h5,h6⟩ | ⟨k',d',T2,lc',h5,h6,h7,h8⟩
   ·have e1:=hlow j b h6
    have e2:=(h.made k h1 (hall k h1) d T' lc h2).1
    omega
   have:=h.apart k k' h1 h5 (hall k h1) (hall k' h5) _ _ _ _ _ _ h2 h6 (h4.symm.trans h8)
   subst this
   rw [h3,h7]
 have hSof : ∀ b,b < w'.heap.size → SL c st t L β0 lst β b → Sof c.S0 β (st.hp ++ U8 v (A3 L t)) b:=by
  intro b _ q
  refine ⟨q.1.1,fun i hi=>?_⟩
  rcases hmine i b hi with ⟨h1,h2⟩ | ⟨k,d,T',lc,h1,h2,h3,h4⟩
  ·exact q.1.2 i h2
  exact q.2 k h1 (hall k h1) d T' lc h2 h4.symm
 refine d72 (G.mono h.gh hSof) fun n d p Δ r hd=>?_
 obtain ⟨k,hk,h4,h5⟩:=a12 (by omega) hd
 have h6:=(Δ (v k)).mono (h.spec k hk (hall k hk) d p Δ h4) hSof
 rw [h5,ab0 (by omega)]
 exact h6
theorem cc2 : ∀ {l : List HE} {b : Nat},cr6 l b = l.modify b HE.hide:=by
 intro l
 induction l with
 | nil=>intro b; cases b <;> rfl
 | cons x r ih=>intro b; cases b <;> simp [cr6,ih,List.modify_succ_cons]
theorem au8 : ∀ {l : List Nat},(am9 l hp).length = hp.length:=by
 intro l
 induction l with
 | nil=>rfl
 | cons b r ih=>simp [am9,cc2,ih]
theorem bs4 : bd1 hp = true → ∀ (i : Nat) (T : TypeId) (l : List Ch),hp[i]? ≠ some (HE.hid T l):=by
 induction hp with
 | nil=>intro _ i T l; simp
 | cons x r ih=>
  intro h i T l
  cases i with
  | zero=>cases x <;> simp_all [bd1]
  | succ i=>cases x <;> simp only [bd1] at h <;> first | (simpa using ih h i T l) | cases h
theorem ag0 : ∀ {l : List Nat} {i : Nat} {x : HE},(am9 l hp)[i]? = some x → hp[i]? = some x ∨ ∃ T c,x = .hid T c ∧ hp[i]? = some (.blk T c):=by
 intro l
 induction l with
 | nil=>intro i x h; exact .inl h
 | cons b r ih=>
  intro i x h
  simp only [am9,cc2,List.getElem?_modify,Option.map_eq_map] at h
  cases hy : (am9 r hp)[i]? with
  | none=>rw [hy] at h; simp at h
  | some y=>
   rw [hy] at h
   simp only [Option.map_some,Option.some.injEq] at h
   have h2:=ih hy
   split at h
   ·cases y with
    | blk T c=>
     simp only [HE.hide] at h
     subst h
     rcases h2 with h2 | ⟨_,_,h2,_⟩
     ·exact .inr ⟨T,c,rfl,h2⟩
     cases h2
    | row _ _ _ _ _=>simp only [HE.hide] at h; subst h; exact h2
    | gone=>simp only [HE.hide] at h; subst h; exact h2
    | abs _=>simp only [HE.hide] at h; subst h; exact h2
    | hid _ _=>simp only [HE.hide] at h; subst h; exact h2
   subst h; exact h2
theorem aq3 {l : List Nat} (i k : Nat) : m7 β (am9 l hp) i k → m7 β hp i k:=by
 rintro ⟨x,hx,hk⟩
 rcases ag0 hx with h | ⟨T,c,rfl,h⟩
 ·exact ⟨x,h,hk⟩
 exact ⟨_,h,hk⟩
theorem c66 {l : List Nat} (k : Nat) (h : Sof S0 β hp k) : Sof S0 β (am9 l hp) k:=⟨h.1,fun i hi=>h.2 i (aq3 i k hi)⟩
theorem Sat.hide {l : List Nat} (h : Sat base ⟨fr,hp⟩ β ρ w) : Sat base ⟨fr,am9 l hp⟩ β ρ w:=by
 refine ⟨fun d=>by rw [show (St.mk fr (am9 l hp)).hp.length = hp.length from au8]; exact h.fr d,⟨fun i T c hi=>?_,fun i T s v n cs hi=>?_,fun i A hi=>?_,fun i k hi=>h.mem.low i k (aq3 i k hi),fun i j k hi hj=>h.mem.apart i j k (aq3 i k hi) (aq3 j k hj)⟩,by rw [show (St.mk fr (am9 l hp)).hp.length = hp.length from au8]; exact h.agr.1,h.agr.2⟩
 ·rw [show (St.mk fr (am9 l hp)).hp.length = hp.length from au8]
  rcases ag0 hi with h1 | ⟨_,_,h1,_⟩
  ·exact h.mem.blk i T c h1
  cases h1
 ·rcases ag0 hi with h1 | ⟨_,_,h1,_⟩
  ·exact h.mem.row i T s v n cs h1
  cases h1
 rcases ag0 hi with h1 | ⟨_,_,h1,_⟩
 ·exact h.mem.abs i A h1
 cases h1
theorem Sat.fill {l : List Ch} {x : HE} (h : Sat base ⟨fr,hp⟩ β ρ w) (hb : hp[b]? = some x) (hx : ∀ k,x.mine (β b) k ↔ k = β b) (hB : Blk w (β b) T (d6 β l)) (hok : ∀ c ∈ l,c.Ok hp.length) :
  Sat base ⟨fr,Z9 hp b (.blk T l)⟩ β ρ w ∧ (Z9 hp b (.blk T l)).length = hp.length ∧ (∀ i k,m7 β (Z9 hp b (.blk T l)) i k ↔ m7 β hp i k) ∧ (∀ i x,hp[i]? = some x → (∀ k,x.mine (β i) k ↔ k = β i) → ∃ y,(Z9 hp b (.blk T l))[i]? = some y ∧ ∀ k,y.mine (β i) k ↔ k = β i):=by
 have hbl:=(List.getElem?_eq_some_iff.1 hb).1
 rw [O7]
 have hlen : (hp.set b (.blk T l)).length = hp.length:=by simp
 have hm : ∀ i k,m7 β (hp.set b (.blk T l)) i k ↔ m7 β hp i k:=by
  intro i k
  by_cases e : b = i
  ·subst e
   rw [U3 hb,U3 (List.getElem?_set_self hbl),hx]
   exact Iff.rfl
  unfold m7
  rw [List.getElem?_set_ne e]
 refine ⟨⟨fun d=>by rw [show (St.mk fr (hp.set b (.blk T l))).hp.length = hp.length from hlen]; exact h.fr d,⟨fun i T' l' hi=>?_,fun i T' s v n cs hi=>?_,fun i A hi=>?_,fun i k hi=>h.mem.low i k ((hm i k).1 hi),fun i j k hi hj=>h.mem.apart i j k ((hm i k).1 hi) ((hm j k).1 hj)⟩,by rw [show (St.mk fr (hp.set b (.blk T l))).hp.length = hp.length from hlen]; exact h.agr.1,h.agr.2⟩,hlen,hm,fun i y hy hyk=>?_⟩
 ·replace hi : (hp.set b (.blk T l))[i]? = some (.blk T' l'):=hi
  rw [show (St.mk fr (hp.set b (.blk T l))).hp.length = hp.length from hlen]
  by_cases e : b = i
  ·subst e
   rw [List.getElem?_set_self hbl] at hi
   cases hi
   exact ⟨hB,hok⟩
  rw [List.getElem?_set_ne e] at hi
  exact h.mem.blk i T' l' hi
 ·replace hi : (hp.set b (.blk T l))[i]? = some (.row T' s v n cs):=hi
  by_cases e : b = i
  ·subst e
   rw [List.getElem?_set_self hbl] at hi
   cases hi
  rw [List.getElem?_set_ne e] at hi
  exact h.mem.row i T' s v n cs hi
 ·replace hi : (hp.set b (.blk T l))[i]? = some (.abs A):=hi
  by_cases e : b = i
  ·subst e
   rw [List.getElem?_set_self hbl] at hi
   cases hi
  rw [List.getElem?_set_ne e] at hi
  exact h.mem.abs i A hi
 by_cases e : b = i
 ·subst e
  exact ⟨_,List.getElem?_set_self hbl,fun k=>Iff.rfl⟩
 exact ⟨y,by rw [List.getElem?_set_ne e]; exact hy,hyk⟩
theorem Sat.fills : ∀ {acc : List HRec},Sat base ⟨fr,hp⟩ β ρ w → (∀ b T l0 l,HRec.sto b T l0 l ∈ acc → (∃ x,hp[b]? = some x ∧ ∀ k,x.mine (β b) k ↔ k = β b) ∧ Blk w (β b) T (d6 β (l η)) ∧ ∀ c ∈ l η,c.Ok hp.length) →
  Sat base ⟨fr,U7 η acc hp⟩ β ρ w ∧ (U7 η acc hp).length = hp.length ∧ (∀ i k,m7 β (U7 η acc hp) i k ↔ m7 β hp i k) ∧ (∀ i x,hp[i]? = some x → (∀ k,x.mine (β i) k ↔ k = β i) → ∃ y,(U7 η acc hp)[i]? = some y ∧ ∀ k,y.mine (β i) k ↔ k = β i):=by
 intro acc
 induction acc with
 | nil=>intro h _; exact ⟨h,rfl,fun i k=>Iff.rfl,fun i x hx hk=>⟨x,hx,hk⟩⟩
 | cons r acc ih=>
  intro h hT
  obtain ⟨h1,h2,h3,h4⟩:=ih h fun b T l0 l hm=>hT b T l0 l (List.mem_cons_of_mem _ hm)
  cases r with
  | val d sv=>exact ⟨h1,h2,h3,h4⟩
  | mk d T l=>exact ⟨h1,h2,h3,h4⟩
  | spec d p Δ=>exact ⟨h1,h2,h3,h4⟩
  | st k l=>exact ⟨h1,h2,h3,h4⟩
  | same=>exact ⟨h1,h2,h3,h4⟩
  | sto b T l0 l=>
   obtain ⟨⟨x,hx,hk⟩,hB,hok⟩:=hT b T l0 l (List.mem_cons_self ..)
   obtain ⟨y,hy,hyk⟩:=h4 b x hx hk
   obtain ⟨q1,q2,q3,q4⟩:=h1.fill hy hyk hB (by rw [h2]; exact hok)
   refine ⟨q1,q2.trans h2,fun i k=>(q3 i k).trans (h3 i k),fun i x hx hk=>?_⟩
   obtain ⟨z,hz,hzk⟩:=h4 i x hx hk
   exact q4 i z hz hzk
theorem HInv.satS (hS : Sat c.bs st β0 ρ0 w00) (hT : TgOk st t L) (hw : Keeps c.K c.w0 w00) (hlen : L.length = t) (hM : M = st.hp.length + cnt (A3 L t)) (h : HInv c st G t M L β0 ρ0 w00 lst ρ' v β w') (hall : ∀ k,k < t → lst k) :
  Sat c.bs ⟨frH st (A3 L t) v,U7 v (A3 L t) (st.hp ++ U8 v (A3 L t))⟩ β ρ' w' ∧ (ar2 G v (A3 L t)).p (Sof c.S0 β (U7 v (A3 L t) (st.hp ++ U8 v (A3 L t)))) w':=by
 obtain ⟨h1,h2⟩:=h.sat hS hT hw hlen hM hall
 have hlen2 : (st.hp ++ U8 v (A3 L t)).length = M:=by rw [List.length_append,dd6,hM]
 obtain ⟨q1,q2,q3,_⟩:=Sat.fills (η:=v) (acc:=A3 L t) h1 fun b T l0 l hm=>by
  obtain ⟨k,hk⟩:=List.mem_iff_getElem?.1 (List.mem_reverse.1 hm)
  rw [List.getElem?_take] at hk
  split at hk
  ·rename_i hkt
   obtain ⟨e1,e2⟩:=hT k b T l0 l hkt hk
   have hbl:=(List.getElem?_eq_some_iff.1 e1).1
   obtain ⟨e3,e4⟩:=(h.sto k hkt b T l0 l hk).2 (hall k hkt) v β h.comp
   have e5:=h.old b hbl
   refine ⟨⟨.hid T l0,by rw [List.getElem?_append_left hbl]; exact e1,fun g=>Iff.rfl⟩,by rw [e5]; exact e3,fun ch hch=>?_⟩
   rw [hlen2]
   exact e4 ch hch
  cases hk
 exact ⟨q1,(ar2 G v (A3 L t)).mono h2 fun k _ hk=>⟨hk.1,fun i hi=>hk.2 i ((q3 i k).1 hi)⟩⟩
end
theorem dl6 {ρ : Operand → Value} {o : Op} {l : List Ch} {s : SV} (hE : EnvOk P E) (hk : ah6 β m fr ρ o) (h : cg9 E fr k o = some (.mk T l s)) :
  (∀ c ∈ l,c.Ok m) ∧ ∀ d pos aft g,(execOp ρ ⟨d,o,ty,pos,aft,g⟩).run P w = .ok (.value (.pointer (some ⟨w.heap.size,0,none⟩))) (w.alloc (.cells (d6 β l).toArray T)):=by
 unfold cg9 at h
 split at h
 ·obtain ⟨rfl,rfl,h1,h2⟩:=bc7 (P:=P) (m:=m) (β:=β) (w:=w) (ρ:=ρ) (ty:=ty) hE (L8 h).1
  exact ⟨h1,h2⟩
 ·rename_i T' x
  obtain ⟨rfl,rfl,h1,h2⟩:=bs5 (P:=P) (w:=w) (ty:=ty) (hk x (by simp [Op.operands])) (L8 h).1
  exact ⟨h1,h2⟩
 cases h
def I8 (o : Out) : List Oper:=match o.cur with | .code (.region _ ops _)=>ops.toList | _=>[]
def cr1 (l : List Oper) (t : Nat) : Bool:=
 a38 [] 0 (l.take t) && a74 (l.take t) && Nat.ble t l.length && (Nat.beq t l.length || Region.sinkB .any l.toArray t) && Region.chainB .any l.toArray t && Region.seqB .any l.toArray (l.length - t) t (B7 t l.length)
def a29 (o : Out) (t : Nat) : Bool:=match o.cur with | .code (.region _ ops d)=>d && bd1 o.st.hp && cr1 ops.toList t | _=>false
def ao0 (bs : List Nat) (st : St) : St:=⟨st.fr,am9 bs st.hp⟩
theorem b52 : ∀ {acc : List HRec},ch4 (ae6 acc) b = false → ∀ T l0 l,HRec.sto b T l0 l ∉ acc:=by
 intro acc
 induction acc with
 | nil=>intro _ T l0 l h; cases h
 | cons r acc ih=>
  intro h T l0 l hm
  rcases List.mem_cons.1 hm with e | hm
  ·subst e
   simp only [ae6,ch4,Nat.beq_refl,cond_true] at h
   cases h
  refine ih ?_ T l0 l hm
  cases r <;> first | exact h | skip
  rename_i b' T' l0' l'
  simp only [ae6,ch4] at h
  cases hb : Nat.beq b' b with
  | true=>rw [hb] at h; cases h
  | false=>rw [hb] at h; exact h
theorem dk4 [Rd] (bs : List Nat) (t : Nat) (hmo : c.P.follows .mixedOrders = true) (hc : c.Ok) (hd : a29 o t = true)
  (h : Hd c (ao0 bs o.st) G (I8 o) (fun acc=>∀ η,Run c ⟨.ops (I8 o) ((I8 o).drop t),o.k,⟨frH (ao0 bs o.st) acc η,U7 η acc ((ao0 bs o.st).hp ++ U8 η acc)⟩,[]⟩ (ar2 G η acc)) [] ((I8 o).take t)) : Run c o G:=by
 refine ⟨fun β0 ρ w hS0 hw0 hG0=>?_⟩
 obtain ⟨cur,k,st0,vc⟩:=o
 unfold a29 at hd
 cases cur with
 | ops all r=>cases hd
 | ex e=>cases hd
 | code x=>
 cases x with
 | region id ops d=>
  simp only [Bool.and_eq_true] at hd
  obtain ⟨⟨rfl,hnh⟩,hchk⟩:=hd
  have e0 : I8 ⟨.code (.region id ops true),k,st0,vc⟩ = ops.toList:=rfl
  rw [e0] at h
  replace h:=h.run
  show WqC c.P c.n (.region id ops true) (kQ c.P c.n c.Q k) ρ w
  rw [show ops = ops.toList.toArray by simp]
  generalize ops.toList = l at h hchk
  simp only [cr1,Bool.and_eq_true,Bool.or_eq_true] at hchk
  obtain ⟨⟨⟨⟨⟨c1,c2⟩,c3⟩,c4⟩,c5⟩,c6⟩:=hchk
  have htl : t ≤ l.length:=Nat.le_of_ble_eq_true c3
  have htk : (l.take t).length = t:=by rw [List.length_take]; omega
  obtain ⟨L,hL,hK,hO⟩:=dr9 _ _ h
  rw [htk] at hL
  simp only [List.append_nil] at hK hO
  have hfull : A3 L t = L.reverse:=by unfold A3; rw [List.take_of_length_le (by omega)]
  have hget : ∀ k (hk : k < t),(l.take t)[k]'(by omega) = l[k]:=fun k hk=>by simp
  have hHd0:=a31 _ _ _ c1
  have hHd : ∀ k (hk : k < t),HOkR (((List.range k).map fun j=>(0 + j,((l.take t)[j]?.bind (·.dst)))).reverse ++ []) (0 + k) ((l.take t)[k]'(by omega)):=fun k hk=>hHd0 k (by omega)
  have hLt:=ar6 _ c2
  unfold WqC
  intro hcd D act hmt
  simp only [G5,List.all_eq_true] at hcd
  have hall' : l.all (ae7 c.n) = true:=List.all_eq_true.2 fun o ho=>hcd o (by simpa using ho)
  refine Go.wpIn_region_any hmo ?_
  have hd1 : Ext w { w with drawn:=w.drawn + 1 }:=a44 w
  have hsz : l.toArray.size = t + (l.length - t):=by simp; omega
  have hS1:=hS0.to hd1
  have hw:=hw0.trans (.of hd1)
  have hG1:=G.keep hG0 (.of hd1)
  generalize hw1 : ({ w with drawn:=w.drawn + 1 } : World) = w1 at hS1 hw hG1
  have hS : Sat c.bs (ao0 bs st0) β0 ρ w1:=Sat.hide hS1
  have hG : G.p (Sof c.S0 β0 (ao0 bs st0).hp) w1:=G.mono hG1 fun k _ h=>c66 k h
  have hB0 : ∀ (b : Nat) (T : TypeId) (l0 : List Ch),(ao0 bs st0).hp[b]? = some (HE.hid T l0) → Blk w1 (β0 b) T (d6 β0 l0):=fun b T l0 hb=>by
   rcases ag0 hb with h1 | ⟨T',c',h1,h2⟩
   ·exact absurd h1 (bs4 hnh b T l0)
   cases h1
   exact (hS1.mem.blk b T l0 h2).1
  have hok0 : ∀ (b : Nat) (T : TypeId) (l0 : List Ch),(ao0 bs st0).hp[b]? = some (HE.hid T l0) → ∀ ch ∈ l0,ch.Ok (ao0 bs st0).hp.length:=fun b T l0 hb=>by
   rcases ag0 hb with h1 | ⟨T',c',h1,h2⟩
   ·exact absurd h1 (bs4 hnh b T l0)
   cases h1
   rw [show (ao0 bs st0).hp.length = st0.hp.length from au8]
   exact (hS1.mem.blk b T l0 h2).2
  clear hS1 hG1
  dsimp only at h hK hO
  generalize ao0 bs st0 = st at h hS hG hB0 hok0 hK hO
  have hrec : ∀ k (hk : k < t),∃ h,L[k]? = some h ∧ l[k].dst = h.d ∧ (∀ d,h.d = some d → Nat.blt d c.n = true) ∧ Loc c st G l (A3 L k) l[k] h:=by
   intro k hk
   obtain ⟨h,h1,h2⟩:=hO k (by omega)
   rw [hget k hk] at h2
   have h3 : l[k].dst = h.d:=by cases h <;> exact h2.1
   have h4:=hcd l[k] (by simp)
   refine ⟨h,h1,h3,fun d hd=>?_,h2⟩
   rw [hd] at h3
   have h5:=(J9 h4).1
   simpa [aa5,h3] using h5
  have hT : TgOk st t L:=by
   intro k b T l0 lf hk hg
   obtain ⟨h',h1,_,_,h2⟩:=hrec k hk
   rw [h1] at hg
   cases hg
   obtain ⟨_,h3,h4,_⟩:=h2
   rw [O9] at h4
   refine ⟨h4,fun k' T' l0' l' hk' hg'=>?_⟩
   have mem : ∀ j m,j < m → m ≤ L.length → ∀ r,L[j]? = some r → r ∈ A3 L m:=fun j m hjm hm r hr=>by
    rw [List.mem_reverse]
    refine List.mem_of_getElem? (i:=j) ?_
    rw [List.getElem?_take,if_pos hjm]
    exact hr
   rcases Nat.lt_trichotomy k' k with h | h | h
   ·exact absurd (mem k' k h (by omega) _ hg') (b52 h3 _ _ _)
   ·exact h
   obtain ⟨h',h5,_,_,h6⟩:=hrec k' hk'
   rw [h5] at hg'
   cases hg'
   exact absurd (mem k k' h (by omega) _ h1) (b52 h6.2.1 _ _ _)
  have hkp : ∀ {w' : World},Keeps (NTg t L β0) w1 w' → Keeps c.K c.w0 w':=fun kk=>Keeps.behind hw kk fun i hi hK k b T l0 lf hk hs e=>by
   have h1:=(hS.mem.low b _ (hT.mine hk hs)).1
   rw [← e] at h1
   rcases h1 with h1 | h1
   ·have h2 : c.w0.heap.size ≤ i:=h1
    omega
   exact h1 hK
  have hdk : ∀ k (hk : k < t) h,L[k]? = some h → l[k].dst = h.d:=by
   intro k hk h hh
   obtain ⟨h',h1,h2,_⟩:=hrec k hk
   rw [h1] at hh
   cases hh
   exact h2
  have hapart : ∀ j k (hj : j < t) (hk : k < t) d,j < k → l[j].dst = some d → l[k].dst ≠ some d:=by
   intro j k hj hk d hjk hd hd2
   have hne:=(hHd k hk).dst d (by rw [hget k hk,hd2])
   refine hne (0 + j,((l.take t)[j]?.bind (·.dst))) ?_ ?_
   ·refine List.mem_append_left _ (List.mem_reverse.2 (List.mem_map.2 ⟨j,List.mem_range.2 hjk,rfl⟩))
   rw [List.getElem?_eq_getElem (by omega)]
   simp only [Option.bind_some,hget j hj,hd]
  have huniq : ∀ j k (hj : j < t) (hk : k < t) d,l[j].dst = some d → l[k].dst = some d → j = k:=by
   intro j k hj hk d h1 h2
   rcases Nat.lt_trichotomy j k with h | h | h
   ·exact absurd h2 (hapart j k hj hk d h h1)
   ·exact h
   exact absurd h1 (hapart k j hk hj d h h2)
  let M:=st.hp.length + cnt (A3 L t)
  have hMle : st.hp.length ≤ M:=Nat.le_add_right _ _
  let lsd : Array Bool → Nat → Prop:=fun listed k=>listed.getD k false = true
  let Inv : Array Bool → Act → World → Prop:=fun listed a w'=>∃ ρ' v β,MtI c.n D a ρ' ∧ HInv c st G t M L β0 ρ w1 (lsd listed) ρ' v β w'
  have fin : ∀ listed a w',HeadInv .any l.toArray t listed → unl listed t = 0 → Inv listed a w' → wpAnyIn RF 0 c.P .any l.toArray (ax7 c.n D (kQ c.P c.n c.Q k)) (l.length - t) listed a w':=by
   rintro listed a w' inv h0 ⟨ρ',v,β,hm',hI⟩
   have hz:=a41 h0
   have hcan : listed = B7 t l.length:=by
    refine Array.ext (by rw [inv.size]; simp [B7]) fun i h1 h2=>?_
    have hsz2:=inv.size
    have hil : i < l.length:=by simpa [hsz2] using h1
    by_cases hit : i < t
    ·have h3:=hz i hit
     simp only [Array.getD,h1,dite_true] at h3
     have h4 : listed[i] = true:=h3
     simp [B7,h4,hit]
    have h3:=inv.tail i (by omega) (by simpa using hil)
    simp only [Array.getD,h1,dite_true] at h3
    have h4 : listed[i] = false:=h3
    simp [B7,h4]
    omega
   obtain ⟨hs1,hs2⟩:=hI.satS hS hT hw hL rfl fun k hk=>hz k hk
   have hrun:=(hK v).run β ρ' w' (by rw [hfull] at hs1; exact hs1) (hkp hI.ext) (by rw [hfull] at hs2; exact hs2)
   have hrun' : WqR c.P c.n l (kQ c.P c.n c.Q k) (l.drop t) ρ' w':=hrun
   unfold WqR at hrun'
   have hlen : (l.drop t).length = l.length - t:=by simp
   rw [← hlen]
   refine at7 (l.drop t) t listed a w' (fun j=>by simp) ?_ (hrun' hall' ?_ _ a hm')
   ·rw [hcan,hlen]; exact c6
   rw [List.all_eq_true]
   intro o ho
   exact hcd o (by simpa using List.mem_of_mem_drop ho)
  have key : ∀ f listed a w',HeadInv .any l.toArray t listed → unl listed t = f → Inv listed a w' → wpAnyIn RF 0 c.P .any l.toArray (ax7 c.n D (kQ c.P c.n c.Q k)) (f + (l.length - t)) listed a w':=by
   intro f
   induction f with
   | zero=>intro listed a w' inv h0 hI; rw [Nat.zero_add]; exact fin listed a w' inv h0 hI
   | succ f ih=>
    intro listed a w' inv hf hI
    rw [show f + 1 + (l.length - t) = (f + (l.length - t)) + 1 by omega]
    obtain ⟨i0,hi0,hl0,hlow⟩:=bb8 (show unl listed t ≠ 0 by omega)
    have hsz2:=inv.size
    have hsz3 : listed.size = l.length:=by simpa using hsz2
    have hr0 : i0 ∈ Region.ready .any l.toArray listed:=by
     rw [mem_ready]
     refine ⟨getD_in (by omega) hl0,l[i0],by simp,fun e he hb=>hlow _ ?_⟩
     have:=(hHd i0 hi0).low e (by rw [hget i0 hi0]; exact he) hb
     omega
    refine ⟨fun he=>absurd (he ▸ hr0) (by simp),fun i hi=>?_⟩
    have hit : i < t:=by
     rcases Nat.lt_or_ge i t with h | h
     ·exact h
     ·rcases c4 with c4 | c4
      ·have e:=Nat.eq_of_beq_eq_true c4
       obtain ⟨_,oi,hoi,_⟩:=mem_ready.1 hi
       have h2:=(Array.getElem?_eq_some_iff.1 hoi).1
       simp at h2
       omega
      ·have htl2 : t < l.length:=by
        obtain ⟨_,oi,hoi,_⟩:=mem_ready.1 hi
        have h2:=(Array.getElem?_eq_some_iff.1 hoi).1
        simp at h2
        omega
       exact absurd hi (tail_waits c4 c5 (by simpa using htl2) inv _ i0 rfl hi0 (mem_ready.1 hr0).1 i h)
    obtain ⟨hun,oi,hoi,hdep⟩:=mem_ready.1 hi
    have hoi' : l[i] = oi:=by simpa [hit,show i < l.length by omega] using hoi
    obtain ⟨ρ',v,β,hm',hI⟩:=hI
    obtain ⟨hr,h1,h2,h3,h4⟩:=hrec i hit
    have hH:=hHd i hit
    rw [hget i hit] at hH
    have hnl : ¬ lsd listed i:=fun e=>by
     have:=getD_both hun
     have e' : listed.getD i false = true:=e
     rw [this] at e'
     cases e'
    have hdl : ∀ k,E9 l[i].after.toList k = true → lsd listed k:=by
     intro k hk
     obtain ⟨ed,h5,h6,h7⟩:=ao6 hk
     rw [← h7]
     exact hdep ed (by rw [← hoi']; exact Array.mem_toList_iff.1 h5) h6
    have hwait : ∀ k (hk : k < t),k < i → ∀ s,l[k].dst = some s → (s ∈ L9 l[i] ∨ ∃ b,l[i].guard = some (k,b)) → lsd listed k:=by
     intro k hk hki s hks hor
     have h5:=hH.deps (0 + k,((l.take t)[k]?.bind (·.dst))) (List.mem_append_left _ (List.mem_reverse.2 (List.mem_map.2 ⟨k,List.mem_range.2 hki,rfl⟩))) s (by
      rw [List.getElem?_eq_getElem (by omega)]
      simp only [Option.bind_some,hget k hk,hks])
     rcases h5 with h5 | h5
     ·exact hdl k (by simpa using h5)
     rcases hor with h6 | ⟨b,h6⟩
     ·exact absurd h6 h5.1
     exact absurd (by omega) (h5.2 k b h6)
    have hslot : ∀ s,s ∈ L9 l[i] → ∀ k,k < t → ∀ h,L[k]? = some h → h.d = some s → k < i ∧ lsd listed k:=by
     intro s hso k hk h hh he
     have hks:=(hdk k hk h hh).trans he
     have hki : k < i:=by
      rcases Nat.lt_or_ge k i with h' | h'
      ·exact h'
      have:=hLt i k (by omega) (by omega) h' s (by rw [hget k hk]; exact hks)
      rw [hget i hit] at this
      exact absurd hso this
     exact ⟨hki,hwait k hk hki _ hks (.inl hso)⟩
    have hgslot : ∀ j b,l[i].guard = some (j,b) → ∀ g,H4 l j = some g → ∀ k,k < t → ∀ h,L[k]? = some h → h.d = some g → k < i ∧ lsd listed k:=by
     intro j b hg g hgd k hk h hh he
     have hks:=(hdk k hk h hh).trans he
     have hji:=hH.guard j b hg
     have hjt : j < t:=by omega
     have hjs : l[j].dst = some g:=by
      unfold H4 at hgd
      rw [List.getElem?_eq_getElem (by omega)] at hgd
      simpa using hgd
     obtain rfl:=huniq k j hk hjt _ hks hjs
     exact ⟨by omega,hwait k hk (by omega) _ hks (.inr ⟨b,hg⟩)⟩
    have hkn : ∀ {η' β'},Comp st t L β0 (lsd listed) v β η' β' → ah6 β' M (frH st (A3 L i) η') (ev ρ') l[i].op:=by
     intro η' β' hcp x hx
     refine ai2 fun s hxs=>bz2 hS hMle hI (by omega) (by omega) (hslot s ?_) hcp
     subst hxs
     exact List.mem_filterMap.2 ⟨.tmp s,hx,rfl⟩
    have hgk : ∀ {η' β'},Comp st t L β0 (lsd listed) v β η' β' → ∀ j b,l[i].guard = some (j,b) → ∀ g,H4 l j = some g → Kn β' M (J8 (frH st (A3 L i) η') g) (ρ' g):=by
     intro η' β' hcp j b hg g hgd
     exact bz2 hS hMle hI (by omega) (by omega) (hgslot j b hg g hgd) hcp
    have hdeps : ∀ {η' β'},Comp st t L β0 (lsd listed) v β η' β' → depsH (A3 L i) l[i].after.toList η' (SL c st t L β0 (lsd listed) β) w':=by
     refine fun {η' β'} hcp=>⟨fun j hj=>?_⟩
     refine d32 fun n d p Δ r hdr hrl=>?_
     obtain ⟨k,hk,h5,h6⟩:=a12 (by omega) hdr
     have hkj : k = j:=by rw [← hrl,h6,ab0 (by omega)]
     subst hkj
     have hlk:=hdl k hj
     rw [hcp.res k (by omega) hlk d p Δ h5]
     exact hI.spec k (by omega) hlk d p Δ h5
    have hSL0 : ∀ b,SL c st t L β0 (lsd listed) β b → c.S0 b:=fun b q=>q.1.1
    have hw':=hkp hI.ext
    have hcv:=hI.comp
    have hu : ∀ d,hr.d = some d → ∀ k,k < t → ∀ h,L[k]? = some h → h.d = some d → k = i:=fun d hd k hk h hh he=>huniq k i hk hit d ((hdk k hk h hh).trans he) (h2.trans hd)
    have hset : lsd (listed.setIfInBounds i true) = fun k=>k = i ∨ lsd listed k:=by
     funext k
     refine propext ⟨fun q=>?_,fun q=>?_⟩
     ·by_cases e : k = i
      ·exact .inl e
      refine .inr ?_
      have q' : (listed.setIfInBounds i true).getD k false = true:=q
      rw [getD_set_ne false (fun e'=>e e'.symm)] at q'
      exact q'
     show (listed.setIfInBounds i true).getD k false = true
     by_cases e : i = k
     ·subst e
      simp [show i < listed.size by omega]
     rw [getD_set_ne false e]
     rcases q with e' | q
     ·exact absurd e'.symm e
     exact q
    have hnext0 : ∀ x ρ2 w2 v2 β2,MtI c.n D (a.put l[i].dst x) ρ2 → HInv c st G t M L β0 ρ w1 (fun k=>k = i ∨ lsd listed k) ρ2 v2 β2 w2 → wpAnyIn RF 0 c.P .any l.toArray (ax7 c.n D (kQ c.P c.n c.Q k)) (f + (l.length - t)) (listed.setIfInBounds i true) (a.put l[i].dst x) w2:=by
     intro x ρ2 w2 v2 β2 hm2 hI2
     refine ih _ _ _ (inv.set hi hit) ?_ ⟨ρ2,v2,β2,hm2,hset ▸ hI2⟩
     rw [b00 (by omega) (getD_both hun),if_pos hit]; omega
    have hnext : ∀ d,hr.d = some d → ∀ x w2 v2 β2,HInv c st G t M L β0 ρ w1 (fun k=>k = i ∨ lsd listed k) (upd ρ' d x) v2 β2 w2 → wpAnyIn RF 0 c.P .any l.toArray (ax7 c.n D (kQ c.P c.n c.Q k)) (f + (l.length - t)) (listed.setIfInBounds i true) (a.put l[i].dst x) w2:=by
     intro d hd x w2 v2 β2 hI2
     refine hnext0 x _ w2 v2 β2 ?_ hI2
     rw [h2,hd]
     exact hm'.put (h3 d hd) x
    have hio : (l.toArray)[i]? = some l[i]:=by simp
    have hnd : av7 l[i] = true ∧ di4 c.n l[i] = true:=(J9 (hcd l[i] (by simp))).2
    unfold wpOpIn
    simp only [hio]
    cases hr with
    | val d sv=>
     obtain ⟨_,hv1⟩:=h4
     have hall : ∀ {η' β'},Comp st t L β0 (lsd listed) v β η' β' → (sv η').Ok M ∧ ((Region.wanted l[i] (yielded l.toArray a.tmps) = true ∧ (execOp (ev ρ') l[i]).run c.P w' = .ok (.value ((sv η').den β')) w') ∨ (Region.wanted l[i] (yielded l.toArray a.tmps) = false ∧ (sv η').den β' = undef)):=by
      intro η' β' hcp
      obtain ⟨s,vc',h5,h6⟩:=hv1 η'
      obtain ⟨h7,h8⟩:=h6 _ w' hw' hSL0 hI.gh (hdeps hcp)
      have hMm : Mem c.bs st.hp β' w':=(hT.mem hS.mem hI.ext).congr hcp.old
      obtain ⟨h9,h10⟩:=do1 hc.env hMle hall' hm' hMm (hkn hcp) (hgk hcp) h5 h7
      obtain ⟨e1,e2⟩:=h8 β'
      rw [e1] at h10
      exact ⟨e2 M h9,h10⟩
     obtain ⟨g1,g2⟩:=hall hcv
     rcases g2 with ⟨g2,g3⟩ | ⟨g2,g3⟩
     ·rw [if_pos g2]
      refine ⟨fun f _=>ad8 f,?_⟩
      rw [H0 hnd.1,hm'.exec hnd.2,g3]
      refine hnext d rfl _ w' v β (hI.put hit h1 (hu d rfl) fun η' β' hcp=>?_)
      obtain ⟨g4,g5⟩:=hall hcp
      refine ⟨?_,g4⟩
      rcases g5 with ⟨_,g5⟩ | ⟨g5,_⟩
      ·rw [g3] at g5
       simpa using g5
      rw [g2] at g5; cases g5
     rw [if_neg (by rw [g2]; simp)]
     refine ⟨fun f _=>ad8 f,?_⟩
     have g6:=hnext d rfl undef w' v β (hI.put hit h1 (hu d rfl) fun η' β' hcp=>?_)
     ·exact g6
     obtain ⟨g4,g5⟩:=hall hcp
     refine ⟨?_,g4⟩
     rcases g5 with ⟨g5,_⟩ | ⟨_,g5⟩
     ·rw [g2] at g5; cases g5
     exact g5.symm
    | mk d T lc=>
     obtain ⟨_,hv1⟩:=h4
     have hall : ∀ {η' β'},Comp st t L β0 (lsd listed) v β η' β' → (∀ ch ∈ lc η',ch.Ok M) ∧ (execOp (ev ρ') l[i]).run c.P w' = .ok (.value (.pointer (some ⟨w'.heap.size,0,none⟩))) (w'.alloc (.cells (d6 β' (lc η')).toArray T)):=by
      intro η' β' hcp
      obtain ⟨g1,g2⟩:=dl6 (P:=c.P) (w:=w') (ty:=l[i].type) hc.env (hkn hcp) (hv1 η').2
      exact ⟨g1,g2 _ _ _ _⟩
     obtain ⟨g1,g2⟩:=hall hcv
     rw [if_pos (ad7 hall' hm' (hgk hcv) (hv1 v).1)]
     refine ⟨fun f _=>ad8 f,?_⟩
     rw [H0 hnd.1,hm'.exec hnd.2,g2]
     refine hnext d rfl _ _ v _ (hI.new hS hL hit hnl h1 (hu d rfl) ?_ fun η' β' hcp=>?_)
     ·have:=ci2 (L:=L) (i:=t) (by omega) hit h1
      show st.hp.length + cnt (A3 L i) < st.hp.length + cnt (A3 L t)
      omega
     obtain ⟨g3,g4⟩:=hall hcp
     refine ⟨?_,g3⟩
     rw [g2] at g4
     simp only [Result.ok.injEq,true_and] at g4
     have g5:=congrArg (fun w : World=>w.heap[w'.heap.size]?) g4
     simp only [heap_alloc_new] at g5
     simpa using g5
    | st k0 lv=>
     obtain ⟨hdn,he0,hprev,d0,T0,lc0,hmk0,hv1⟩:=h4
     have hki : k0 < i:=by
      have h5:=(List.getElem?_eq_some_iff.1 hmk0).1
      simp at h5
      omega
     have hback : ∀ j,j < i → (A3 L i).reverse[j]? = L[j]?:=fun j hj=>by
      unfold A3
      rw [List.reverse_reverse,List.getElem?_take,if_pos hj]
     have hL0 : L[k0]? = some (.mk d0 T0 lc0):=by rw [← hback k0 hki]; exact hmk0
     have hlk:=hdl k0 he0
     have hord : ∀ j l',j < t → L[j]? = some (HRec.st k0 l') → (lsd listed j ↔ j < i):=by
      intro j l' hj hg
      refine ⟨fun hlj=>?_,fun hji=>hdl j (hprev j l' (by rw [hback j hji]; exact hg))⟩
      rcases Nat.lt_trichotomy j i with h | h | h
      ·exact h
      ·exact absurd (h ▸ hlj) hnl
      exact absurd ((hI.stl j hj hlj k0 l' hg).2 i lv h h1) hnl
     have hdrop : (A3 L i).drop ((A3 L i).length - k0) = A3 L k0:=by
      have h5:=az6 (by omega) hki hL0
      rw [ab0 (by omega)]
      have h6:=congrArg (List.drop 1) h5
      rw [List.drop_drop] at h6
      rw [show i - k0 = i - 1 - k0 + 1 by omega]
      simpa using h6
     obtain ⟨m1,m2,lf,hC,m3⟩:=hI.made k0 (by omega) hlk d0 T0 lc0 hL0
     have hcur:=hC.eq (show i ≤ L.length by omega) (by omega) hord
     have hidx : K8 st L k0 = st.hp.length + cnt (A3 L k0):=rfl
     have hall : ∀ {η' β'},Comp st t L β0 (lsd listed) v β η' β' → (∀ ch ∈ lv η',ch.Ok M) ∧ ∃ w2,Wrt (β (K8 st L k0)) w' w2 ∧ Blk w2 (β (K8 st L k0)) T0 (d6 β' (lv η')) ∧ (execOp (ev ρ') l[i]).run c.P w' = .ok .skip w2:=by
      intro η' β' hcp
      obtain ⟨b1,b2⟩:=m3 η' β' hcp
      have e1 : β' (K8 st L k0) = β (K8 st L k0):=hcp.blk k0 (by omega) hlk d0 T0 lc0 hL0
      have h5:=(hv1 η').2
      rw [hcur,hdrop,← hidx] at h5
      obtain ⟨g1,w2,g2,g3,g4⟩:=ca3 (P:=c.P) (ty:=l[i].type) hc.env (hkn hcp) b2 (e1 ▸ b1) h5
      rw [e1] at g2 g3
      exact ⟨g1,w2,g2,g3,g4 _ _ _ _⟩
     obtain ⟨g1,w2,g2,g3,g4⟩:=hall hcv
     rw [if_pos (ad7 hall' hm' (hgk hcv) (hv1 v).1)]
     refine ⟨fun f _=>ad8 f,?_⟩
     rw [H0 hnd.1,hm'.exec hnd.2,g4]
     refine hnext0 undef ρ' w2 v β (by rw [h2]; exact hm') (hI.store hS hT hit (by omega) hlk h1 hL0 hord g2 fun η' β' hcp=>?_)
     obtain ⟨g5,w3,g6,g7,g8⟩:=hall hcp
     rw [g4] at g8
     simp only [Result.ok.injEq,true_and] at g8
     subst g8
     exact ⟨g7,g5⟩
    | sto b T0 l0 lv=>
     obtain ⟨hdn,hmn,hnt,hv1⟩:=h4
     have hm:=hT.mine (β0:=β0) hit h1
     have hb0:=((hI.sto i hit b T0 l0 lv h1).1 hnl)
     have hbl : b < st.hp.length:=(List.getElem?_eq_some_iff.1 (hT i b T0 l0 lv hit h1).1).1
     have hall : ∀ {η' β'},Comp st t L β0 (lsd listed) v β η' β' → (∀ ch ∈ lv η',ch.Ok M) ∧ ∃ w2,Wrt (β0 b) w' w2 ∧ Blk w2 (β0 b) T0 (d6 β' (lv η')) ∧ (execOp (ev ρ') l[i]).run c.P w' = .ok .skip w2:=by
      intro η' β' hcp
      have e1 : β' b = β0 b:=hcp.old b hbl
      have hb1 : Blk w' (β' b) T0 (d6 β' l0):=by
       rw [e1,K6 (m:=st.hp.length) hcp.old (hok0 b T0 l0 (hT i b T0 l0 lv hit h1).1)]
       exact hb0
      obtain ⟨g1,w2,g2,g3,g4⟩:=ca3 (P:=c.P) (ty:=l[i].type) hc.env (hkn hcp) (fun ch hch=>(hok0 b T0 l0 (hT i b T0 l0 lv hit h1).1 ch hch).le hMle) hb1 (hv1 η').2
      rw [e1] at g2 g3
      exact ⟨g1,w2,g2,g3,g4 _ _ _ _⟩
     obtain ⟨g1,w2,g2,g3,g4⟩:=hall hcv
     rw [if_pos (ad7 hall' hm' (hgk hcv) (hv1 v).1)]
     refine ⟨fun f _=>ad8 f,?_⟩
     rw [H0 hnd.1,hm'.exec hnd.2,g4]
     refine hnext0 undef ρ' w2 v β (by rw [h2]; exact hm') (hI.stoT hS hT hit h1 g2 fun η' β' hcp=>?_)
     obtain ⟨g5,w3,g6,g7,g8⟩:=hall hcp
     rw [g4] at g8
     simp only [Result.ok.injEq,true_and] at g8
     subst g8
     exact ⟨g7,g5⟩
    | same=>
     obtain ⟨hdn,hv1⟩:=h4
     obtain ⟨g1,g2⟩:=hv1 v
     have g4:=g2 β ρ' w' M (hkn hcv) ((hT.mem hS.mem hI.ext).congr hcv.old)
     rw [if_pos (ad7 hall' hm' (hgk hcv) g1)]
     refine ⟨fun f _=>ad8 f,?_⟩
     rw [H0 hnd.1,hm'.exec hnd.2,g4]
     exact hnext0 undef ρ' w' v β (by rw [h2]; exact hm') (hI.same h1)
    | spec d p Δ=>
     obtain ⟨_,hv1⟩:=h4
     obtain ⟨g1,g2⟩:=hv1 v
     have hup : Up (SL c st t L β0 (lsd listed) β) w':=fun b hb=>⟨⟨hc.up b (Nat.le_trans hw'.size hb),fun j hj=>by
       have q1:=(hS.mem.low j b hj).2
       have q2:=hI.ext.size
       omega⟩,fun j hj hlj d' T lc hg=>by
       have q1:=(hI.made j hj hlj d' T lc hg).2.1
       omega⟩
     have g3:=g2 β _ w' ρ' M (hkn hcv) hup ((hT.mem hS.mem hI.ext).congr hcv.old) hSL0 hw' hI.gh (hdeps hcv)
     rw [if_pos (ad7 hall' hm' (hgk hcv) g1)]
     refine ⟨fun f _=>ad8 f,?_⟩
     rw [H0 hnd.1,hm'.exec hnd.2]
     unfold b77 at g3
     split at g3
     ·rename_i x w2 hx
      rw [hx]
      obtain ⟨q1,q2,q3,q4⟩:=g3
      exact hnext d rfl x w2 _ β (hI.res hit hnl h1 (hu d rfl) q1 q2 q3 q4)
     ·rename_i f' args w2 hx
      rw [hx]
      refine ⟨au2,ao8 ?_⟩
      unfold GivesE at g3
      rw [Array.toArray_toList] at g3
      refine Calls.mono g3 fun e w3 he=>?_
      cases e with
      | returned x=>
       obtain ⟨q1,q2,q3,q4⟩:=he
       exact hnext d rfl x w3 _ β (hI.res hit hnl h1 (hu d rfl) q1 q2 q3 q4)
      | panicked ch=>exact ⟨ρ',hm',a61 (he ρ')⟩
      | outgrown=>exact he.elim
     exact g3.elim
  have hs:=key t (Array.replicate l.toArray.size false) act w1
   ⟨by simp,fun j oj _ hl=>(by rw [getD_replicate_false] at hl; cases hl),fun k _ hk=>getD_in (by simpa using hk) (getD_replicate_false _ _)⟩
   (bw9 _ _ (by simp; omega)) ⟨ρ,fun _=>undef,β0,hmt,?_⟩
  ·rwa [← hsz] at hs
  have hno : ∀ k,¬ lsd (Array.replicate l.toArray.size false) k:=fun k e=>by
   have e' : (Array.replicate l.toArray.size false).getD k false = true:=e
   rw [getD_replicate_false] at e'
   cases e'
  refine ⟨.refl,fun _ _=>rfl,fun _ _=>rfl,fun k _ hk=>absurd hk (hno k),fun k _ hk=>absurd hk (hno k),fun k _ hk=>absurd hk (hno k),fun k _ _ _ hk=>absurd hk (hno k),G.mono hG fun b _ q=>⟨q,fun k _ hk=>absurd hk (hno k)⟩,fun k _ hk=>absurd hk (hno k),fun k hk b T l0 lf hg=>⟨fun _=>hB0 b T l0 (hT k b T l0 lf hk hg).1,fun hl=>absurd hl (hno k)⟩⟩
 | _=>cases hd
def b92 : Option Eff → List Ch
 | some (.mk _ l _)=>l
 | _=>[]
def η0 : Nat → Value:=fun _=>undef
def cm7 : Op → Option TypeId
 | .alloc T=>some T
 | .box T _=>some T
 | _=>none
def as3 (m0 b : Nat) : List HRec → Option (Nat × ((Nat → Value) → List Ch))
 | []=>none
 | .mk _ _ l :: r=>bif Nat.beq b (m0 + cnt r) then some (r.length,l) else as3 m0 b r
 | .val _ _ :: r=>as3 m0 b r
 | .spec _ _ _ :: r=>as3 m0 b r
 | .st _ _ :: r=>as3 m0 b r
 | .same :: r=>as3 m0 b r
 | .sto _ _ _ _ :: r=>as3 m0 b r
theorem c11 {m0 : Nat} : ∀ {acc : List HRec},as3 m0 b acc = some (k,l) → ∃ n d T r,acc.drop n = .mk d T l :: r ∧ r.length = k ∧ b = m0 + cnt r:=by
 intro acc
 induction acc with
 | nil=>intro h; cases h
 | cons x r ih=>
  intro h
  have next : as3 m0 b r = some (k,l) → ∃ n d T q,(x :: r).drop n = .mk d T l :: q ∧ q.length = k ∧ b = m0 + cnt q:=fun h=>by
   obtain ⟨n,d,T,q,h1,h2⟩:=ih h
   exact ⟨n + 1,d,T,q,by simpa using h1,h2⟩
  cases x with
  | val d sv=>exact next h
  | spec d p Δ=>exact next h
  | st k l=>exact next h
  | same=>exact next h
  | sto _ _ _ _=>exact next h
  | mk d T lc=>
   simp only [as3] at h
   cases hb : Nat.beq b (m0 + cnt r) with
   | false=>rw [hb] at h; exact next h
   | true=>
    rw [hb] at h
    simp only [cond_true,Option.some.injEq,Prod.mk.injEq] at h
    obtain ⟨rfl,rfl⟩:=h
    exact ⟨0,d,T,r,rfl,rfl,Nat.eq_of_beq_eq_true hb⟩
theorem d70 (e : acc.drop n = h :: r) : acc.reverse[r.length]? = some h ∧ acc.drop (acc.length - r.length) = r:=by
 have hl:=congrArg List.length e
 simp only [List.length_drop,List.length_cons] at hl
 have h1 : acc[n]? = some h:=by
  have:=congrArg (fun l : List HRec=>l[0]?) e
  simpa using this
 refine ⟨?_,?_⟩
 ·rw [List.getElem?_reverse (by omega),show acc.length - 1 - r.length = n by omega]
  exact h1
 rw [show acc.length - r.length = n + 1 by omega,← List.drop_drop,e]
 rfl
def ah7 (k : Nat) (es : List Edge) : List HRec → Bool
 | []=>true
 | .st k' _ :: r=>(bif Nat.beq k' k then E9 es r.length else true) && ah7 k es r
 | .val _ _ :: r=>ah7 k es r
 | .spec _ _ _ :: r=>ah7 k es r
 | .mk _ _ _ :: r=>ah7 k es r
 | .same :: r=>ah7 k es r
 | .sto _ _ _ _ :: r=>ah7 k es r
theorem cv7 : ∀ {acc : List HRec},ah7 k es acc = true → ∀ (j : Nat) l',acc.reverse[j]? = some (HRec.st k l') → E9 es j = true:=by
 intro acc
 induction acc with
 | nil=>intro _ j l' h; simp at h
 | cons x r ih=>
  intro h j l' hj
  rw [List.reverse_cons] at hj
  have next : ah7 k es r = true → j < r.length → E9 es j = true:=fun h hjr=>by
   rw [List.getElem?_append_left (by simpa using hjr)] at hj
   exact ih h j l' hj
  have hlast : ¬ j < r.length → j = r.length ∧ x = HRec.st k l':=fun hn=>by
   have h1:=(List.getElem?_eq_some_iff.1 hj).1
   simp at h1
   obtain rfl : j = r.length:=by omega
   simpa using hj
  rcases Nat.lt_or_ge j r.length with hjr | hjr
  ·cases x with
   | st k' l=>simp only [ah7,Bool.and_eq_true] at h; exact next h.2 hjr
   | val d sv=>exact next h hjr
   | spec d p Δ=>exact next h hjr
   | mk d T lc=>exact next h hjr
   | same=>exact next h hjr
   | sto _ _ _ _=>exact next h hjr
  obtain ⟨rfl,rfl⟩:=hlast (by omega)
  simp only [ah7,Bool.and_eq_true,Nat.beq_refl,cond_true] at h
  exact h.1
def storeAt (st : St) (acc : List HRec) : Op → Option (Nat × Nat × ((Nat → Value) → List Ch))
 | .store _ x _=>match opd (frH st acc η0) x with
  | some (.one (.ptr b _))=>(as3 st.hp.length b acc).map fun p=>(b,p)
  | _=>none
 | _=>none
theorem ce7 {o : Op} (h : storeAt st acc o = some (b,k,lc)) : ∃ d T,acc.reverse[k]? = some (.mk d T lc) ∧ b = st.hp.length + cnt (acc.drop (acc.length - k)):=by
 unfold storeAt at h
 split at h <;> first | (cases h; done) | skip
 split at h <;> first | (cases h; done) | skip
 rename_i b' o' _
 cases hm : as3 st.hp.length b' acc with
 | none=>rw [hm] at h; cases h
 | some p=>
  rw [hm] at h
  simp only [Option.map_some,Option.some.injEq,Prod.mk.injEq] at h
  obtain ⟨rfl,rfl⟩:=h
  obtain ⟨n,d,T,r,h1,h2,h3⟩:=c11 hm
  obtain ⟨h4,h5⟩:=d70 h1
  subst h2
  exact ⟨d,T,h4,by rw [h5]; exact h3⟩
noncomputable def bc4 (E : Env) (all : List Oper) (st : St) (acc : List HRec) (o : Oper) : HRec:=
 match storeAt st acc o.op with
 | some (b,k,lc)=>.st k (fun g=>(ax9 E (frH st acc g) b (((ak6 acc k).getD lc) g) o.op).getD [])
 | none=>match cm7 o.op,G4 all (frH st acc η0) o with
  | some T,true=>.mk (o.dst.getD 0) T (fun g=>b92 (cg9 E (frH st acc g) (st.hp.length + cnt acc) o.op))
  | _,_=>.val (o.dst.getD 0) (fun g=>match Z1 E st.hp all (frH st acc g) o with | some (s,_)=>s | none=>.und)
noncomputable def ci0 (E : Env) (all : List Oper) (st : St) (acc : List HRec) (o : Oper) (η : Nat → Value) : Bool:=
 match storeAt st acc o.op with
 | some (b,k,lc)=>o.dst.isNone && E9 o.after.toList k && ah7 k o.after.toList acc && G4 all (frH st acc η) o && (ax9 E (frH st acc η) b (((ak6 acc k).getD lc) η) o.op).isSome
 | none=>o.dst.isSome && match cm7 o.op,G4 all (frH st acc η0) o with
  | some _,true=>G4 all (frH st acc η) o && (match cg9 E (frH st acc η) (st.hp.length + cnt acc) o.op with | some _=>true | none=>false)
  | _,_=>match Z1 E st.hp all (frH st acc η) o with | some (_,[])=>true | _=>false
noncomputable def dg5 (E : Env) (all : List Oper) (st : St) : Nat → List HRec → List Oper → List HRec
 | 0,acc,_=>acc
 | _ + 1,acc,[]=>acc
 | n + 1,acc,o :: r=>dg5 E all st n (bc4 E all st acc o :: acc) r
noncomputable def bf8 (E : Env) (all : List Oper) (st : St) (η : Nat → Value) : Nat → List HRec → List Oper → Bool
 | 0,_,_=>true
 | _ + 1,_,[]=>false
 | n + 1,acc,o :: r=>ci0 E all st acc o η && bf8 E all st η n (bc4 E all st acc o :: acc) r
theorem cx4 {o : Op} {e : Eff} (h : cg9 E fr k o = some e) : ∃ T l,cm7 o = some T ∧ e = .mk T l (.one (.ptr k 0)):=by
 unfold cg9 at h
 split at h
 ·obtain ⟨h1,T',l,s,rfl⟩:=L8 h
  unfold ar4 at h1
  cases ht : E.get _ with
  | none=>rw [ht] at h1; cases h1
  | some ti=>rw [ht] at h1; simp only [Option.map_some,Option.some.injEq,Eff.mk.injEq] at h1; obtain ⟨rfl,rfl,rfl⟩:=h1; exact ⟨_,_,rfl,rfl⟩
 ·obtain ⟨h1,T',l,s,rfl⟩:=L8 h
  unfold bm1 at h1
  split at h1 <;> first | (cases h1; done) | skip
  rename_i xv _
  cases hc : SV.chunks xv with
  | none=>rw [hc] at h1; cases h1
  | some l2=>rw [hc] at h1; simp only [Option.map_some,Option.some.injEq,Eff.mk.injEq] at h1; obtain ⟨rfl,rfl,rfl⟩:=h1; exact ⟨_,_,rfl,rfl⟩
 cases h
section
variable {c : Cx} {st : St} {G : Gh} {all : List Oper} {K : List HRec → Prop} {acc : List HRec} {ops : List Oper}
theorem c00 {o : Oper} (h : ∀ η,ci0 c.E all st acc o η = true) : Loc c st G all acc o (bc4 c.E all st acc o):=by
 unfold ci0 at h
 unfold bc4
 cases hsa : storeAt st acc o.op with
 | some p=>
  obtain ⟨b,k,lc⟩:=p
  simp only [hsa,Bool.and_eq_true] at h
  obtain ⟨d,T,h1,h2⟩:=ce7 hsa
  have h0:=h η0
  refine ⟨by simpa using h0.1.1.1.1,h0.1.1.1.2,cv7 h0.1.1.2,d,T,lc,h1,fun η=>⟨(h η).1.2,?_⟩⟩
  rw [← h2]
  have h3:=(h η).2
  cases he : ax9 c.E (frH st acc η) b (((ak6 acc k).getD lc) η) o.op with
  | none=>rw [he] at h3; cases h3
  | some l=>simp [he]
 | none=>
 simp only [hsa] at h
 have hd : o.dst = some (o.dst.getD 0):=by
  have:=h η0
  simp only [Bool.and_eq_true] at this
  cases hx : o.dst with
  | none=>rw [hx] at this; cases this.1
  | some d=>rfl
 have plain : (∀ η,(match Z1 c.E st.hp all (frH st acc η) o with | some (_,[])=>true | _=>false) = true) →
   Loc c st G all acc o (.val (o.dst.getD 0) (fun g=>match Z1 c.E st.hp all (frH st acc g) o with | some (s,_)=>s | none=>.und)):=by
  intro h2
  refine ⟨hd,fun η=>?_⟩
  have h3:=h2 η
  split at h3 <;> first | (cases h3; done) | skip
  rename_i s he
  exact ⟨s,[],he,fun S w _ _ _ _=>⟨trivial,fun β=>by simp only [he]; exact ⟨trivial,fun m hm=>hm⟩⟩⟩
 cases hm : cm7 o.op with
 | none=>
  simp only [hm,Bool.and_eq_true] at h
  exact plain fun η=>(h η).2
 | some T=>
  cases hg : G4 all (frH st acc η0) o with
  | false=>
   simp only [hm,hg,Bool.and_eq_true] at h
   exact plain fun η=>(h η).2
  | true=>
   simp only [hm,hg,Bool.and_eq_true] at h
   refine ⟨hd,fun η=>⟨(h η).2.1,?_⟩⟩
   have h2:=(h η).2.2
   split at h2 <;> first | (cases h2; done) | skip
   rename_i e he
   obtain ⟨T',l,h3,rfl⟩:=cx4 he
   rw [hm] at h3
   simp only [Option.some.injEq] at h3
   subst h3
   simp only [he,b92]
theorem d51 (n : Nat) (h : ∀ η,bf8 c.E all st η n acc ops = true) (k : Hd c st G all K (dg5 c.E all st n acc ops) (ops.drop n)) : Hd c st G all K acc ops:=by
 induction n generalizing acc ops with
 | zero=>exact k
 | succ n ih=>
  cases ops with
  | nil=>have:=h η0; cases this
  | cons o r=>
   simp only [bf8,Bool.and_eq_true] at h
   exact ⟨⟨_,c00 fun η=>(h η).1,(ih (fun g=>(h g).2) k).run⟩⟩
theorem a6 (n : Nat) (k : Hd c st G all K (dg5 c.E all st n acc ops) (ops.drop n)) (h : ∀ η,bf8 c.E all st η n acc ops = true:=by intros; kernel_rfl) : Hd c st G all K acc ops:=
 d51 n h k
def opH (ops : List Oper) : Oper := match ops with | o :: _ => o | [] => ⟨none, .alloc 0, 0, "", #[], none⟩
noncomputable def hvS (c : Cx) (all : List Oper) (st : St) (acc : List HRec) (ops : List Oper) (η : Nat → Value) : SV:=match Z1 c.E st.hp all (frH st acc η) (opH ops) with | some (s,_)=>s | none=>.und
noncomputable def hvC (c : Cx) (all : List Oper) (st : St) (acc : List HRec) (ops : List Oper) (η : Nat → Value) : List Prop:=match Z1 c.E st.hp all (frH st acc η) (opH ops) with | some (_,l)=>l | none=>[]
noncomputable def c41 (c : Cx) (all : List Oper) (st : St) (acc : List HRec) (ops : List Oper) (η : Nat → Value) : Bool:=(Z1 c.E st.hp all (frH st acc η) (opH ops)).isSome && (opH ops).dst.isSome && !ops.isEmpty
theorem d40 (sv : (Nat → Value) → SV) (hok : ∀ η,c41 c all st acc ops η = true) (hs : ∀ η,(sv η).Ok 0)
  (h : ∀ η S w,Keeps c.K c.w0 w → (∀ k,S k → c.S0 k) → G.p S w → depsH acc (opH ops).after.toList η S w → VcOk (hvC c all st acc ops η) ∧ ∀ β,(hvS c all st acc ops η).den β = (sv η).den β)
  (k : Hd c st G all K (.val ((opH ops).dst.getD 0) sv :: acc) (ops.drop 1)) : Hd c st G all K acc ops:=by
 cases ops with
 | nil=>have:=hok η0; simp [c41] at this
 | cons o r=>
  refine ⟨⟨.val ((opH (o :: r)).dst.getD 0) sv,⟨?_,fun η=>?_⟩,k.run⟩⟩
  ·have:=hok η0
   simp only [c41,Bool.and_eq_true] at this
   cases hx : o.dst with
   | none=>have h2:=this.1.2; simp [opH,hx] at h2
   | some d=>simp [opH,hx]
  have h1:=hok η
  unfold c41 at h1
  simp only [Bool.and_eq_true] at h1
  cases he : Z1 c.E st.hp all (frH st acc η) o with
  | none=>have h2:=h1.1.1; simp [opH,he] at h2
  | some x=>
   obtain ⟨s,vc⟩:=x
   refine ⟨s,vc,rfl,fun S w hw hS hG hd=>?_⟩
   obtain ⟨h2,h3⟩:=h η S w hw hS hG hd
   have e1 : hvC c all st acc (o :: r) η = vc:=by unfold hvC; simp [opH,he]
   have e2 : hvS c all st acc (o :: r) η = s:=by unfold hvS; simp [opH,he]
   rw [e1] at h2
   refine ⟨h2.all,fun β=>⟨?_,fun m _=>(hs η).le (Nat.zero_le _)⟩⟩
   rw [← h3 β,e2]
theorem ce0 (b : Bool) (hok : ∀ η,c41 c all st acc ops η = true) (hv : ∀ η,hvC c all st acc ops η = []) (he : ∀ η,hvS c all st acc ops η = .one (.tp p)) (hp : p ↔ b = true)
  (k : Hd c st G all K (.val ((opH ops).dst.getD 0) (fun _=>.one (.bb b)) :: acc) (ops.drop 1)) : Hd c st G all K acc ops:=by
 refine d40 (fun _=>.one (.bb b)) hok (fun _=>trivial) (fun η S w _ _ _ _=>⟨⟨by rw [hv]; trivial⟩,fun β=>?_⟩) k
 rw [he]
 refine congrArg Value.bool ?_
 cases b with
 | true=>exact j6 (hp.2 rfl)
 | false=>exact j2 fun h=>by cases hp.1 h
def bp8 (st : St) (acc : List HRec) (ops : List Oper) (η : Nat → Value) : Out:=⟨.ops [] [⟨(opH ops).dst,(opH ops).op,(opH ops).type,(opH ops).pos,(opH ops).after,none⟩],[],⟨frH st acc η,st.hp⟩,[]⟩
def ac8 (all : List Oper) (st : St) (acc : List HRec) (ops : List Oper) (f : FuncId) (η : Nat → Value) : Bool:=H9 f (bp8 st acc ops η) && G4 all (frH st acc η) (opH ops) && !ops.isEmpty
theorem c95 {all : List Oper} {r : List Oper} (hf : H9 f o = true) (hcur : o.cur = .ops all (o1 :: r)) : o1.dst = some (o1.dst.getD 0):=by
 unfold H9 at hf
 cases hco : al2 o.st o.cur with
 | none=>rw [hco] at hf; cases hf
 | some x=>
  rw [hcur] at hco
  unfold al2 at hco
  simp only at hco
  split at hco <;> first | (cases hco; done) | skip
  rename_i d' cl hg hd hop
  rw [hd]
  rfl
theorem c05 [ci : CallI c.P f] {F : Fr} {all : List Oper} {r : List Oper} (hf : H9 f o = true) (hcur : o.cur = .ops all (o1 :: r)) (hk : ah6 β m o.st.fr (ev F) o1.op) :
  ∀ d pos aft g,(execOp (ev F) ⟨d,o1.op,o1.type,pos,aft,g⟩).run c.P w = .ok (.enter f ((y5 o).map (SV.den β)).toArray) w:=by
 unfold H9 at hf
 cases hco : al2 o.st o.cur with
 | none=>rw [hco] at hf; cases hf
 | some x=>
  obtain ⟨g,l,d⟩:=x
  rw [hco] at hf
  obtain rfl : g = f:=Nat.eq_of_beq_eq_true hf
  have hargs : y5 o = l:=by unfold y5; rw [hco]
  rw [hcur] at hco
  unfold al2 at hco
  simp only at hco
  split at hco <;> first | (cases hco; done) | skip
  rename_i d' cl hg hd hop
  split at hco <;> first | (cases hco; done) | skip
  rename_i x hcl
  split at hco <;> first | (cases hco; done) | skip
  rename_i f' cap hx
  split at hco <;> first | (cases hco; done) | skip
  rename_i l' hl
  simp only [Option.some.injEq,Prod.mk.injEq] at hco
  obtain ⟨rfl,rfl,rfl⟩:=hco
  rw [hop] at hk
  have hmem : ∀ y,y = x ∨ y ∈ cl.args.toList → y ∈ (Op.call cl).operands.toList:=by
   intro y hy
   simp only [Op.operands,Call.operands,hcl,Array.toList_append,List.mem_append]
   rcases hy with rfl | hy
   ·left; simp
   exact .inr hy
  have h1:=(hk x (hmem x (.inl rfl)) _ hx).1
  have h2 : cl.args.toList.map (ev F) = l'.map (SV.den β):=by
   have aux : ∀ (xs : List Operand) (l : List SV),(∀ y ∈ xs,y ∈ cl.args.toList) → a23 (xs.map (opd o.st.fr)) = some l → xs.map (ev F) = l.map (SV.den β):=by
    intro xs
    induction xs with
    | nil=>intro l _ h; simp only [List.map_nil,a23,Option.some.injEq] at h; subst h; rfl
    | cons x r ih=>
     intro l hm h
     simp only [List.map_cons,a23] at h
     split at h <;> first | (cases h; done) | skip
     rename_i s l' e1 e2
     simp only [Option.some.injEq] at h
     subst h
     rw [List.map_cons,List.map_cons,ih l' (fun y hy=>hm y (List.mem_cons_of_mem _ hy)) e2,(hk x (hmem x (.inr (hm x (List.mem_cons_self ..)))) _ e1).1]
   exact aux _ _ (fun y hy=>hy) hl
  intro d pos aft g
  rw [hargs,List.map_append,bs0,← h2,hop]
  obtain ⟨callee,args,ts⟩:=cl
  simp only at hcl
  subst hcl
  simp [execOp,resolve,Deferred.ofValue,h1,SV.den,Ch.den,invoke,ci.run]
theorem b64 (f : FuncId) [ci : CallI c.P f] (p : Value → SV) (Δ : Value → Gh) (hf : ∀ η,ac8 all st acc ops f η = true)
  (h : ∀ β η S w,Up S w → (∀ k,S k → c.S0 k) → Keeps c.K c.w0 w → G.p S w → depsH acc (opH ops).after.toList η S w → ∃ args,(y5 (bp8 st acc ops η)).map (SV.den β) = args ∧
   GivesE c.P f args w (fun v w'=>Ext w w' ∧ v = (p v).den (fun _=>0) ∧ (p v).Ok 0 ∧ (Δ v).p S w') fun ch w'=>∀ ρ,c.Q (.panic ch) ρ w')
  (k : Hd c st G all K (.spec ((opH ops).dst.getD 0) p Δ :: acc) (ops.drop 1)) : Hd c st G all K acc ops:=by
 cases ops with
 | nil=>have:=hf η0; simp [ac8] at this
 | cons o r=>
  have hk : ∀ η,H9 f (bp8 st acc (o :: r) η) = true ∧ G4 all (frH st acc η) o = true:=fun η=>by
   have:=hf η
   simp only [ac8,Bool.and_eq_true] at this
   exact ⟨this.1.1,this.1.2⟩
  refine ⟨⟨.spec ((opH (o :: r)).dst.getD 0) p Δ,⟨?_,fun η=>⟨(hk η).2,?_⟩⟩,k.run⟩⟩
  ·exact c95 (o1:=⟨o.dst,o.op,o.type,o.pos,o.after,none⟩) (hk η0).1 rfl
  intro β S w F m hkn hup hM hS hw hG hd
  obtain ⟨args,ha,hg⟩:=h β η S w hup hS hw hG hd
  have h2:=c05 (c:=c) (w:=w) (o1:=⟨o.dst,o.op,o.type,o.pos,o.after,none⟩) (hk η).1 rfl hkn
  unfold b77
  obtain ⟨dst,op,ty,pos,aft,g⟩:=o
  rw [h2 dst pos aft g,ha]
  exact hg
theorem cs5 (f : FuncId) [ci : CallI c.P f] (p : Value → SV) (Δ : Value → Gh) (hf : ∀ η,ac8 all st acc ops f η = true)
  (h : ∀ β η S w,Up S w → (∀ k,S k → c.S0 k) → Keeps c.K c.w0 w → G.p S w → depsH acc (opH ops).after.toList η S w → ∃ args,(y5 (bp8 st acc ops η)).map (SV.den β) = args ∧
   Gives c.P f args w fun v w'=>Ext w w' ∧ v = (p v).den (fun _=>0) ∧ (p v).Ok 0 ∧ (Δ v).p S w')
  (k : Hd c st G all K (.spec ((opH ops).dst.getD 0) p Δ :: acc) (ops.drop 1)) : Hd c st G all K acc ops:=
 b64 f p Δ hf (fun g d S w h1 h2 h3 h4 h5=>let ⟨args,ha,hg⟩:=h g d S w h1 h2 h3 h4 h5; ⟨args,ha,hg.e⟩) k
noncomputable def co5 (c : Cx) (st : St) (acc : List HRec) (ops : List Oper) (η : Nat → Value) : Option (TypeId × Nat × Nat × List Ch):=
 match (opH ops).op with
 | .buildSlice T n ps=>match B9 c.E T with
  | .slice e=>match c.E.get e,bw3 c.E T n 0 (ps.toList.map fun p=>(p.1,opd (frH st acc η) p.2)) with
   | some te,some (.mk T' l _)=>bif Nat.beq (aa3 l) (n * te.size) && Nat.ble n 9223372036854775807 then some (T',te.size,n,l) else none
   | _,_=>none
  | _=>none
 | _=>none
noncomputable def co1 (c : Cx) (all : List Oper) (st : St) (acc : List HRec) (ops : List Oper) (T : TypeId) (sz n : Nat) (η : Nat → Value) : Bool:=
 (match co5 c st acc ops η with | some (T',s,m,_)=>Nat.beq T' T && Nat.beq s sz && Nat.beq m n | none=>false) && G4 all (frH st acc η) (opH ops) && (opH ops).dst.isSome && !ops.isEmpty
noncomputable def bn0 (c : Cx) (st : St) (acc : List HRec) (ops : List Oper) (η : Nat → Value) : List Ch:=match co5 c st acc ops η with | some (_,_,_,l)=>l | none=>[]
theorem ab7 (T : TypeId) (sz n : Nat) (Δ : Value → Gh) (hc : c.Ok) (hf : ∀ η,co1 c all st acc ops T sz n η = true)
  (h : ∀ β η S w v w',Up S w → (∀ k,S k → c.S0 k) → Keeps c.K c.w0 w → G.p S w → depsH acc (opH ops).after.toList η S w → Ext w w' → Row S T sz w' v n (d6 β (bn0 c st acc ops η)) → (Δ v).p S w')
  (k : Hd c st G all K (.spec ((opH ops).dst.getD 0) (fun v=>.one (.sl v n)) Δ :: acc) (ops.drop 1)) : Hd c st G all K acc ops:=by
 cases ops with
 | nil=>have:=hf η0; simp [co1] at this
 | cons o r=>
  refine ⟨⟨.spec ((opH (o :: r)).dst.getD 0) (fun v=>.one (.sl v n)) Δ,⟨?_,fun η=>?_⟩,k.run⟩⟩
  ·have:=hf η0
   simp only [co1,Bool.and_eq_true] at this
   cases hx : o.dst with
   | none=>have h2:=this.1.2; simp [opH,hx] at h2
   | some d=>simp [opH,hx]
  have h1:=hf η
  simp only [co1,Bool.and_eq_true] at h1
  obtain ⟨⟨⟨h2,h3⟩,h3'⟩,h3''⟩:=h1
  refine ⟨h3,fun β S w F m hkn hup hM hS hw hG hd=>?_⟩
  cases hl : co5 c st acc (o :: r) η with
  | none=>rw [hl] at h2; cases h2
  | some x=>
   obtain ⟨T',s,n',l⟩:=x
   rw [hl] at h2
   simp only [Bool.and_eq_true] at h2
   obtain rfl:=Nat.eq_of_beq_eq_true h2.1.1
   obtain rfl:=Nat.eq_of_beq_eq_true h2.1.2
   obtain rfl:=Nat.eq_of_beq_eq_true h2.2
   have hpt : bn0 c st acc (o :: r) η = l:=by unfold bn0; rw [hl]
   unfold co5 at hl
   have eo : opH (o :: r) = o:=rfl
   rw [eo] at hl
   obtain ⟨dst,op,ty,pos,aft,g⟩:=o
   simp only at hl hkn
   split at hl <;> first | (cases hl; done) | skip
   rename_i T0 n0 ps
   split at hl <;> first | (cases hl; done) | skip
   rename_i e0 hkd
   split at hl <;> first | (cases hl; done) | skip
   rename_i te T2 l2 s2 he1 he2
   cases hb : (Nat.beq (aa3 l2) (n0 * te.size) && Nat.ble n0 9223372036854775807) with
   | false=>rw [hb] at hl; cases hl
   | true=>
    rw [hb] at hl
    simp only [cond_true,Option.some.injEq,Prod.mk.injEq] at hl
    obtain ⟨rfl,rfl,rfl,rfl⟩:=hl
    simp only [Bool.and_eq_true] at hb
    have hsz:=Nat.eq_of_beq_eq_true hb.1
    have hmx:=Nat.le_of_ble_eq_true hb.2
    obtain ⟨_,g1,g2⟩:=br5 (P:=c.P) (w:=w) (ty:=ty) (β:=β) (m:=m) hc.env (fun p hp=>hkn p.2 (by simp [Op.operands]; exact ⟨p.1,by simpa using hp⟩)) he2
    unfold b77
    rw [g2 dst pos aft g]
    have hk:=R1 w (.cells (d6 β l2).toArray T2)
    have hlen:=U0 (β:=β) g1
    have hrow : Row S T2 te.size (w.alloc (.cells (d6 β l2).toArray T2)) (.slice (some ⟨w.heap.size,0,none⟩) n0 n0) n0 (d6 β l2):=by
     have h5:=Row.of_blk (s:=te.size) (n:=n0) (cap:=n0) (Blk.new w T2 (d6 β l2)) (hup _ (Nat.le_refl _)) (Nat.le_refl _) (by unfold maxLen; omega) (by omega)
     rwa [List.take_of_length_le (by omega)] at h5
    refine ⟨hk,rfl,⟨_,_,rfl,Nat.le_refl _⟩,?_⟩
    refine h β η S w _ _ hup hS hw hG hd hk ?_
    rw [hpt]
    exact hrow
def de1 (c : Cx) (st : St) (acc : List HRec) (ops : List Oper) (η : Nat → Value) : Option (List Ch × List Ch):=
 match (opH ops).op with
 | .store T x y=>match opd (frH st acc η) x,opd (frH st acc η) y,c.E.get T with
  | some (.one (.ptr b o)),some yv,some ti=>match st.hp[b]?,yv.chunks with
   | some (.blk _ l),some new=>bif Nat.beq (aa3 new) ti.size then (stL l o ti.size new).map fun l'=>(l,l') else none
   | _,_=>none
  | _,_,_=>none
 | _=>none
def b12 (c : Cx) (all : List Oper) (st : St) (acc : List HRec) (ops : List Oper) (η : Nat → Value) : Bool:=G4 all (frH st acc η) (opH ops) && (opH ops).dst.isNone && !ops.isEmpty
theorem c10 {g : Nat} {cs : Array Value} {fr : Nat × Nat} (h : w.heap[g]? = some (.cells cs T fr)) : w.setRow g cs = w:=by
 have e : (w.setRow g cs).heap = w.heap:=by
  refine Array.ext_getElem? fun k=>?_
  by_cases hk : k = g
  ·subst hk
   rw [setRow_heap w k cs cs T fr h,h]
  exact setRow_other w g k cs hk
 have e2 : w.setRow g cs = { w with heap:=(w.setRow g cs).heap }:=rfl
 rw [e2,e]
def da4 (c : Cx) (st : St) (acc : List HRec) (ops : List Oper) (η : Nat → Value) : List Ch:=((de1 c st acc ops η).map Prod.fst).getD []
theorem cs3 (hc : c.Ok) (hok : ∀ η,b12 c all st acc ops η = true) (hs : ∀ η,de1 c st acc ops η = some (da4 c st acc ops η,da4 c st acc ops η))
  (k : Hd c st G all K (.same :: acc) (ops.drop 1)) : Hd c st G all K acc ops:=by
 cases ops with
 | nil=>have:=hok η0; simp [b12] at this
 | cons o r=>
  have hk : ∀ η,G4 all (frH st acc η) o = true ∧ o.dst = none:=fun η=>by
   have:=hok η
   simp only [b12,Bool.and_eq_true] at this
   exact ⟨this.1.1,by simpa [opH] using this.1.2⟩
  refine ⟨⟨.same,⟨(hk η0).2,fun η=>⟨(hk η).1,fun β F w m hkn hM=>?_⟩⟩,k.run⟩⟩
  have h:=hs η
  generalize da4 c st acc (o :: r) η = ll at h
  unfold de1 at h
  have eo : opH (o :: r) = o:=rfl
  rw [eo] at h
  obtain ⟨dst,op,ty,pos,aft,g⟩:=o
  simp only at h hkn
  split at h <;> first | (cases h; done) | skip
  rename_i T x y
  have hx:=hkn x (by simp [Op.operands])
  have hy:=hkn y (by simp [Op.operands])
  split at h <;> first | (cases h; done) | skip
  rename_i b o yv ti e1 e2 e3
  have h1:=(hx _ e1).1
  have h2:=hy _ e2
  split at h <;> first | (cases h; done) | skip
  rename_i T' l0 new e4 e5
  cases hsz : Nat.beq (aa3 new) ti.size with
  | false=>rw [hsz] at h; cases h
  | true=>
   rw [hsz] at h
   have hsz:=Nat.eq_of_beq_eq_true hsz
   simp only [cond_true] at h
   cases hst : stL l0 o ti.size new with
   | none=>rw [hst] at h; cases h
   | some l1=>
    rw [hst] at h
    simp only [Option.map_some,Option.some.injEq,Prod.mk.injEq] at h
    obtain ⟨rfl,rfl⟩:=h
    obtain ⟨hb,hok0⟩:=hM.blk b T' l1 e4
    obtain ⟨h3,h4⟩:=SV.chunks_ok (β:=β) e5 h2.2
    have hok1 : ∀ c ∈ l1,c.Ok (max m st.hp.length):=fun c hc=>(hok0 c hc).le (Nat.le_max_right _ _)
    obtain ⟨h5,h6,h7⟩:=bx1 (β:=β) hst hok1 (fun c hc=>(h4 c hc).le (Nat.le_max_left _ _))
    obtain ⟨z,hty,_⟩:=(hc.env.get e3).ty
    have hlen:=U0 (β:=β) h4
    have h8:=run_storeCells_at c.P (β b) o T' (d6 β new) 0 (d6 β l1).toArray w hb (by simp; omega) (ag6 h4)
    have e9 : ((d6 β l1).toArray.toList.take (o + 0) ++ d6 β new ++ (d6 β l1).toArray.toList.drop (o + 0 + (d6 β new).length)).toArray = (d6 β l1).toArray:=by
     conv=>rhs; rw [← h5]
     simp [hlen,hsz]
    rw [e9,c10 hb] at h8
    have e10 : (d6 β new).length = ti.size:=by omega
    have h11 : ev F x = .pointer (some ⟨β b,o,none⟩):=h1
    simp [execOp,h11,h2.1,Instr.storeAt,Instr.sureAddr,storeVar,hty.runSize w,h3,e10,h8]
def cr3 (c : Cx) (st : St) (acc : List HRec) (ops : List Oper) : Option (Nat × TypeId × List Ch):=
 match (opH ops).op with
 | .store _ x _=>match opd (frH st acc η0) x with
  | some (.one (.ptr b _))=>match nth st.hp b with
   | some (.hid T l)=>some (b,T,l)
   | _=>none
  | _=>none
 | _=>none
def b10 (c : Cx) (st : St) (acc : List HRec) (ops : List Oper) (b : Nat) (l0 : List Ch) (η : Nat → Value) : List Ch:=(ax9 c.E (frH st acc η) b l0 (opH ops).op).getD []
def cf1 (c : Cx) (all : List Oper) (st : St) (acc : List HRec) (ops : List Oper) (b : Nat) (l0 : List Ch) (η : Nat → Value) : Bool:=
 G4 all (frH st acc η) (opH ops) && (opH ops).dst.isNone && !ops.isEmpty && (ax9 c.E (frH st acc η) b l0 (opH ops).op).isSome && !ch4 (ae6 acc) b
def b16 (c : Cx) (st : St) (acc : List HRec) (ops : List Oper) : Nat × TypeId × List Ch:=(cr3 c st acc ops).getD (0,0,[])
theorem d74 (hs : (cr3 c st acc ops).isSome = true) (hok : ∀ η,cf1 c all st acc ops (b16 c st acc ops).1 (b16 c st acc ops).2.2 η = true)
  (k : Hd c st G all K (.sto (b16 c st acc ops).1 (b16 c st acc ops).2.1 (b16 c st acc ops).2.2 (b10 c st acc ops (b16 c st acc ops).1 (b16 c st acc ops).2.2) :: acc) (ops.drop 1)) : Hd c st G all K acc ops:=by
 generalize hx : b16 c st acc ops = x at hok k
 obtain ⟨b,T,l0⟩:=x
 replace hs : cr3 c st acc ops = some (b,T,l0):=by
  obtain ⟨y,hy⟩:=Option.isSome_iff_exists.1 hs
  unfold b16 at hx
  rw [hy] at hx ⊢
  exact congrArg some hx
 cases ops with
 | nil=>have:=hok η0; simp [cf1] at this
 | cons o r=>
  have hk : ∀ η,G4 all (frH st acc η) o = true ∧ o.dst = none ∧ ch4 (ae6 acc) b = false ∧ ax9 c.E (frH st acc η) b l0 o.op = some (b10 c st acc (o :: r) b l0 η):=fun η=>by
   have:=hok η
   simp only [cf1,Bool.and_eq_true] at this
   obtain ⟨⟨⟨⟨h1,h2⟩,_⟩,h3⟩,h4⟩:=this
   refine ⟨h1,by simpa [opH] using h2,by simpa using h4,?_⟩
   obtain ⟨x,hx⟩:=Option.isSome_iff_exists.1 h3
   unfold b10
   rw [hx]
   exact hx
  have hn : nth st.hp b = some (.hid T l0):=by
   unfold cr3 at hs
   split at hs <;> first | (cases hs; done) | skip
   split at hs <;> first | (cases hs; done) | skip
   split at hs <;> first | (cases hs; done) | skip
   rename_i e
   cases hs
   exact e
  exact ⟨⟨.sto b T l0 (b10 c st acc (o :: r) b l0),⟨(hk η0).2.1,(hk η0).2.2.1,hn,fun η=>⟨(hk η).1,(hk η).2.2.2⟩⟩,k.run⟩⟩
def be4 (G : Gh) (η : Nat → Value) : Nat → List HRec → Gh
 | _,[]=>G
 | m,.spec _ _ Δ :: r=>bif Nat.beq (m % 2) 1 then (Δ (η r.length)).and (be4 G η (m / 2) r) else be4 G η (m / 2) r
 | m,.val _ _ :: r=>be4 G η m r
 | m,.mk _ _ _ :: r=>be4 G η m r
 | m,.st _ _ :: r=>be4 G η m r
 | m,.same :: r=>be4 G η m r
 | m,.sto _ _ _ _ :: r=>be4 G η m r
theorem dk5 (hs : G.p S w → G1.p S w) : ∀ {acc : List HRec} {m : Nat},(ar2 G η acc).p S w → (be4 G1 η m acc).p S w:=by
 intro acc
 induction acc with
 | nil=>exact fun h=>hs h
 | cons r acc ih=>
  intro m h
  cases r with
  | spec d p Δ=>
   simp only [be4]
   cases Nat.beq (m % 2) 1 with
   | false=>exact ih h.2
   | true=>exact ⟨h.1,ih h.2⟩
  | val d sv=>exact ih h
  | mk d T l=>exact ih h
  | st k l=>exact ih h
  | same=>exact ih h
  | sto b' T l0 l=>exact ih h
theorem H5 [Rd] (m : Nat) (hs : ∀ S w,G.p S w → G1.p S w) (Gf : Gh → (Nat → Value) → Gh) (hn : ops.isEmpty = true) (hG : ∀ g η,be4 g η m acc = Gf g η) {l : List Oper}
  (h : ∀ η,Run c ⟨.ops l (l.drop t),kk,⟨frH st acc η,U7 η acc (st.hp ++ U8 η acc)⟩,[]⟩ (Gf G1 η)) : Hd c st G all (fun acc=>∀ η,Run c ⟨.ops l (l.drop t),kk,⟨frH st acc η,U7 η acc (st.hp ++ U8 η acc)⟩,[]⟩ (ar2 G η acc)) acc ops:=by
 cases ops with
 | nil=>exact ⟨fun η=>⟨fun β ρ w h1 h2 h3=>(h η).run β ρ w h1 h2 (by rw [← hG]; exact dk5 (hs _ _) h3)⟩⟩
 | cons o r=>cases hn
theorem dq2 [Rd] (m : Nat) (Gf : Gh → (Nat → Value) → Gh) (hn : ops.isEmpty = true) (hG : ∀ g η,be4 g η m acc = Gf g η) {l : List Oper}
  (h : ∀ η,Run c ⟨.ops l (l.drop t),kk,⟨frH st acc η,U7 η acc (st.hp ++ U8 η acc)⟩,[]⟩ (Gf G η)) : Hd c st G all (fun acc=>∀ η,Run c ⟨.ops l (l.drop t),kk,⟨frH st acc η,U7 η acc (st.hp ++ U8 η acc)⟩,[]⟩ (ar2 G η acc)) acc ops:=
 H5 m (fun _ _ h=>h) Gf hn hG h
theorem b6 [Rd] (m : Nat) (Gf : Gh → (Nat → Value) → Gh) (hG : ∀ g η,be4 g η m acc = Gf g η) {l : List Oper} (h : ∀ η,Run c ⟨.ops l (l.drop t),kk,⟨frH st acc η,U7 η acc (st.hp ++ U8 η acc)⟩,[]⟩ (Gf G η)) (hn : ops.isEmpty = true:=by kernel_rfl) : Hd c st G all (fun acc=>∀ η,Run c ⟨.ops l (l.drop t),kk,⟨frH st acc η,U7 η acc (st.hp ++ U8 η acc)⟩,[]⟩ (ar2 G η acc)) acc ops:=
 dq2 m Gf hn hG h
theorem g0 : ∀ S w,G.p S w → G.p S w:=fun _ _ h=>h
theorem gk (h : ∀ S w,G.p S w → G1.p S w) : ∀ S w,(A.and G).p S w → (A.and G1).p S w:=fun S w x=>⟨x.1,h S w x.2⟩
theorem gd (h : ∀ S w,G.p S w → G1.p S w) : ∀ S w,(A.and G).p S w → G1.p S w:=fun S w x=>h S w x.2
theorem kc {q : Prop} (h : p) (e : p = q) : q:=e ▸ h
end
section
variable {c : Cx} {o : Out} {G : Gh}
noncomputable abbrev ex (c : Cx) (o : Out) : Out:=exec c.E false 400 o
noncomputable abbrev exU (c : Cx) (o : Out) : Out:=exec c.E true 400 o
theorem O6 [Rd] (hc : c.Ok) (hv : (ex c o).vc = []) (h : Run c (ex c o) G) : Run c o G:=de2 hc false 400 (vc0 hv) h
theorem o7 [Rd] (h : Run c (ex c o) G) (hc : c.Ok:=by exact ⟨c8,by assumption,l8⟩) (hv : (ex c o).vc = []:=by kernel_rfl) : Run c o G:=
 O6 hc hv h
theorem bm0 [Rd] (hc : c.Ok) (hv : (exU c o).vc = []) (h : Run c (exU c o) G) : Run c o G:=de2 hc true 400 (vc0 hv) h
theorem i1 [Rd] (h : Run c (exU c o) G) (hc : c.Ok:=by exact ⟨c8,by assumption,l8⟩) (hv : (exU c o).vc = []:=by kernel_rfl) : Run c o G:=
 bm0 hc hv h
theorem fc9 [Rd] {ps : List Prop} (hc : c.Ok) (hv : (ex c o).vc = ps) (hp : I3 ps) (h : Run c ⟨(ex c o).cur,(ex c o).k,(ex c o).st,[]⟩ G) : Run c o G:=de2 hc false 400 (vcs hv hp) ⟨h.run⟩
theorem P9 [Rd] {ps : List Prop} (hp : I3 ps) (h : Run c ⟨(ex c o).cur,(ex c o).k,(ex c o).st,[]⟩ G) (hc : c.Ok:=by exact ⟨c8,by assumption,l8⟩) (hv : (ex c o).vc = ps:=by kernel_rfl) : Run c o G:=
 fc9 hc hv hp h
theorem s_K [Rd] [ci : CallI c.P f] (s : SV) (hc : c.Ok) (hv : (ex c o).vc = []) (hf : H9 f (ex c o) = true) (hok : s.Ok 0) (hX : s.den (fun _=>0) = X)
  (h : ∀ β S w,Up S w → (∀ k,S k → c.S0 k) → Keeps c.K c.w0 w → G.p S w → ∃ args,(y5 (ex c o)).map (SV.den β) = args ∧ Gives c.P f args w fun v w'=>v = X ∧ Ext w w')
  (hn : Run c (G3 (ex c o) s) G) : Run c o G:=by
 refine O6 hc hv (df5 f hc (fun _ : Unit=>s) (fun _=>True) (fun _=>.nil) hf (fun β S w h1 h2 h3 h4=>?_) fun _ _=>?_)
 ·obtain ⟨args,ha,hg⟩:=h β S w h1 h2 h3 h4
  refine ⟨args,ha,hg.mono fun v w' hv=>⟨hv.2,(),?_,hok,trivial,trivial⟩⟩
  rw [hv.1,← hX]
  exact SV.den_congr (m:=0) (fun i hi=>absurd hi (Nat.not_lt_zero i)) hok
 exact av5 (fun S w _ h=>h.2) hn
theorem n9 [Rd] [ci : CallI c.P f] (s : SV) (hX : s.den (fun _=>0) = X) (h : ∀ β S w,Up S w → (∀ k,S k → c.S0 k) → Keeps c.K c.w0 w → G.p S w → ∃ args,(y5 (ex c o)).map (SV.den β) = args ∧ Gives c.P f args w fun v w'=>v = X ∧ Ext w w') (hn : Run c (G3 (ex c o) s) G) (hc : c.Ok:=by exact ⟨c8,by assumption,l8⟩) (hv : (ex c o).vc = []:=by kernel_rfl) (hf : H9 f (ex c o) = true:=by kernel_rfl) (hok : s.Ok 0:=by exact bk8 rfl) : Run c o G:=
 s_K s hc hv hf hok hX h hn
theorem s_1 [Rd] [ci : CallI c.P f] (pat : Value → SV) (Δ : Value → Gh) (hc : c.Ok) (hv : (ex c o).vc = []) (hf : H9 f (ex c o) = true) (hok : ∀ a S w,(Δ a).p S w → (pat a).Ok 0 ∧ (pat a).den (fun _=>0) = a)
  (h : ∀ β S w,Up S w → (∀ k,S k → c.S0 k) → Keeps c.K c.w0 w → G.p S w → ∃ args,(y5 (ex c o)).map (SV.den β) = args ∧ Gives c.P f args w fun v w'=>Ext w w' ∧ (Δ v).p S w')
  (hn : ∀ a,Run c (G3 (ex c o) (pat a)) ((Δ a).and G)) : Run c o G:=by
 refine O6 hc hv (df5 f hc pat (fun _=>True) Δ hf (fun β S w h1 h2 h3 h4=>?_) fun a _=>hn a)
 obtain ⟨args,ha,hg⟩:=h β S w h1 h2 h3 h4
 refine ⟨args,ha,hg.mono fun v w' hv=>?_⟩
 obtain ⟨e1,e2⟩:=hok v S w' hv.2
 exact ⟨hv.1,v,by rw [SV.den_congr (m:=0) (β':=fun _=>0) (fun i hi=>absurd hi (Nat.not_lt_zero i)) e1,e2],e1,trivial,hv.2⟩
theorem ah1 [Rd] [ci : CallI c.P f] (pat : Value → SV) (Δ : Value → Gh) (hok : ∀ a S w,(Δ a).p S w → (pat a).Ok 0 ∧ (pat a).den (fun _=>0) = a) (h : ∀ β S w,Up S w → (∀ k,S k → c.S0 k) → Keeps c.K c.w0 w → G.p S w → ∃ args,(y5 (ex c o)).map (SV.den β) = args ∧ Gives c.P f args w fun v w'=>Ext w w' ∧ (Δ v).p S w') (hn : ∀ a,Run c (G3 (ex c o) (pat a)) ((Δ a).and G)) (hc : c.Ok:=by exact ⟨c8,by assumption,l8⟩) (hv : (ex c o).vc = []:=by kernel_rfl) (hf : H9 f (ex c o) = true:=by kernel_rfl) : Run c o G:=
 s_1 pat Δ hc hv hf hok h hn
theorem ff3 [Rd] [ci : CallI c.P f] (K : Nat) (D : Value → α → Gh) (e : α) (hc : c.Ok) (hv : (ex c o).vc = []) (hf : H9 f (ex c o) = true) (hok : ∀ a S w,(D a e).p S w → (SV.one (.ag K a)).Ok 0 ∧ (SV.one (.ag K a)).den (fun _=>0) = a)
  (h : ∀ β S w,Up S w → (∀ k,S k → c.S0 k) → Keeps c.K c.w0 w → G.p S w → ∃ args,(y5 (ex c o)).map (SV.den β) = args ∧ Gives c.P f args w fun v w'=>Ext w w' ∧ (D v e).p S w')
  (hn : ∀ a,Run c (G3 (ex c o) (.one (.ag K a))) ((D a e).and G)) : Run c o G:=s_1 (fun x=>.one (.ag K x)) (fun x=>D x e) hc hv hf hok h hn
theorem o6 [Rd] [ci : CallI c.P f] (K : Nat) (D : Value → α → Gh) (e : α) (h : ∀ β S w,Up S w → (∀ k,S k → c.S0 k) → Keeps c.K c.w0 w → G.p S w → ∃ args,(y5 (ex c o)).map (SV.den β) = args ∧ Gives c.P f args w fun v w'=>Ext w w' ∧ (D v e).p S w') (hn : ∀ a,Run c (G3 (ex c o) (.one (.ag K a))) ((D a e).and G)) (hc : c.Ok:=by exact ⟨c8,by assumption,l8⟩) (hv : (ex c o).vc = []:=by kernel_rfl) (hf : H9 f (ex c o) = true:=by kernel_rfl) (hok : ∀ a S w,(D a e).p S w → (SV.one (.ag K a)).Ok 0 ∧ (SV.one (.ag K a)).den (fun _=>0) = a:=by exact fun _ _ _ h=>⟨h.ok,rfl⟩) : Run c o G:=
 ff3 K D e hc hv hf hok h hn
theorem fd0 [Rd] (hc : c.Ok) (hv : (ex c o).vc = []) (hd : am1 (ex c o) = true) (hp : ar8 (ex c o) = p) (ht : p → Run c (J6 (ex c o) true) G) (hf : ¬ p → Run c (J6 (ex c o) false) G) : Run c o G:=O6 hc hv (dz2 hd hp ht hf)
theorem z7 [Rd] (ht : p → Run c (J6 (ex c o) true) G) (hf : ¬ p → Run c (J6 (ex c o) false) G) (hc : c.Ok:=by exact ⟨c8,by assumption,l8⟩) (hv : (ex c o).vc = []:=by kernel_rfl) (hd : am1 (ex c o) = true:=by kernel_rfl) (hp : ar8 (ex c o) = p:=by kernel_rfl) : Run c o G:=
 fd0 hc hv hd hp ht hf
theorem fa2 [Rd] (hc : c.Ok) (hv : (ex c o).vc = []) (hd : am1 (ex c o) = true) (hp : ar8 (ex c o) = p) (h : p) (ht : Run c (J6 (ex c o) true) G) : Run c o G:=O6 hc hv (fa0 hd hp h ht)
theorem am0 [Rd] (h : p) (ht : Run c (J6 (ex c o) true) G) (hc : c.Ok:=by exact ⟨c8,by assumption,l8⟩) (hv : (ex c o).vc = []:=by kernel_rfl) (hd : am1 (ex c o) = true:=by kernel_rfl) (hp : ar8 (ex c o) = p:=by kernel_rfl) : Run c o G:=
 fa2 hc hv hd hp h ht
theorem fc0 [Rd] (hc : c.Ok) (hv : (ex c o).vc = []) (hd : am1 (ex c o) = true) (hp : ar8 (ex c o) = p) (h : ¬ p) (ht : Run c (J6 (ex c o) false) G) : Run c o G:=O6 hc hv (fd9 hd hp h ht)
theorem as7 [Rd] (h : ¬ p) (ht : Run c (J6 (ex c o) false) G) (hc : c.Ok:=by exact ⟨c8,by assumption,l8⟩) (hv : (ex c o).vc = []:=by kernel_rfl) (hd : am1 (ex c o) = true:=by kernel_rfl) (hp : ar8 (ex c o) = p:=by kernel_rfl) : Run c o G:=
 fc0 hc hv hd hp h ht
theorem d33 [Rd] (d : Nat) (hc : c.Ok) (hv : (ex c o).vc = []) (hp : ac1 (ex c o).st d = some p) (ht : p → Run c (W9 (ex c o) d (.one (.bb true))) G) (hf : ¬ p → Run c (W9 (ex c o) d (.one (.bb false))) G) : Run c o G:=O6 hc hv (cg3 d hp ht hf)
theorem O8 [Rd] (d : Nat) (ht : p → Run c (W9 (ex c o) d (.one (.bb true))) G) (hf : ¬ p → Run c (W9 (ex c o) d (.one (.bb false))) G) (hc : c.Ok:=by exact ⟨c8,by assumption,l8⟩) (hv : (ex c o).vc = []:=by kernel_rfl) (hp : ac1 (ex c o).st d = some p:=by kernel_rfl) : Run c o G:=
 d33 d hc hv hp ht hf
theorem ch3 [Rd] (d : Nat) (hc : c.Ok) (hv : (ex c o).vc = []) (hp : ac1 (ex c o).st d = some p) (h : p) (ht : Run c (W9 (ex c o) d (.one (.bb true))) G) : Run c o G:=O6 hc hv (cd9 d hp h ht)
theorem K9 [Rd] (d : Nat) (h : p) (ht : Run c (W9 (ex c o) d (.one (.bb true))) G) (hc : c.Ok:=by exact ⟨c8,by assumption,l8⟩) (hv : (ex c o).vc = []:=by kernel_rfl) (hp : ac1 (ex c o).st d = some p:=by kernel_rfl) : Run c o G:=
 ch3 d hc hv hp h ht
theorem cv3 [Rd] (d : Nat) (hc : c.Ok) (hv : (ex c o).vc = []) (hp : ac1 (ex c o).st d = some p) (h : ¬ p) (ht : Run c (W9 (ex c o) d (.one (.bb false))) G) : Run c o G:=O6 hc hv (cu5 d hp h ht)
theorem Q1 [Rd] (d : Nat) (h : ¬ p) (ht : Run c (W9 (ex c o) d (.one (.bb false))) G) (hc : c.Ok:=by exact ⟨c8,by assumption,l8⟩) (hv : (ex c o).vc = []:=by kernel_rfl) (hp : ac1 (ex c o).st d = some p:=by kernel_rfl) : Run c o G:=
 cv3 d hc hv hp h ht
theorem b98 [Rd] (bs : List Nat) (t : Nat) (hc : c.Ok) (hv : (ex c o).vc = []) (hmo : c.P.follows .mixedOrders = true) (hd : a29 (ex c o) t = true)
  (h : Hd c (ao0 bs (ex c o).st) G (I8 (ex c o)) (fun acc=>∀ η,Run c ⟨.ops (I8 (ex c o)) ((I8 (ex c o)).drop t),(ex c o).k,⟨frH (ao0 bs (ex c o).st) acc η,U7 η acc ((ao0 bs (ex c o).st).hp ++ U8 η acc)⟩,[]⟩ (ar2 G η acc)) [] ((I8 (ex c o)).take t)) : Run c o G:=
 O6 hc hv (dk4 bs t hmo hc hd h)
theorem ai8 [Rd] (t : Nat) (hc : c.Ok) (hv : (ex c o).vc = []) (hmo : c.P.follows .mixedOrders = true) (hd : a29 (ex c o) t = true)
  (h : Hd c (ex c o).st G (I8 (ex c o)) (fun acc=>∀ η,Run c ⟨.ops (I8 (ex c o)) ((I8 (ex c o)).drop t),(ex c o).k,⟨frH (ex c o).st acc η,U7 η acc ((ex c o).st.hp ++ U8 η acc)⟩,[]⟩ (ar2 G η acc)) [] ((I8 (ex c o)).take t)) : Run c o G:=
 b98 [] t hc hv hmo hd h
theorem a8 [Rd] (t : Nat) (h : Hd c (ex c o).st G (I8 (ex c o)) (fun acc=>∀ η,Run c ⟨.ops (I8 (ex c o)) ((I8 (ex c o)).drop t),(ex c o).k,⟨frH (ex c o).st acc η,U7 η acc ((ex c o).st.hp ++ U8 η acc)⟩,[]⟩ (ar2 G η acc)) [] ((I8 (ex c o)).take t)) (hc : c.Ok:=by exact ⟨c8,by assumption,l8⟩) (hv : (ex c o).vc = []:=by kernel_rfl) (hmo : c.P.follows .mixedOrders = true:=by kernel_rfl) (hd : a29 (ex c o) t = true:=by kernel_rfl) : Run c o G:=
 ai8 t hc hv hmo hd h
end
theorem fb2 [Rd] {fn : Func} (v : Value) (hc : (Cx.fn P fn E w0 S0 Ψ).Ok) (hv0 : (ex (Cx.fn P fn E w0 S0 Ψ) o).vc = []) (hrs : fn.results.toList = rs) (he : ai1 (ex (Cx.fn P fn E w0 S0 Ψ) o) = true) (hv : ∀ β,ah8 E rs (ex (Cx.fn P fn E w0 S0 Ψ) o).st β = some v)
  (h : ∀ S w,(∀ k,S k → S0 k) → Ext w0 w → G.p S w → Ψ v w) : Run (Cx.fn P fn E w0 S0 Ψ) o G:=O6 hc hv0 (fc7 v hc hrs he hv h)
theorem j9 [Rd] {fn : Func} (v : Value) (hrs : fn.results.toList = rs) (h : ∀ S w,(∀ k,S k → S0 k) → Ext w0 w → G.p S w → Ψ v w) (hc : (Cx.fn P fn E w0 S0 Ψ).Ok:=by exact ⟨c8,by assumption,l8⟩) (hv0 : (ex (Cx.fn P fn E w0 S0 Ψ) o).vc = []:=by kernel_rfl) (he : ai1 (ex (Cx.fn P fn E w0 S0 Ψ) o) = true:=by kernel_rfl) (hv : ∀ β,ah8 E rs (ex (Cx.fn P fn E w0 S0 Ψ) o).st β = some v:=by intros; kernel_rfl) : Run (Cx.fn P fn E w0 S0 Ψ) o G:=
 fb2 v hc hv0 hrs he hv h
theorem c67 [Rd] {fn : Func} {Φ : List PanicEntry → World → Prop} (v : Value) (hc : (Cx.fnE P fn E w0 S0 Ψ Φ).Ok) (hv0 : (ex (Cx.fnE P fn E w0 S0 Ψ Φ) o).vc = []) (hrs : fn.results.toList = rs) (he : ai1 (ex (Cx.fnE P fn E w0 S0 Ψ Φ) o) = true) (hv : ∀ β,ah8 E rs (ex (Cx.fnE P fn E w0 S0 Ψ Φ) o).st β = some v)
  (h : ∀ S w,(∀ k,S k → S0 k) → Ext w0 w → G.p S w → Ψ v w) : Run (Cx.fnE P fn E w0 S0 Ψ Φ) o G:=O6 hc hv0 (d00 v hc hrs he hv h)
section
variable {c : Cx} {st : St} {G : Gh} {all : List Oper} {K : List HRec → Prop} {acc : List HRec} {ops : List Oper}
theorem h_K [ci : CallI c.P f] (s : SV) (hf : ∀ η,ac8 all st acc ops f η = true) (hok : s.Ok 0) (hX : s.den (fun _=>0) = X)
  (h : ∀ β η S w,Up S w → (∀ k,S k → c.S0 k) → Keeps c.K c.w0 w → G.p S w → depsH acc (opH ops).after.toList η S w → ∃ args,(y5 (bp8 st acc ops η)).map (SV.den β) = args ∧ Gives c.P f args w fun v w'=>v = X ∧ Ext w w')
  (k : Hd c st G all K (.spec ((opH ops).dst.getD 0) (fun _=>s) (fun _=>.nil) :: acc) (ops.drop 1)) : Hd c st G all K acc ops:=
 cs5 f (fun _=>s) (fun _=>.nil) hf (fun g d S w h1 h2 h3 h4 h5=>let ⟨args,ha,hg⟩:=h g d S w h1 h2 h3 h4 h5; ⟨args,ha,hg.mono fun v w' hv=>⟨hv.2,hv.1.trans hX.symm,hok,trivial⟩⟩) k
theorem af4 [ci : CallI c.P f] (s : SV) (hX : s.den (fun _=>0) = X) (h : ∀ β η S w,Up S w → (∀ k,S k → c.S0 k) → Keeps c.K c.w0 w → G.p S w → depsH acc (opH ops).after.toList η S w → ∃ args,(y5 (bp8 st acc ops η)).map (SV.den β) = args ∧ Gives c.P f args w fun v w'=>v = X ∧ Ext w w') (k : Hd c st G all K (.spec ((opH ops).dst.getD 0) (fun _=>s) (fun _=>.nil) :: acc) (ops.drop 1)) (hf : ∀ η,ac8 all st acc ops f η = true:=by intros; kernel_rfl) (hok : s.Ok 0:=by exact bk8 rfl) : Hd c st G all K acc ops:=
 h_K s hf hok hX h k
theorem h_1 [ci : CallI c.P f] (pat : Value → SV) (Δ : Value → Gh) (hf : ∀ η,ac8 all st acc ops f η = true) (hok : ∀ a S w,(Δ a).p S w → (pat a).Ok 0 ∧ (pat a).den (fun _=>0) = a)
  (h : ∀ β η S w,Up S w → (∀ k,S k → c.S0 k) → Keeps c.K c.w0 w → G.p S w → depsH acc (opH ops).after.toList η S w → ∃ args,(y5 (bp8 st acc ops η)).map (SV.den β) = args ∧ Gives c.P f args w fun v w'=>Ext w w' ∧ (Δ v).p S w')
  (k : Hd c st G all K (.spec ((opH ops).dst.getD 0) pat Δ :: acc) (ops.drop 1)) : Hd c st G all K acc ops:=
 cs5 f pat Δ hf (fun g d S w h1 h2 h3 h4 h5=>let ⟨args,ha,hg⟩:=h g d S w h1 h2 h3 h4 h5; ⟨args,ha,hg.mono fun v w' hv=>⟨hv.1,(hok v S w' hv.2).2.symm,(hok v S w' hv.2).1,hv.2⟩⟩) k
theorem fe5 [ci : CallI c.P f] (n : Nat) (D : Value → α → Gh) (e : α) (hf : ∀ η,ac8 all st acc ops f η = true) (hok : ∀ a S w,(D a e).p S w → (SV.one (.ag n a)).Ok 0 ∧ (SV.one (.ag n a)).den (fun _=>0) = a)
  (h : ∀ β η S w,Up S w → (∀ k,S k → c.S0 k) → Keeps c.K c.w0 w → G.p S w → depsH acc (opH ops).after.toList η S w → ∃ args,(y5 (bp8 st acc ops η)).map (SV.den β) = args ∧ Gives c.P f args w fun v w'=>Ext w w' ∧ (D v e).p S w')
  (k : Hd c st G all K (.spec ((opH ops).dst.getD 0) (fun x=>.one (.ag n x)) (fun x=>D x e) :: acc) (ops.drop 1)) : Hd c st G all K acc ops:=h_1 (fun x=>.one (.ag n x)) (fun x=>D x e) hf hok h k
theorem f4 [ci : CallI c.P f] (n : Nat) (D : Value → α → Gh) (e : α) (h : ∀ β η S w,Up S w → (∀ k,S k → c.S0 k) → Keeps c.K c.w0 w → G.p S w → depsH acc (opH ops).after.toList η S w → ∃ args,(y5 (bp8 st acc ops η)).map (SV.den β) = args ∧ Gives c.P f args w fun v w'=>Ext w w' ∧ (D v e).p S w') (k : Hd c st G all K (.spec ((opH ops).dst.getD 0) (fun x=>.one (.ag n x)) (fun x=>D x e) :: acc) (ops.drop 1)) (hf : ∀ η,ac8 all st acc ops f η = true:=by intros; kernel_rfl) (hok : ∀ a S w,(D a e).p S w → (SV.one (.ag n a)).Ok 0 ∧ (SV.one (.ag n a)).den (fun _=>0) = a:=by exact fun _ _ _ h=>⟨h.ok,rfl⟩) : Hd c st G all K acc ops:=
 fe5 n D e hf hok h k
theorem dep {q : Prop} (h : depsH acc es η S w) (j : Nat) (hj : E9 es j = true) (e : (cz2 η acc j).p S w = q) : q:=e ▸ h.all j hj
theorem j8 {q : Prop} (h : depsH acc es η S w) (j : Nat) (hj : E9 es j = true:=by kernel_rfl) (e : (cz2 η acc j).p S w = q:=by kernel_rfl) : q:=
 dep h j hj e
end
def aq6 (W : List (Nat × Nat)) : List (Nat × SV) → List (Nat × SV)
 | []=>[]
 | p :: r=>bif inW W p.1 then aq6 W r else p :: aq6 ((p.1,p.1) :: W) r
def av2 (hp : List HE) : List (Nat × HE) → List HE
 | []=>hp
 | (i,x) :: r=>Z9 (av2 hp r) i x
def stM (st : St) (W : List (Nat × Nat)) (ov : List (Nat × SV)) (oh : List (Nat × HE)) : St:=⟨ov ++ aq6 W st.fr,av2 st.hp oh⟩
theorem ak4 : ∀ {oh : List (Nat × HE)},(av2 hp oh).length = hp.length:=by
 intro oh
 induction oh with
 | nil=>rfl
 | cons p r ih=>obtain ⟨i,x⟩:=p; simp only [av2,O7,List.length_set,ih]
theorem c79 {d : Nat} (h : inW W d = true) : inW ((i,i) :: W) d = true:=by
 simp only [inW]
 cases Nat.ble i d <;> cases Nat.ble d i <;> simp [h]
theorem b24 : ∀ {fr : List (Nat × SV)} {W : List (Nat × Nat)} {d : Nat},inW W d = true → J8 (aq6 W fr) d = none:=by
 intro fr
 induction fr with
 | nil=>intro W d _; rfl
 | cons p r ih=>
  obtain ⟨i,x⟩:=p
  intro W d hd
  simp only [aq6]
  cases hb : inW W i with
  | true=>exact ih hd
  | false=>
   simp only [cond_false]
   rw [H6,if_neg (fun e=>by rw [e,hd] at hb; cases hb)]
   exact ih (c79 hd)
theorem cc5 : ∀ {fr : List (Nat × SV)} {W : List (Nat × Nat)} {d : Nat} {s : SV},J8 (aq6 W fr) d = some s → J8 fr d = some s:=by
 intro fr
 induction fr with
 | nil=>intro W d s h; exact h
 | cons p r ih=>
  obtain ⟨i,x⟩:=p
  intro W d s h
  simp only [aq6] at h
  rw [H6]
  cases hb : inW W i with
  | true=>
   rw [hb] at h
   by_cases e : i = d
   ·subst e
    have h2 : J8 (aq6 W r) i = some s:=h
    rw [b24 hb] at h2
    cases h2
   rw [if_neg e]
   exact ih h
  | false=>
   rw [hb] at h
   simp only [cond_false] at h
   rw [H6] at h
   split
   ·rename_i e
    rwa [if_pos e] at h
   rename_i e
   rw [if_neg e] at h
   exact ih h
theorem Sat.stOk (h : Sat base st β ρ w) : ak9 st:=by
 refine ⟨fun d s hs=>((h.fr d) s hs).2,fun x hx=>?_⟩
 obtain ⟨i,hi,rfl⟩:=List.mem_iff_getElem.1 hx
 cases he : st.hp[i] with
 | blk T l=>exact (h.mem.blk i T l (by rw [List.getElem?_eq_getElem hi,he])).2
 | row T s v n cs=>trivial
 | gone=>trivial
 | abs A=>trivial
 | hid T l=>trivial
theorem ch8 {ov : List (Nat × SV)} {oh : List (Nat × HE)} (h : ak9 st) (h1 : ∀ p ∈ ov,p.2.Ok st.hp.length) (h2 : ∀ p ∈ oh,p.2.Ok st.hp.length) : ak9 (stM st W ov oh):=by
 have hl : (stM st W ov oh).hp.length = st.hp.length:=ak4
 refine ⟨fun d s hs=>?_,fun x hx=>?_⟩
 ·rw [hl]
  have hs' : J8 (ov ++ aq6 W st.fr) d = some s:=hs
  rw [bc9] at hs'
  cases he : J8 ov d with
  | some y=>
   rw [he] at hs'
   simp only [Option.some.injEq] at hs'
   subst hs'
   exact h1 _ (c39 he)
  | none=>rw [he] at hs'; exact h.1 d s (cc5 hs')
 rw [hl]
 have aux : ∀ {oh : List (Nat × HE)},(∀ p ∈ oh,p.2.Ok st.hp.length) → ∀ x ∈ av2 st.hp oh,x.Ok st.hp.length:=by
  intro oh
  induction oh with
  | nil=>intro _ x hx; exact h.2 x hx
  | cons p r ih=>
   obtain ⟨i,y⟩:=p
   intro hp x hx
   simp only [av2,O7] at hx
   rcases List.mem_or_eq_of_mem_set hx with hx | rfl
   ·exact ih (fun p hp'=>hp p (List.mem_cons_of_mem _ hp')) x hx
   exact hp _ (List.mem_cons_self ..)
 exact aux h2 x hx
def bn3 (m : Nat) : Ch → Bool
 | .val _=>false
 | .ag _ _=>false
 | .sl _ _=>false
 | .fn _ cap=>cap.all fun c=>match c with | .inl b=>Nat.blt b m | .inr _=>true
 | .ptr b _=>Nat.blt b m
 | .win b _ _ _=>Nat.blt b m
 | _=>true
theorem a90 {c : Ch} (h : bn3 m c = true) : c.Ok m:=by
 cases c with
 | val x=>cases h
 | ag n x=>cases h
 | sl x n=>cases h
 | fn g cap=>exact fun b hb=>Nat.le_of_ble_eq_true (List.all_eq_true.1 h _ hb)
 | ptr b o=>exact Nat.le_of_ble_eq_true h
 | win b o n c=>exact Nat.le_of_ble_eq_true h
 | _=>trivial
theorem dz3 {l : List Ch} (h : l.all (bn3 m) = true) : (SV.agg l).Ok m:=fun c hc=>a90 (List.all_eq_true.1 h c hc)
def d16 (m : Nat) : SV → Bool
 | .one c=>bn3 m c
 | .agg l=>l.all (bn3 m)
 | .tup _=>false
 | .und=>true
theorem z8 {l : List (Nat × SV)} (h : (l.all fun p=>d16 0 p.2) = true) : ∀ p ∈ l,p.2.Ok m:=by
 intro p hp
 have h1:=List.all_eq_true.1 h p hp
 refine SV.Ok.le (m:=0) ?_ (Nat.zero_le _)
 obtain ⟨d,s⟩:=p
 cases s with
 | one c=>exact a90 h1
 | agg l=>exact dz3 h1
 | tup l=>cases h1
 | und=>trivial
def chB : Ch → Bool
 | .sl (.slice _ n k) m=>Nat.beq n m && Nat.ble m k
 | c=>bn3 0 c
theorem cm3 {c : Ch} (h : chB c = true) : c.Ok 0:=by
 unfold chB at h
 split at h
 ·simp only [Bool.and_eq_true] at h
  obtain rfl:=Nat.eq_of_beq_eq_true h.1
  exact ⟨_,_,rfl,Nat.le_of_ble_eq_true h.2⟩
 exact a90 h
def svB : SV → Bool
 | .one c=>chB c
 | .agg l=>l.all chB
 | .tup l=>l.all fun p=>p.2.all chB
 | .und=>true
theorem bk8 {s : SV} (h : svB s = true) : s.Ok 0:=by
 cases s with
 | one c=>exact cm3 h
 | agg l=>exact fun c hc=>cm3 (List.all_eq_true.1 h c hc)
 | tup l=>exact fun p hp c hc=>cm3 (List.all_eq_true.1 (List.all_eq_true.1 h p hp) c hc)
 | und=>trivial
section
variable {c : Cx} {o : Out} {G : Gh} {ι : Type}
theorem fa6 [Rd] (W : List (Nat × Nat)) (ov : ι → List (Nat × SV)) (oh : ι → List (Nat × HE)) (GI : ι → Gh) (pre : ι → Prop) (hc : c.Ok) (hv : (ex c o).vc = [])
  (h1 : ak9 (ex c o).st → Run (c.sub (aq7 c (fun i=>stM (ex c o).st W (ov i) (oh i)) GI pre) (ex c o).k) ⟨(ex c o).cur,[],(ex c o).st,[]⟩ G)
  (h2 : ∀ i,pre i → Run c ⟨.ex .normal,(ex c o).k,stM (ex c o).st W (ov i) (oh i),[]⟩ (GI i)) : Run c o G:=by
 refine O6 hc hv ⟨fun β ρ w hS hw hG=>?_⟩
 exact (fb7 _ GI pre (fun _=>Nat.le_of_eq ak4.symm) (h1 hS.stOk) h2).run β ρ w hS hw hG
theorem b13 [Rd] (W : List (Nat × Nat)) (ov : ι → List (Nat × SV)) (oh : ι → List (Nat × HE)) (GN : ι → Gh → Gh) (pre : ι → Prop) (hc : c.Ok) (hv : (ex c o).vc = [])
  (h1 : ak9 (ex c o).st → Run (c.sub (aq7 c (fun i=>stM (ex c o).st W (ov i) (oh i)) (fun i=>GN i G) pre) (ex c o).k) ⟨(ex c o).cur,[],(ex c o).st,[]⟩ G)
  (h2 : ∀ i,pre i → Run c ⟨.ex .normal,(ex c o).k,stM (ex c o).st W (ov i) (oh i),[]⟩ (GN i G)) : Run c o G:=fa6 W ov oh (fun i=>GN i G) pre hc hv h1 h2
theorem d67 [Rd] {ov : ι → List (Nat × SV)} {oh : ι → List (Nat × HE)} {GI : ι → Gh} {pre : ι → Prop} {k : List Kt} (i : ι) (hc : c.Ok) (hso : ak9 st0) (hv : (ex (c.sub (aq7 c (fun i=>stM st0 W (ov i) (oh i)) GI pre) k) o).vc = [])
  (he : at0 (ex (c.sub (aq7 c (fun i=>stM st0 W (ov i) (oh i)) GI pre) k) o) = true)
  (hf : ∀ β,frV β (ex (c.sub (aq7 c (fun i=>stM st0 W (ov i) (oh i)) GI pre) k) o).st.fr (stM st0 W (ov i) (oh i)).fr = bp6 β (stM st0 W (ov i) (oh i)).fr)
  (hh : ∀ β,aa1 β (ex (c.sub (aq7 c (fun i=>stM st0 W (ov i) (oh i)) GI pre) k) o).st.hp (stM st0 W (ov i) (oh i)).hp = (stM st0 W (ov i) (oh i)).hp.map (HE.den β))
  (hl : Nat.ble (stM st0 W (ov i) (oh i)).hp.length (ex (c.sub (aq7 c (fun i=>stM st0 W (ov i) (oh i)) GI pre) k) o).st.hp.length = true)
  (hp : pre i) (ho : ∀ S w,Keeps c.K c.w0 w → G.p S w → (∀ p ∈ ov i,p.2.Ok st0.hp.length) ∧ ∀ p ∈ oh i,p.2.Ok st0.hp.length) (hg : ∀ S w,Keeps c.K c.w0 w → G.p S w → (GI i).p S w) :
  Run (c.sub (aq7 c (fun i=>stM st0 W (ov i) (oh i)) GI pre) k) o G:=
 O6 hc.sub hv (d17 i he hp (cc3 hf hh hl) (fun S w g h=>let ⟨h1,h2⟩:=ho S w g h; ch8 hso h1 h2) hg)
theorem x7 [Rd] {ov : ι → List (Nat × SV)} {oh : ι → List (Nat × HE)} {GI : ι → Gh} {pre : ι → Prop} {k : List Kt} (i : ι) (hso : ak9 st0) (hp : pre i) (ho : ∀ S w,Keeps c.K c.w0 w → G.p S w → (∀ p ∈ ov i,p.2.Ok st0.hp.length) ∧ ∀ p ∈ oh i,p.2.Ok st0.hp.length) (hg : ∀ S w,Keeps c.K c.w0 w → G.p S w → (GI i).p S w) (hc : c.Ok:=by exact ⟨c8,by assumption,l8⟩) (hv : (ex (c.sub (aq7 c (fun i=>stM st0 W (ov i) (oh i)) GI pre) k) o).vc = []:=by kernel_rfl) (he : at0 (ex (c.sub (aq7 c (fun i=>stM st0 W (ov i) (oh i)) GI pre) k) o) = true:=by kernel_rfl) (hf : ∀ β,frV β (ex (c.sub (aq7 c (fun i=>stM st0 W (ov i) (oh i)) GI pre) k) o).st.fr (stM st0 W (ov i) (oh i)).fr = bp6 β (stM st0 W (ov i) (oh i)).fr:=by intros; kernel_rfl) (hh : ∀ β,aa1 β (ex (c.sub (aq7 c (fun i=>stM st0 W (ov i) (oh i)) GI pre) k) o).st.hp (stM st0 W (ov i) (oh i)).hp = (stM st0 W (ov i) (oh i)).hp.map (HE.den β):=by intros; kernel_rfl) (hl : Nat.ble (stM st0 W (ov i) (oh i)).hp.length (ex (c.sub (aq7 c (fun i=>stM st0 W (ov i) (oh i)) GI pre) k) o).st.hp.length = true:=by kernel_rfl) : Run (c.sub (aq7 c (fun i=>stM st0 W (ov i) (oh i)) GI pre) k) o G:=
 d67 i hc hso hv he hf hh hl hp ho hg
theorem d73 [Rd] (W : List (Nat × Nat)) (ov : ι → List (Nat × SV)) (oh : ι → List (Nat × HE)) (GI : ι → Gh) (pre : ι → Prop) (m : ι → Nat) (i : ι) (hc : c.Ok) (hv : (ex c o).vc = []) (he : b05 (ex c o) = true)
  (hf : ∀ β,frV β (ex c o).st.fr (stM (ex c o).st W (ov i) (oh i)).fr = bp6 β (stM (ex c o).st W (ov i) (oh i)).fr)
  (hh : ∀ β,aa1 β (ex c o).st.hp (stM (ex c o).st W (ov i) (oh i)).hp = (stM (ex c o).st W (ov i) (oh i)).hp.map (HE.den β))
  (hl : Nat.ble (stM (ex c o).st W (ov i) (oh i)).hp.length (ex c o).st.hp.length = true)
  (hp : pre i) (ho : ∀ S w,Keeps c.K c.w0 w → G.p S w → (∀ p ∈ ov i,p.2.Ok (ex c o).st.hp.length) ∧ ∀ p ∈ oh i,p.2.Ok (ex c o).st.hp.length) (hg : ∀ S w,Keeps c.K c.w0 w → G.p S w → (GI i).p S w)
  (hb : ak9 (ex c o).st → ∀ i,pre i → Run (c.sub (ax8 c (fun i=>stM (ex c o).st W (ov i) (oh i)) GI pre m i) (ex c o).k) ⟨.code (at2 (ex c o)),[],stM (ex c o).st W (ov i) (oh i),[]⟩ (GI i)) : Run c o G:=by
 refine O6 hc hv ⟨fun β ρ w hS hw hG=>?_⟩
 exact (dw0 _ GI pre m i (fun _=>Nat.le_of_eq ak4.symm) he hp (cc3 hf hh hl) (fun S w g h=>let ⟨h1,h2⟩:=ho S w g h; ch8 hS.stOk h1 h2) hg (hb hS.stOk)).run β ρ w hS hw hG
theorem ac0 [Rd] (W : List (Nat × Nat)) (ov : ι → List (Nat × SV)) (oh : ι → List (Nat × HE)) (GN : ι → Gh → Gh) (pre : ι → Prop) (m : ι → Nat) (i : ι) (hc : c.Ok) (hv : (ex c o).vc = []) (he : b05 (ex c o) = true)
  (hf : ∀ β,frV β (ex c o).st.fr (stM (ex c o).st W (ov i) (oh i)).fr = bp6 β (stM (ex c o).st W (ov i) (oh i)).fr)
  (hh : ∀ β,aa1 β (ex c o).st.hp (stM (ex c o).st W (ov i) (oh i)).hp = (stM (ex c o).st W (ov i) (oh i)).hp.map (HE.den β))
  (hl : Nat.ble (stM (ex c o).st W (ov i) (oh i)).hp.length (ex c o).st.hp.length = true)
  (hp : pre i) (ho : ∀ S w,Keeps c.K c.w0 w → G.p S w → (∀ p ∈ ov i,p.2.Ok (ex c o).st.hp.length) ∧ ∀ p ∈ oh i,p.2.Ok (ex c o).st.hp.length) (hg : ∀ S w,Keeps c.K c.w0 w → G.p S w → (GN i G).p S w)
  (hb : ak9 (ex c o).st → ∀ i,pre i → Run (c.sub (ax8 c (fun i=>stM (ex c o).st W (ov i) (oh i)) (fun i=>GN i G) pre m i) (ex c o).k) ⟨.code (at2 (ex c o)),[],stM (ex c o).st W (ov i) (oh i),[]⟩ (GN i G)) : Run c o G:=d73 W ov oh (fun i=>GN i G) pre m i hc hv he hf hh hl hp ho hg hb
theorem ac7 [Rd] {ov : ι → List (Nat × SV)} {oh : ι → List (Nat × HE)} {GI : ι → Gh} {pre : ι → Prop} {m : ι → Nat} {j : ι} {k : List Kt} (i : ι) (hc : c.Ok) (hso : ak9 st0) (hv : (ex (c.sub (ax8 c (fun i=>stM st0 W (ov i) (oh i)) GI pre m j) k) o).vc = [])
  (he : at0 (ex (c.sub (ax8 c (fun i=>stM st0 W (ov i) (oh i)) GI pre m j) k) o) = true)
  (hf : ∀ β,frV β (ex (c.sub (ax8 c (fun i=>stM st0 W (ov i) (oh i)) GI pre m j) k) o).st.fr (stM st0 W (ov i) (oh i)).fr = bp6 β (stM st0 W (ov i) (oh i)).fr)
  (hh : ∀ β,aa1 β (ex (c.sub (ax8 c (fun i=>stM st0 W (ov i) (oh i)) GI pre m j) k) o).st.hp (stM st0 W (ov i) (oh i)).hp = (stM st0 W (ov i) (oh i)).hp.map (HE.den β))
  (hl : Nat.ble (stM st0 W (ov i) (oh i)).hp.length (ex (c.sub (ax8 c (fun i=>stM st0 W (ov i) (oh i)) GI pre m j) k) o).st.hp.length = true)
  (hp : pre i) (hlt : m i < m j) (ho : ∀ S w,Keeps c.K c.w0 w → G.p S w → (∀ p ∈ ov i,p.2.Ok st0.hp.length) ∧ ∀ p ∈ oh i,p.2.Ok st0.hp.length) (hg : ∀ S w,Keeps c.K c.w0 w → G.p S w → (GI i).p S w) :
  Run (c.sub (ax8 c (fun i=>stM st0 W (ov i) (oh i)) GI pre m j) k) o G:=
 O6 hc.sub hv (ds9 i he hp hlt (cc3 hf hh hl) (fun S w g h=>let ⟨h1,h2⟩:=ho S w g h; ch8 hso h1 h2) hg)
theorem dv6 [Rd] {k : List Kt} (hc : c.Ok) (hv : (ex (c.sub R k) o).vc = []) (he : cp4 (ex (c.sub R k) o) = true) (h : Run c ⟨(ex (c.sub R k) o).cur,k,(ex (c.sub R k) o).st,[]⟩ G) : Run (c.sub R k) o G:=O6 hc.sub hv (fa5 he h)
theorem al7 [Rd] {k : List Kt} (h : Run c ⟨(ex (c.sub R k) o).cur,k,(ex (c.sub R k) o).st,[]⟩ G) (hc : c.Ok:=by exact ⟨c8,by assumption,l8⟩) (hv : (ex (c.sub R k) o).vc = []:=by kernel_rfl) (he : cp4 (ex (c.sub R k) o) = true:=by kernel_rfl) : Run (c.sub R k) o G:=
 dv6 hc hv he h
end
abbrev n5 (v : Value) (q : Rat) : Gh:=⟨fun S w=>RatV S w v q,fun h k=>h.keep k,fun h k=>h.mono k⟩
abbrev qG (v : Value) (q : Rat) : Gh:=⟨fun S w=>QV S w v q,fun h k=>h.keep k,fun h k=>h.mono k⟩
abbrev c52 (v : Value) (z : Int) : Gh:=⟨fun S w=>IntV S 227 .u32 w v z,fun h k=>h.keep k,fun h k=>h.mono k⟩
theorem RatV.ok {v : Value} (h : RatV S w v q) : (SV.one (.ag 3 v)).Ok 0:=by
 obtain ⟨m,b,rfl,hm,hb⟩:=h
 exact ⟨[_,m,b],rfl,rfl,c85 rfl hm.one hb.one⟩
theorem QV.ok {v : Value} (h : QV S w v q) : (SV.one (.ag 4 v)).Ok 0:=by
 obtain ⟨m,b,rfl,hm,hb⟩:=h
 exact ⟨[_,m,_,b],rfl,rfl,du1 rfl hm.one rfl hb.one⟩
theorem IntV.ok {k : IntKind} {v : Value} {z : Int} (h : IntV S T k w v z) : (SV.one (.ag 2 v)).Ok 0:=by
 obtain ⟨m,rfl,hm⟩:=h
 exact ⟨[_,m],rfl,rfl,dt4 rfl hm.one⟩
def O3 (v : Value) (i : Nat) : Value:=match v with | .tuple l=>l.getD i undef | _=>undef
theorem gK {Y : Value} (h : Gives P f args w fun v w'=>v = X ∧ Ext w w') (e : X = Y) : Gives P f args w fun v w'=>v = Y ∧ Ext w w':=e ▸ h
abbrev pr (x y : Ch) : SV:=.tup [(false,[x]),(false,[y])]
theorem bd0 {x y : Ch} (hx : x.Ok m) (hy : y.Ok m) : (pr x y).Ok m:=fun p hp c hc=>by
 simp only [List.mem_cons,List.not_mem_nil,or_false] at hp
 rcases hp with rfl | rfl <;> (simp only [List.mem_singleton] at hc; subst hc; assumption)
def N6 : Value → Value
 | .tuple l=>l.getD 0 undef
 | _=>undef
abbrev ax3 (v : Value) (q : Rat) (e : Int) : Gh:=⟨fun S w=>v = .tuple #[N6 v,.int .i64 e] ∧ RatV S w (N6 v) q,fun h k=>⟨h.1,h.2.keep k⟩,fun h k=>⟨h.1,h.2.mono k⟩⟩
theorem aj7 {v : Value} {e : Int} (h : (ax3 v q e).p S w) : (pr (.ag 3 (N6 v)) (.lit .i64 e)).Ok 0 ∧ (pr (.ag 3 (N6 v)) (.lit .i64 e)).den (fun _=>0) = v:=⟨bd0 h.2.ok trivial,h.1.symm⟩
theorem fb0 {X : Rat} {E : Int} (d : d52 X E q) (h : Gives P f args w fun v w'=>Ext w w' ∧ bn6 S w' v q) : Gives P f args w fun v w'=>Ext w w' ∧ (ax3 v X E).p S w':=
 h.mono fun v w' ⟨k,r,e,hv,ht⟩=>⟨k,by
  subst hv
  rcases d with ⟨h1,rfl,rfl⟩ | ⟨h1,rfl,rfl⟩ <;> rcases ht with ⟨h4,rfl,h6⟩ | ⟨h4,rfl,h6⟩ <;> first | exact ⟨rfl,h6⟩ | exact absurd h1 h4 | exact absurd h4 h1⟩
abbrev bG (F : Value → Gh) (b : Bool) (v : Value) : Gh:=⟨fun S w=>v = .tuple #[O3 v 0,.bool b] ∧ (F (O3 v 0)).p S w,fun h k=>⟨h.1,(F _).keep h.2 k⟩,fun h k=>⟨h.1,(F _).mono h.2 k⟩⟩
theorem af1 (hr : rl q n) (hn : n ≤ 3344) : aa8 q:=
 ⟨Nat.lt_of_lt_of_le (A6 _) (Nat.le_trans (R8 (Nat.le_trans hr.1 hn)) bf1),Nat.lt_of_lt_of_le (A6 _) (Nat.le_trans (R8 (Nat.le_trans hr.2 hn)) bf1)⟩
section
variable {c : Cx} {o : Out} {G : Gh} {f : FuncId} [ci : CallI c.P f]
end
abbrev fd1 (T : TypeId) (sz : Nat) (v : Value) (n : Nat) (cs : List Value) : Gh:=⟨fun S w=>Row S T sz w v n cs,fun h k=>h.keep k,fun h k=>h.mono k⟩
def bp9 (o : Out) : Option (Nat × Op):=match o.cur with | .ops _ (o1 :: _)=>(match o1.guard,o1.dst with | none,some d=>some (d,o1.op) | _,_=>none) | _=>none
def du9 (o : Out) : Option Op:=match o.cur with | .ops _ (o1 :: _)=>(match o1.guard,o1.dst with | none,none=>some o1.op | _,_=>none) | _=>none
def ab1 (o : Out) (s : SV) (hp : List HE) : Out:=match o.cur with | .ops all (o1 :: r)=>⟨.ops all r,o.k,⟨(o1.dst.getD 0,s) :: o.st.fr,hp⟩,[]⟩ | _=>o
def co0 (o : Out) (hp : List HE) : Out:=match o.cur with | .ops all (o1 :: r)=>⟨.ops all r,o.k,⟨o.st.fr,hp⟩,[]⟩ | _=>o
section
variable {c : Cx} {o : Out} {G : Gh}
theorem br9 [Rd] {d : Nat} {op : Op} (pat : α → SV) (Δ : α → Gh) (hop : bp9 o = some (d,op))
  (h : ∀ β S w F ty,ah6 β o.st.hp.length o.st.fr (ev F) op → Mem c.bs o.st.hp β w → Up S w → (∀ k,S k → c.S0 k) → Keeps c.K c.w0 w → G.p S w → ∃ a w',Ext w w' ∧ (pat a).Ok o.st.hp.length ∧ (Δ a).p S w' ∧ ai5 c.P (ev F) op ty w ((pat a).den β) ∧ w' = w)
  (hc : c.Ok) (hn : ∀ a,Run c (ab1 o (pat a) o.st.hp) ((Δ a).and G)) : Run c o G:=by
 refine ⟨fun β ρ w hS hw hG=>?_⟩
 unfold bp9 at hop
 cases hcur : o.cur with
 | code x=>rw [hcur] at hop; cases hop
 | ex e=>rw [hcur] at hop; cases hop
 | ops all l=>
  cases l with
  | nil=>rw [hcur] at hop; cases hop
  | cons o1 r=>
   rw [hcur] at hop
   obtain ⟨dst,op',ty,pos,aft,g⟩:=o1
   simp only at hop
   cases g with
   | some x=>cases hop
   | none=>
    cases dst with
    | none=>cases hop
    | some d'=>
     simp only [Option.some.injEq,Prod.mk.injEq] at hop
     obtain ⟨rfl,rfl⟩:=hop
     obtain ⟨a,w',hk,hok,hΔ,hr,rfl⟩:=h β _ w ρ ty (hS.ops _) hS.mem (Sof.up (hc.up.to hw) hS.mem) (fun k g=>g.1) hw hG
     refine aw8 rfl ?_
     unfold Stp
     rw [hr]
     have h1:=(hn a).run
     unfold ab1 at h1
     rw [hcur] at h1
     exact h1 β _ w' (hS.put rfl hok) hw ⟨hΔ,hG⟩
def dy1 (E : Env) (o : Out) : Option (Value × Nat × Int × TypeId × Nat):=
 match bp9 o with
 | some (_,.indexAddr t x ix)=>match opd o.st.fr x,opd o.st.fr ix,B9 E t with
  | some (.one (.sl v n)),some (.one (.int _ i)),.slice e=>(E.get e).map fun te=>(v,n,i,e,te.size)
  | some (.one (.sl v n)),some (.one (.lit _ i)),.slice e=>(E.get e).map fun te=>(v,n,i,e,te.size)
  | _,_,_=>none
 | _=>none
theorem dg0 [Rd] (v : Value) (n : Nat) (i : Int) (e : TypeId) (sz : Nat) (hq : dy1 c.E o = some (v,n,i,e,sz)) (hc : c.Ok) (h0 : 0 ≤ i) (h1 : i < n) (hrow : ∀ β S w,Mem c.bs o.st.hp β w → Keeps c.K c.w0 w → G.p S w → ∃ S' T' cs,Row S' T' sz w v n cs)
  (hn : Run c (ab1 o (.one (.val (.pointer (some (adr v (i.toNat * sz)))))) o.st.hp) G) : Run c o G:=by
 unfold dy1 at hq
 split at hq <;> first | (cases hq; done) | skip
 rename_i d t x ix hop
 have key : ∀ (ch : Ch) (kk : IntKind),(∀ β,ch.den β = .int kk i) → opd o.st.fr x = some (.one (.sl v n)) → opd o.st.fr ix = some (.one ch) → B9 c.E t = .slice e → ∀ te,c.E.get e = some te → te.size = sz → Run c o G:=by
  intro ch kk hch hx hi hk te hte hsz
  subst hsz
  refine br9 (α:=Unit) (fun _=>.one (.val (.pointer (some (adr v (i.toNat * te.size)))))) (fun _=>.nil) hop (fun β S w F ty hkn hM hup hS hw hG=>⟨(),w,.refl,rfl,trivial,?_,rfl⟩) hc fun _=>av5 (fun S w _ h=>h.2) hn
  obtain ⟨S',T',cs,hr⟩:=hrow β S w hM hw hG
  have g1:=(hkn x (by simp [Op.operands]) _ hx).1
  have g2:=(hkn ix (by simp [Op.operands]) _ hi).1
  have hkd:=D8 (t:=t) hc.env
  rw [hk] at hkd
  have hkd' : c.P.underlying t = some (.slice e):=hkd
  obtain ⟨z,hty,_⟩:=(hc.env.get hte).ty
  intro d pos aft g
  rcases hr.2 with ⟨_,h2⟩ | ⟨gg,off,cap,arr,fr,hv2,_⟩
  ·omega
  have g1' : ev F x = .slice (some ⟨gg,off,none⟩) n cap:=by rw [g1]; exact hv2
  have g2' : ev F ix = .int kk i:=by rw [g2]; exact hch β
  simp [execOp,g1',g2',Instr.indexAt,asIntOf,run_underlying hkd',h0,h1,hty.runSize w,adr,hv2,Z0,SV.den,Ch.den]
 split at hq <;> first | (cases hq; done) | skip
 ·rename_i v' n' kk i' e' hx hi hk
  cases hte : c.E.get e' with
  | none=>rw [hte] at hq; cases hq
  | some te=>
   rw [hte] at hq
   simp only [Option.map_some,Option.some.injEq,Prod.mk.injEq] at hq
   obtain ⟨rfl,rfl,rfl,rfl,hsz⟩:=hq
   exact key _ kk (fun _=>rfl) hx hi hk te hte hsz
 rename_i v' n' kk i' e' hx hi hk
 cases hte : c.E.get e' with
 | none=>rw [hte] at hq; cases hq
 | some te=>
  rw [hte] at hq
  simp only [Option.map_some,Option.some.injEq,Prod.mk.injEq] at hq
  obtain ⟨rfl,rfl,rfl,rfl,hsz⟩:=hq
  exact key _ kk (fun _=>rfl) hx hi hk te hte hsz
def ldQ (E : Env) (o : Out) : Option (Value × TypeId × Nat × Bool):=
 match bp9 o with
 | some (_,.load T x)=>match opd o.st.fr x with
  | some (.one (.val p))=>(E.get T).map fun te=>(p,T,te.size,te.agg)
  | _=>none
 | _=>none
end
section
variable {base : Bs} {st : St} {β : Nat → Nat} {ρ : Fr} {w w' : World} {d : Nat} {T : TypeId} {s n : Nat} {v : Value} {cs : List Value}
theorem bs2 {bb : Nat} (h : Own bb T s w v n cs) : ∃ a cap,v = .slice a n cap ∧ n ≤ cap:=by
 rcases h.2 with ⟨h1,h2⟩ | ⟨g,cap,cur,rfl,_,_,h3,_⟩
 ·subst h2; exact ⟨none,0,h1,Nat.le_refl _⟩
 exact ⟨_,cap,rfl,h3⟩
theorem a03 : m7 β (hp ++ [.row T s v n cs]) i k ↔ (i = hp.length ∧ v.ownBlock = some k) ∨ (i ≠ hp.length ∧ m7 β hp i k):=by
 by_cases e : i = hp.length
 ·subst e
  rw [U3 (e:=.row T s v n cs) (by simp)]
  simp [HE.mine]
 by_cases hl : i < hp.length
 ·unfold m7
  rw [List.getElem?_append_left hl]
  simp [e]
 have h1 : ¬ m7 β hp i k:=aj5 (List.getElem?_eq_none (by omega))
 have h2 : ¬ m7 β (hp ++ [.row T s v n cs]) i k:=aj5 (List.getElem?_eq_none (by simp; omega))
 simp [e,h1,h2]
theorem Sat.newRow (h : Sat base st β ρ w) (k : Ext w w') (hown : Own 0 T s w' v n cs) (hb : base.n ≤ w.heap.size) (hnew : ∀ g,v.ownBlock = some g → w.heap.size ≤ g) :
  Sat base ⟨st.fr,st.hp ++ [.row T s v n cs]⟩ β ρ w':=by
 have hlen : (st.hp ++ [HE.row T s v n cs]).length = st.hp.length + 1:=by simp
 have h2:=h.to k
 have inv : ∀ {i : Nat} {x : HE},(st.hp ++ [HE.row T s v n cs])[i]? = some x → (i < st.hp.length ∧ st.hp[i]? = some x) ∨ (i = st.hp.length ∧ x = .row T s v n cs):=by
  intro i x hi
  have h3:=(List.getElem?_eq_some_iff.1 hi).1
  rw [hlen] at h3
  rcases Nat.lt_or_ge i st.hp.length with h4 | h4
  ·rw [List.getElem?_append_left h4] at hi; exact .inl ⟨h4,hi⟩
  obtain rfl : i = st.hp.length:=by omega
  simp at hi
  exact .inr ⟨rfl,hi.symm⟩
 refine ⟨fun i s' hs=>?_,⟨?_,?_,?_,?_,?_⟩,by rw [hlen]; exact Nat.le_succ_of_le h.agr.1,h.agr.2⟩
 ·rw [hlen]
  obtain ⟨e1,e2⟩:=h.fr i s' hs
  exact ⟨e1,e2.le (Nat.le_succ _)⟩
 ·intro i T' l hi
  rw [hlen]
  rcases inv hi with ⟨_,h4⟩ | ⟨_,h4⟩
  ·obtain ⟨e1,e2⟩:=h2.mem.blk i T' l h4
   exact ⟨e1,fun c hc=>(e2 c hc).le (Nat.le_succ _)⟩
  cases h4
 ·intro i T' s' v' n' cs' hi
  rcases inv hi with ⟨_,h4⟩ | ⟨_,h4⟩
  ·exact h2.mem.row i T' s' v' n' cs' h4
  cases h4; exact hown
 ·intro i A hi
  rcases inv hi with ⟨_,h4⟩ | ⟨_,h4⟩
  ·exact h2.mem.abs i A h4
  cases h4
 ·intro i k' hk
  rw [a03] at hk
  rcases hk with ⟨_,hk⟩ | ⟨_,hk⟩
  ·exact ⟨.inl (Nat.le_trans hb (hnew k' hk)),(hown.lt k' hk).2⟩
  exact h2.mem.low i k' hk
 intro i j k' hi hj
 rw [a03] at hi hj
 rcases hi with ⟨e1,hi⟩ | ⟨e1,hi⟩ <;> rcases hj with ⟨e2,hj⟩ | ⟨e2,hj⟩
 ·omega
 ·have:=(h.mem.low j k' hj).2
  have:=hnew k' hi
  omega
 ·have:=(h.mem.low i k' hi).2
  have:=hnew k' hj
  omega
 exact h.mem.apart i j k' hi hj
theorem dr2 (hnew : ∀ g,v.ownBlock = some g → w.heap.size ≤ g) : ∀ k,k < w.heap.size → Sof S0 β hp k → Sof S0 β (hp ++ [.row T s v n cs]) k:=by
 intro k hk ⟨h1,h2⟩
 refine ⟨h1,fun i hi=>?_⟩
 rw [a03] at hi
 rcases hi with ⟨_,hi⟩ | ⟨_,hi⟩
 ·have:=hnew k hi; omega
 exact h2 i hi
theorem al4 {T' : TypeId} {s' : Nat} (hb : b < hp.length) (i k : Nat) : m7 β (hp.set b (.row T' s' v' n' cs')) i k ↔ (b = i ∧ v'.ownBlock = some k) ∨ (b ≠ i ∧ m7 β hp i k):=by
 by_cases e : b = i
 ·subst e
  rw [U3 (List.getElem?_set_self hb)]
  simp [HE.mine]
 unfold m7
 rw [List.getElem?_set_ne e]
 simp [e]
theorem Sat.setRow (h : Sat base st β ρ w) (hb : st.hp[b]? = some (.row T s v n cs)) (k : Keeps (fun i=>some i ≠ v.ownBlock) w w') (hown : Own 0 T s w' v' n' cs')
  (hbs : base.n ≤ w.heap.size) (hnew : v'.ownBlock = v.ownBlock ∨ ∀ g,v'.ownBlock = some g → w.heap.size ≤ g) : Sat base ⟨st.fr,st.hp.set b (.row T s v' n' cs')⟩ β ρ w':=by
 have hlen : (st.hp.set b (.row T s v' n' cs')).length = st.hp.length:=by simp
 have hbl:=(List.getElem?_eq_some_iff.1 hb).1
 have hmb : ∀ k',m7 β st.hp b k' ↔ v.ownBlock = some k':=fun k'=>U3 hb
 have oth : ∀ {i : Nat} {k' : Nat},b ≠ i → m7 β st.hp i k' → some k' ≠ v.ownBlock ∧ k' < w.heap.size:=fun {i k'} e hi=>⟨fun e2=>e (h.mem.apart b i k' ((hmb k').2 e2.symm) hi),(h.mem.low i k' hi).2⟩
 refine ⟨fun d=>by rw [hlen]; exact h.fr d,⟨?_,?_,?_,?_,?_⟩,by rw [hlen]; exact h.agr.1,h.agr.2⟩
 ·intro i T' l2 hi
  rw [hlen]
  by_cases e : b = i
  ·subst e
   rw [List.getElem?_set_self hbl] at hi
   cases hi
  rw [List.getElem?_set_ne e] at hi
  obtain ⟨e1,e2⟩:=h.mem.blk i T' l2 hi
  obtain ⟨e3,e4⟩:=oth e (k':=β i) ⟨_,hi,rfl⟩
  exact ⟨(k.block (β i) e4 e3).trans e1,e2⟩
 ·intro i T' s' v2 n2 cs2 hi
  by_cases e : b = i
  ·subst e
   rw [List.getElem?_set_self hbl] at hi
   simp only [Option.some.injEq,HE.row.injEq] at hi
   obtain ⟨rfl,rfl,rfl,rfl,rfl⟩:=hi
   exact hown
  rw [List.getElem?_set_ne e] at hi
  exact ad1 (h.mem.row i T' s' v2 n2 cs2 hi) k fun g hg=>(oth e (k':=g) ⟨_,hi,hg⟩).1
 ·intro i A hi
  by_cases e : b = i
  ·subst e
   rw [List.getElem?_set_self hbl] at hi
   cases hi
  rw [List.getElem?_set_ne e] at hi
  exact A.keep (h.mem.abs i A hi) (fun g hg=>(oth e (k':=g) ⟨_,hi,hg⟩).2) k fun g hg=>(oth e (k':=g) ⟨_,hi,hg⟩).1
 ·intro i k' hk
  rw [al4 hbl] at hk
  rcases hk with ⟨_,hk⟩ | ⟨_,hk⟩
  ·refine ⟨?_,(hown.lt k' hk).2⟩
   rcases hnew with e5 | e5
   ·exact (h.mem.low b k' ((hmb k').2 (e5.symm.trans hk))).1
   exact .inl (Nat.le_trans hbs (e5 k' hk))
  obtain ⟨e1,e2⟩:=h.mem.low i k' hk
  exact ⟨e1,Nat.lt_of_lt_of_le e2 k.size⟩
 intro i j k' hi hj
 rw [al4 hbl] at hi hj
 rcases hi with ⟨e1,hi⟩ | ⟨e1,hi⟩ <;> rcases hj with ⟨e2,hj⟩ | ⟨e2,hj⟩
 ·omega
 ·obtain ⟨e3,e4⟩:=oth e2 hj
  rcases hnew with e5 | e5
  ·exact absurd (hi.symm.trans e5) e3
  have:=e5 k' hi; omega
 ·obtain ⟨e3,e4⟩:=oth e1 hi
  rcases hnew with e5 | e5
  ·exact absurd (hj.symm.trans e5) e3
  have:=e5 k' hj; omega
 exact h.mem.apart i j k' hi hj
theorem a06 (hb : hp[b]? = some (.row T s v n cs)) (hnew : v'.ownBlock = v.ownBlock ∨ ∀ g,v'.ownBlock = some g → w.heap.size ≤ g) :
  ∀ k,k < w.heap.size → Sof S0 β hp k → Sof S0 β (hp.set b (.row T s v' n' cs')) k:=by
 intro k hk ⟨h1,h2⟩
 have hbl:=(List.getElem?_eq_some_iff.1 hb).1
 refine ⟨h1,fun i hi=>?_⟩
 rw [al4 hbl] at hi
 rcases hi with ⟨_,hi⟩ | ⟨_,hi⟩
 ·rcases hnew with e | e
  ·exact h2 b ⟨_,hb,e.symm.trans hi⟩
  have:=e k hi; omega
 exact h2 i hi
end
section
variable {c : Cx} {o : Out} {G : Gh}
def mkQ (E : Env) (o : Out) : Option (Int × Int × TypeId × Nat × Nat × List Ch):=
 match bp9 o with
 | some (_,.makeSlice t x y)=>match opd o.st.fr x,opd o.st.fr y,B9 E t with
  | some (.one (.int .i64 i)),some (.one (.int .i64 j)),.slice e=>(E.get e).map fun te=>(i,j,e,te.size,te.bytes,te.zero)
  | some (.one (.lit .i64 i)),some (.one (.lit .i64 j)),.slice e=>(E.get e).map fun te=>(i,j,e,te.size,te.bytes,te.zero)
  | some (.one (.lit .i64 i)),some (.one (.int .i64 j)),.slice e=>(E.get e).map fun te=>(i,j,e,te.size,te.bytes,te.zero)
  | _,_,_=>none
 | _=>none
theorem ce2 {v : Value} (hb : nth o.st.hp b = some (.row T s v n cs)) (hM : Mem c.bs o.st.hp β w) : Own 0 T s w v n cs:=by
 rw [O9] at hb
 exact hM.row b T s v n cs hb
theorem ce5 [Rd] (b : Nat) (T : TypeId) (s n : Nat) (v : Value) (cs cs' : List Value) (hb : nth o.st.hp b = some (.row T s v n cs)) (h : ∀ S w,Keeps c.K c.w0 w → G.p S w → cs = cs')
  (hn : Run c ⟨o.cur,o.k,⟨o.st.fr,Z9 o.st.hp b (.row T s v n cs')⟩,[]⟩ G) : Run c o G:=by
 refine ⟨fun β ρ w hS hw hG=>?_⟩
 rw [O9] at hb
 obtain rfl:=h _ w hw hG
 have h1:=hS.setRow hb .refl (hS.mem.row b T s v n cs hb) hw.size (.inl rfl)
 have h2:=hn.run
 rw [O7] at h2
 exact h2 β ρ w h1 hw (G.mono hG (a06 hb (.inl rfl)))
theorem dw4 [Rd] (b : Nat) (T : TypeId) (s n : Nat) (v : Value) (cs : List Value) (hb : nth o.st.hp b = some (.row T s v n cs)) (hc : c.Ok)
  (hn : Run c ⟨o.cur,o.k,⟨o.st.fr,Z9 o.st.hp b .gone⟩,[]⟩ ((fd1 T s v n cs).and G)) : Run c o G:=by
 refine ⟨fun β ρ w hS hw hG=>?_⟩
 rw [O9] at hb
 have hbl:=(List.getElem?_eq_some_iff.1 hb).1
 have hlen : (o.st.hp.set b .gone).length = o.st.hp.length:=by simp
 have hmine : ∀ i k,m7 β (o.st.hp.set b .gone) i k → b ≠ i ∧ m7 β o.st.hp i k:=by
  rintro i k ⟨x,hk,hx⟩
  by_cases e : b = i
  ·subst e
   rw [List.getElem?_set_self hbl] at hk
   cases hk
   cases hx
  rw [List.getElem?_set_ne e] at hk
  exact ⟨e,x,hk,hx⟩
 have hmb : ∀ k,v.ownBlock = some k → m7 β o.st.hp b k:=fun k hk=>⟨_,hb,hk⟩
 have hown:=hS.mem.row b T s v n cs hb
 have h1 : Sat c.bs ⟨o.st.fr,o.st.hp.set b .gone⟩ β ρ w:=by
  refine ⟨fun d=>by rw [hlen]; exact hS.fr d,⟨?_,?_,?_,?_,?_⟩,by rw [hlen]; exact hS.agr.1,hS.agr.2⟩
  ·intro i T' l hi
   rw [hlen]
   by_cases e : b = i
   ·subst e; rw [List.getElem?_set_self hbl] at hi; cases hi
   rw [List.getElem?_set_ne e] at hi; exact hS.mem.blk i T' l hi
  ·intro i T' s' v' n' cs' hi
   by_cases e : b = i
   ·subst e; rw [List.getElem?_set_self hbl] at hi; cases hi
   rw [List.getElem?_set_ne e] at hi; exact hS.mem.row i T' s' v' n' cs' hi
  ·intro i A hi
   by_cases e : b = i
   ·subst e; rw [List.getElem?_set_self hbl] at hi; cases hi
   rw [List.getElem?_set_ne e] at hi; exact hS.mem.abs i A hi
  ·intro i k hk; exact hS.mem.low i k (hmine i k hk).2
  intro i j k hi hj; exact hS.mem.apart i j k (hmine i k hi).2 (hmine j k hj).2
 have h2:=hn.run
 rw [O7] at h2
 refine h2 β ρ w h1 hw ⟨?_,G.mono hG fun k _ hk=>⟨hk.1,fun i hi=>hk.2 i (hmine i k hi).2⟩⟩
 show Row (Sof c.S0 β (o.st.hp.set b .gone)) T s w v n cs
 refine ⟨hown.1,?_⟩
 rcases hown.2 with h3 | ⟨g,cap,cur,hv,hg,hh,hn2,hm,hcc,ht⟩
 ·exact .inl h3
 refine .inr ⟨g,0,cap,cur,(0,0),hv,hn2,hm,⟨hS.up0 hc b g (hmb g (by rw [hv]; rfl)),fun i hi=>?_⟩,hh,by omega,by simpa using ht⟩
 obtain ⟨e1,e2⟩:=hmine i g hi
 exact e1 (hS.mem.apart b i g (hmb g (by rw [hv]; rfl)) e2)
def stQ (E : Env) (o : Out) : Option (Value × Nat × List Ch):=
 match du9 o with
 | some (.store T x y)=>match opd o.st.fr x,(opd o.st.fr y).bind SV.chunks,E.get T with
  | some (.one (.val p)),some l,some te=>bif Nat.beq (aa3 l) te.size then some (p,te.size,l) else none
  | _,_,_=>none
 | _=>none
theorem dp1 {base : Nat} {T : TypeId} {w : World} {g cap : Nat} {cur : Array Value} {new : List Value} (hcs : (cur.toList.take (n * s)) = cs) (hk : k + m ≤ n * s) (hcur : n * s ≤ cur.size) (hl : new.length = m) :
  ((cur.toList.take k ++ new ++ cur.toList.drop (k + m)).take (n * s)) = cs.take k ++ new ++ cs.drop (k + m):=by
 subst hcs
 have e1 : (cur.toList.take k).length = k:=by rw [List.length_take,Array.length_toList]; omega
 rw [List.take_append,List.take_of_length_le (l:=cur.toList.take k ++ new) (by simp; omega),List.length_append,e1,hl,List.take_take,Nat.min_eq_left (by omega : k ≤ n * s),List.drop_take,List.take_drop]
theorem fe2 [Rd] (b k : Nat) (v : Value) (sz : Nat) (l : List Ch) (cs' : List Value) (hq : stQ c.E o = some (.pointer (some (adr v k)),sz,l)) (hb : nth o.st.hp b = some (.row T s v n cs)) (hc : c.Ok) (h0 : 0 < sz)
  (hk : k + sz ≤ n * s) (hcs : ∀ β S w,Keeps c.K c.w0 w → G.p S w → cs.take k ++ d6 β l ++ cs.drop (k + sz) = cs')
  (hn : Run c (co0 o (Z9 o.st.hp b (.row T s v n cs'))) G) : Run c o G:=by
 refine ⟨fun β ρ w hS hw hG=>?_⟩
 unfold stQ at hq
 split at hq <;> first | (cases hq; done) | skip
 rename_i T' x y hop
 split at hq <;> first | (cases hq; done) | skip
 rename_i p l' te' hx hy hte
 cases hsz : Nat.beq (aa3 l') te'.size with
 | false=>rw [hsz] at hq; cases hq
 | true=>
  rw [hsz] at hq
  simp only [cond_true,Option.some.injEq,Prod.mk.injEq] at hq
  obtain ⟨rfl,rfl,rfl⟩:=hq
  have hsz:=Nat.eq_of_beq_eq_true hsz
  unfold du9 at hop
  cases hcur : o.cur with
  | code x=>rw [hcur] at hop; cases hop
  | ex e=>rw [hcur] at hop; cases hop
  | ops all ll=>
   cases ll with
   | nil=>rw [hcur] at hop; cases hop
   | cons o1 r=>
    rw [hcur] at hop
    obtain ⟨dst,op',ty,pos,aft,g⟩:=o1
    simp only at hop
    cases g with
    | some x=>cases hop
    | none=>
     cases dst with
     | some d'=>cases hop
     | none=>
      simp only [Option.some.injEq] at hop
      subst hop
      have hkn:=hS.ops (.store T' x y)
      have g1 : ev ρ x = .pointer (some (adr v k)):=((hkn x (by simp [Op.operands])) _ hx).1
      cases hyo : opd o.st.fr y with
      | none=>rw [hyo] at hy; cases hy
      | some yv=>
       rw [hyo] at hy
       simp only [Option.bind_some] at hy
       have g2:=(hkn y (by simp [Op.operands])) _ hyo
       obtain ⟨g3,g4⟩:=SV.chunks_ok (β:=β) hy g2.2
       have hlen:=U0 (β:=β) g4
       obtain ⟨z,hty,_⟩:=(hc.env.get hte).ty
       have hown:=ce2 hb hS.mem
       rw [O9] at hb
       rcases hown.2 with ⟨_,h2⟩ | ⟨gb,cap,cur,hv,hbg,hg,hnc,hcm,hcz,htk⟩
       ·subst h2; omega
       have hle : n * s ≤ cap * s:=Nat.mul_le_mul_right _ hnc
       have hst:=run_storeCells_at c.P gb k T (d6 β l') 0 cur w hg (by omega) (ag6 g4)
       have hcs2:=hcs β _ w hw hG
       have ha : adr v k = ⟨gb,k,none⟩:=by rw [hv]; simp [adr]
       have hrun : ∀ d pos aft g,(execOp (ev ρ) ⟨d,.store T' x y,ty,pos,aft,g⟩).run c.P w = .ok .skip (w.setRow gb (cur.toList.take (k + 0) ++ d6 β l' ++ cur.toList.drop (k + 0 + (d6 β l').length)).toArray):=by
        intro d pos aft g
        have e10 : (d6 β l').length = te'.size:=by omega
        simp only [Nat.add_zero,e10] at hst ⊢
        simp [execOp,g1,g2.1,Instr.storeAt,Instr.sureAddr,storeVar,hty.runSize w,g3,e10,ha,hst]
       have k1 : Keeps (fun i=>some i ≠ v.ownBlock) w (w.setRow gb (cur.toList.take (k + 0) ++ d6 β l' ++ cur.toList.drop (k + 0 + (d6 β l').length)).toArray):=
        ⟨rfl,rfl,rfl,by simp [World.setRow],fun i _ hi=>setRow_other w _ i _ (fun e=>hi (by rw [hv,e]; rfl))⟩
       have hown2 : Own 0 T s (w.setRow gb (cur.toList.take (k + 0) ++ d6 β l' ++ cur.toList.drop (k + 0 + (d6 β l').length)).toArray) v n cs':=by
        refine ⟨?_,.inr ⟨gb,cap,_,hv,hbg,setRow_heap w gb cur _ T (0,0) hg,hnc,hcm,?_,?_⟩⟩
        ·rw [← hcs2]
         have:=hown.1
         simp [hlen,hsz]
         omega
        ·simp [hlen,hsz]; omega
        rw [← hcs2,Nat.add_zero]
        have:=dp1 (base:=0) (T:=T) (w:=w) (g:=gb) (cap:=cap) (new:=d6 β l') (m:=te'.size) htk hk (by omega) (by omega)
        rw [hlen,hsz]
        exact this
       have hS2:=hS.setRow hb k1 hown2 hw.size (.inl rfl)
       refine aw8 rfl ?_
       unfold Stp
       rw [hrun]
       have h1:=hn.run
       unfold co0 at h1
       rw [hcur,O7] at h1
       have hmb : ∀ i,some i = v.ownBlock → m7 β o.st.hp b i:=fun i hi=>⟨_,hb,hi.symm⟩
       refine h1 β _ _ hS2 ?_ ?_
       ·exact hS.mem.grow hw k1 b fun i hi=>hmb i (Classical.byContradiction hi)
       exact G.mono (G.keep hG (k1.mono fun i hi e=>hi.2 b (hmb i e))) fun i hi hk=>a06 (w:=w) hb (.inl rfl) i (by simpa [World.setRow] using hi) hk
def fg1 (E : Env) (o : Out) : Option (Value × Nat):=
 match bp9 o with
 | some (_,.convert t t2 x)=>match opd o.st.fr x,B9 E t,B9 E t2 with
  | some (.one (.sl v n)),.slice e,.str=>match B9 E e with
   | .int .u8=>some (v,n)
   | _=>none
  | _,_,_=>none
 | _=>none
theorem bg5 {base : Nat} {v : Value} (h : Own base T s w v n cs) : ∃ S',Row S' T s w v n cs:=⟨All,Row.of_own h fun _ _=>trivial⟩
theorem cg5 (base : Nat) (t ty e : TypeId) (i : TypeInfo) (z : Value) (size bytes : Nat) (ht : P.underlying t = some (.slice e)) (hi : P.info? e = some i) (hz : i.zero = some z) (hsize : i.size = size) (hby : i.bytes = bytes) (hzs : z.cells.size = size) (hsz : 0 < size)
  (v : Value) (n : Nat) (xs : List Value) (hown : Own base e size w v n xs) (a : Addr) (m c : Nat) (news : List Value) (hl : news.length = m * size) (hnews : ∀ j u,news[j]? = some u → w.cell? (a.add j) = some u) (h1 : ∀ u ∈ news,u.oneCell' = true)
  (h63 : n + m ≤ maxLen) (hbytes : (n + m) * bytes ≤ 140737488355328) (hbase : base ≤ w.heap.size) :
  ∃ v' w',(Builtin.append_ #[t,t] ty #[v,.slice (some a) m c]).run P w = .ok v' w' ∧ Own base e size w' v' (n + m) (xs ++ news) ∧ Keeps (fun i=>some i ≠ v.ownBlock) w w' ∧ (v'.ownBlock = v.ownBlock ∨ ∀ g,v'.ownBlock = some g → w.heap.size ≤ g):=by
 obtain ⟨v',w',hr,h2,h3,h4⟩:=run_append_own (P:=P) w base t ty e i z size bytes ht hi hz hsize hby hzs hsz v n xs hown a m c news hl hnews h1 h63 hbytes hbase
 refine ⟨v',w',hr,h2,.of_grown h3,?_⟩
 rcases hown.2 with ⟨rfl,rfl⟩ | ⟨g,cap,cur,rfl,hbg,hg,hnc,hcm,hcs,htake⟩
 ·have hx : xs = []:=List.eq_nil_of_length_eq_zero (by simpa using hown.1)
  subst hx
  obtain ⟨v2,w2,hr2,h5,_⟩:=run_append_own (P:=P) w w.heap.size t ty e i z size bytes ht hi hz hsize hby hzs hsz (.slice none 0 0) 0 [] ab9 a m c news hl hnews h1 h63 hbytes (Nat.le_refl _)
  rw [hr] at hr2
  simp only [Result.ok.injEq] at hr2
  obtain ⟨rfl,rfl⟩:=hr2
  exact .inr fun g hg=>(h5.lt g hg).1
 subst hsize hby
 by_cases hroom : n + m ≤ cap
 ·have hfit : n * i.size + news.length ≤ cur.size:=by rw [hl,hcs,← Nat.add_mul]; exact Nat.mul_le_mul_right _ hroom
  have hr2:=run_append_room (P:=P) w t ty e i ht hi g n cap cur hg a m c news hl hnews h1 hroom hfit
  rw [hr] at hr2
  simp only [Result.ok.injEq] at hr2
  rw [hr2.1]
  exact .inl rfl
 have hr2:=run_append_grow (P:=P) w t ty e i z ht hi hz ⟨g,0,none⟩ n cap xs hown.1 (World.ownsRow.cells hown (g:=g) rfl) a m c news hl hnews (by omega) (by unfold maxLen at h63; omega) (growslice_fits (by omega) hbytes)
 rw [hr] at hr2
 simp only [Result.ok.injEq] at hr2
 rw [hr2.1]
 exact .inr fun g hg=>by simp [Value.ownBlock] at hg; omega
def d85 (E : Env) (o : Out) : Option (Value × Nat × Ch × TypeId × Nat × Nat):=
 match bp9 o with
 | some (_,.call ⟨.builtin .append,args,ts⟩)=>match args.toList,ts.toList with
  | [x,y],[t,t']=>match opd o.st.fr x,opd o.st.fr y,B9 E t with
   | some (.one (.sl v n)),some (.one a),.slice e=>(E.get e).bind fun te=>bif Nat.beq t t' then some (v,n,a,e,te.size,te.bytes) else none
   | _,_,_=>none
  | _,_=>none
 | _=>none
theorem d63 [Rd] (b : Nat) (v : Value) (n : Nat) (y : Ch) (e : TypeId) (sz bytes m : Nat) (news : List Value) (hq : d85 c.E o = some (v,n,y,e,sz,bytes)) (hb : nth o.st.hp b = some (.row e sz v n cs)) (hc : c.Ok) (h0 : 0 < sz) (hm : n + m ≤ maxLen) (hby : (n + m) * bytes ≤ 140737488355328)
  (h : ∀ β S w,Mem c.bs o.st.hp β w → Keeps c.K c.w0 w → G.p S w → ∃ S' T',Row S' T' sz w (y.den β) m news ∧ ∀ u ∈ news,u.oneCell' = true)
  (hn : ∀ v',Run c (ab1 o (.one (.sl v' (n + m))) (Z9 o.st.hp b (.row e sz v' (n + m) (cs ++ news)))) G) : Run c o G:=by
 refine ⟨fun β ρ w hS hw hG=>?_⟩
 unfold d85 at hq
 split at hq <;> first | (cases hq; done) | skip
 rename_i d args ts hop
 split at hq <;> first | (cases hq; done) | skip
 rename_i x yo t t' hargs hts
 obtain rfl : args = #[x,yo]:=by rw [← Array.toArray_toList (xs:=args),hargs]
 obtain rfl : ts = #[t,t']:=by rw [← Array.toArray_toList (xs:=ts),hts]
 split at hq <;> first | (cases hq; done) | skip
 rename_i v' n' a e' hx hy hk
 cases hte : c.E.get e' with
 | none=>rw [hte] at hq; cases hq
 | some te'=>
  rw [hte] at hq
  simp only [Option.bind_some] at hq
  cases htt : Nat.beq t t' with
  | false=>rw [htt] at hq; cases hq
  | true=>
   rw [htt] at hq
   obtain rfl:=Nat.eq_of_beq_eq_true htt
   simp only [cond_true,Option.some.injEq,Prod.mk.injEq] at hq
   obtain ⟨rfl,rfl,rfl,rfl,rfl,rfl⟩:=hq
   unfold bp9 at hop
   cases hcur : o.cur with
   | code x=>rw [hcur] at hop; cases hop
   | ex e=>rw [hcur] at hop; cases hop
   | ops all ll=>
    cases ll with
    | nil=>rw [hcur] at hop; cases hop
    | cons o1 r=>
     rw [hcur] at hop
     obtain ⟨dst,op',ty,pos,aft,g⟩:=o1
     simp only at hop
     cases g with
     | some x=>cases hop
     | none=>
      cases dst with
      | none=>cases hop
      | some d'=>
       simp only [Option.some.injEq,Prod.mk.injEq] at hop
       obtain ⟨rfl,rfl⟩:=hop
       have hkn:=hS.ops (.call ⟨.builtin .append,#[x,yo],#[t,t]⟩)
       have g1 : ev ρ x = v':=((hkn x (by simp [Op.operands,Call.operands])) _ hx).1
       have g2 : ev ρ yo = a.den β:=((hkn yo (by simp [Op.operands,Call.operands])) _ hy).1
       have hkd:=D8 (t:=t) hc.env
       rw [hk] at hkd
       have hkd' : c.P.underlying t = some (.slice e'):=hkd
       obtain ⟨z,hty,_⟩:=(hc.env.get hte).ty
       obtain ⟨ti,hi,e1,e2,e3⟩:=hty.ex
       have hown:=ce2 hb hS.mem
       rw [O9] at hb
       obtain ⟨S',T',hrow,hones⟩:=h β _ w hS.mem hw hG
       have fin : ∃ v2 w2,(Builtin.append_ #[t,t] ty #[v',a.den β]).run c.P w = .ok v2 w2 ∧ Own 0 e' te'.size w2 v2 (n' + m) (cs ++ news) ∧ Keeps (fun i=>some i ≠ v'.ownBlock) w w2 ∧ (v2.ownBlock = v'.ownBlock ∨ ∀ g,v2.ownBlock = some g → w.heap.size ≤ g):=by
        rcases hrow.2 with ⟨h2,h3⟩ | ⟨gg,off,cap,arr,fr,hv,_⟩
        ·have hl:=hrow.1
         subst h3
         obtain rfl : news = []:=List.eq_nil_of_length_eq_zero (by simpa using hl)
         rw [h2]
         exact ⟨v',w,run_append_owned_none (P:=c.P) (w:=w) 0 t ty e' ti te'.size hkd' hi v' n' cs hown,by simpa using hown,.refl,.inl rfl⟩
        rw [hv]
        refine cg5 0 t ty e' ti z te'.size te'.bytes hkd' hi e3 e1 e2 hty.zsize h0 v' n' cs hown ⟨gg,off,none⟩ m cap news hrow.1 (fun j u hu=>?_) hones hm hby (Nat.zero_le _)
        have h5:=hrow.cell hu
        rw [hv] at h5
        rw [Z0]
        exact h5
       obtain ⟨v2,w2,hr,hown2,k1,hnew⟩:=fin
       refine aw8 rfl ?_
       unfold Stp
       have hrun : (execOp (ev ρ) ⟨some d',.call ⟨.builtin .append,#[x,yo],#[t,t]⟩,ty,pos,aft,none⟩).run c.P w = .ok (.value v2) w2:=by
        simp [execOp,resolve,invoke,builtin,g1,g2,hr]
       rw [hrun]
       have hS2:=hS.setRow hb k1 hown2 hw.size hnew
       have h1:=(hn v2).run
       unfold ab1 at h1
       rw [hcur,O7] at h1
       have hmb : ∀ i,some i = v'.ownBlock → m7 β o.st.hp b i:=fun i hi=>⟨_,hb,hi.symm⟩
       refine h1 β _ w2 (hS2.put (d:=d') (s:=.one (.sl v2 (n' + m))) rfl (bs2 hown2)) ?_ ?_
       ·exact hS.mem.grow hw k1 b fun i hi=>hmb i (Classical.byContradiction hi)
       exact G.mono (G.keep (G.mono (S':=fun k=>Sof c.S0 β o.st.hp k ∧ k < w.heap.size) hG fun k hk h=>⟨h,hk⟩) (k1.mono fun i hi e=>hi.1.2 b (hmb i e))) fun k _ hk=>a06 hb hnew k hk.2 hk.1
theorem de7 [Rd] (b : Nat) (v : Value) (n : Nat) (y : Ch) (e : TypeId) (sz bytes m : Nat) (news : List Value) (hq : d85 c.E o = some (v,n,y,e,sz,bytes)) (hb : nth o.st.hp b = some (.row e sz v n cs)) (hc : c.Ok) (h0 : 0 < sz) (hm : n + m ≤ maxLen) (hby : (n + m) * bytes ≤ 140737488355328)
  (h : ∀ β S w,Mem c.bs o.st.hp β w → Keeps c.K c.w0 w → G.p S w → ∃ S',Row S' e sz w (y.den β) m news ∧ ∀ u ∈ news,u.oneCell' = true)
  (hn : ∀ v',Run c (ab1 o (.one (.sl v' (n + m))) (Z9 o.st.hp b (.row e sz v' (n + m) (cs ++ news)))) G) : Run c o G:=
 d63 b v n y e sz bytes m news hq hb hc h0 hm hby (fun g S w h1 h2 h3=>let ⟨S',h4⟩:=h g S w h1 h2 h3; ⟨S',_,h4⟩) hn
theorem fa4 [Rd] (hn : Run c ⟨o.cur,o.k,⟨o.st.fr,o.st.hp ++ [.row T s (.slice none 0 0) 0 []]⟩,[]⟩ G) : Run c o G:=
 ⟨fun β ρ w hS hw hG=>hn.run β ρ w (hS.newRow .refl ab9 hw.size (fun g h=>by simp [Value.ownBlock] at h)) hw (G.mono hG (dr2 (w:=w) (fun g h=>by simp [Value.ownBlock] at h)))⟩
def P7 : Nat → List Kt → List Kt
 | 0,k=>k
 | n + 1,.code (.seq a b) :: k=>.code a :: P7 n (.code b :: k)
 | _ + 1,k=>k
def aw6 : List Kt → Bool
 | []=>true
 | .code _ :: k=>aw6 k
 | .blk _ :: k=>aw6 k
 | _=>false
theorem de5 [Rd] : ∀ {m : Nat} {k : List Kt} {e : Exit} {ρ : Fr} {w : World},kQ P n Q (P7 m k) e ρ w → kQ P n Q k e ρ w:=by
 intro m
 induction m with
 | zero=>intro k e ρ w h; exact h
 | succ m ih=>
  intro k e ρ w h
  have key : ∀ {a b : Code} {k' : List Kt},kQ P n Q (.code a :: P7 m (.code b :: k')) e ρ w → kQ P n Q (.code (.seq a b) :: k') e ρ w:=by
   intro a b k' h
   cases e with
   | normal=>exact dc4 (bg1 (Q:=kQ P n Q (P7 m (.code b :: k'))) h fun e ρ w h=>ih h)
   | _=>exact ih (k:=.code b :: k') (e:=_) h
  cases k with
  | nil=>exact h
  | cons x r=>
   cases x with
   | blk i=>exact h
   | lp a=>exact h
   | code c=>
    cases c <;> first | exact key h | exact h
theorem dw2 [Rd] {Q' : G8} {k2 : List Kt} (hq : ∀ e ρ w,Q' e ρ w → kQ P n Q k2 e ρ w) : ∀ {k1 : List Kt},aw6 k1 = true → ∀ {e : Exit} {ρ : Fr} {w : World},kQ P n Q' k1 e ρ w → kQ P n Q (k1 ++ k2) e ρ w:=by
 intro k1
 induction k1 with
 | nil=>intro _ e ρ w h; exact hq e ρ w h
 | cons x r ih=>
  intro hk e ρ w h
  cases x with
  | code a=>
   cases e with
   | normal=>exact bg1 (Q:=kQ P n Q' r) h fun e ρ w h=>ih hk h
   | _=>exact ih (e:=_) hk h
  | blk i=>
   have h' : J5 i (kQ P n Q' r) e ρ w:=h
   show J5 i (kQ P n Q (r ++ k2)) e ρ w
   unfold J5 at h' ⊢
   cases e with
   | exit j=>
    simp only at h' ⊢
    cases hj : Nat.beq j i with
    | true=>rw [hj] at h'; exact ih hk h'
    | false=>rw [hj] at h'; exact ih hk h'
   | _=>exact ih (e:=_) hk h'
  | lp a=>cases hk
theorem d48 [Rd] (m j : Nat) (st' : ι → St) (GI : ι → Gh) (pre : ι → Prop) (hl : ∀ i,o.st.hp.length ≤ (st' i).hp.length) (hk : aw6 ((P7 m o.k).take j) = true) (h1 : Run (c.sub (aq7 c st' GI pre) ((P7 m o.k).drop j)) ⟨o.cur,(P7 m o.k).take j,o.st,[]⟩ G)
  (h2 : ∀ i,pre i → Run c ⟨.ex .normal,(P7 m o.k).drop j,st' i,[]⟩ (GI i)) : Run c o G:=by
 refine ⟨fun β ρ w hS hw hG=>?_⟩
 refine a97 (Q:=kQ c.P c.n c.Q (P7 m o.k)) (fun e ρ w h=>de5 h) ?_
 refine a97 ?_ (h1.run β ρ w hS hw hG)
 intro e ρ' w' hq
 have e1 : (P7 m o.k).take j ++ (P7 m o.k).drop j = P7 m o.k:=List.take_append_drop ..
 rw [← e1]
 refine dw2 ?_ hk hq
 intro e ρ' w' hq
 cases e with
 | normal=>
  obtain ⟨i,hp,hr⟩:=hq
  obtain ⟨β',hS',hw',hG'⟩:=hr.sat (Nat.le_trans hS.agr.1 (hl i))
  exact (h2 i hp).run β' ρ' w' hS' hw' hG'
 | _=>exact hq
theorem d50 [Rd] (m j : Nat) (W : List (Nat × Nat)) (ov : ι → List (Nat × SV)) (oh : ι → List (Nat × HE)) (GI : ι → Gh) (pre : ι → Prop) (hc : c.Ok) (hv : (ex c o).vc = []) (hk : aw6 ((P7 m (ex c o).k).take j) = true)
  (h1 : ak9 (ex c o).st → Run (c.sub (aq7 c (fun i=>stM (ex c o).st W (ov i) (oh i)) GI pre) ((P7 m (ex c o).k).drop j)) ⟨(ex c o).cur,(P7 m (ex c o).k).take j,(ex c o).st,[]⟩ G)
  (h2 : ∀ i,pre i → Run c ⟨.ex .normal,(P7 m (ex c o).k).drop j,stM (ex c o).st W (ov i) (oh i),[]⟩ (GI i)) : Run c o G:=by
 refine O6 hc hv ⟨fun β ρ w hS hw hG=>?_⟩
 exact (d48 m j _ GI pre (fun _=>Nat.le_of_eq ak4.symm) hk (h1 hS.stOk) h2).run β ρ w hS hw hG
theorem ac3 [Rd] (m j : Nat) (W : List (Nat × Nat)) (ov : ι → List (Nat × SV)) (oh : ι → List (Nat × HE)) (GN : ι → Gh → Gh) (pre : ι → Prop) (hc : c.Ok) (hv : (ex c o).vc = []) (hk : aw6 ((P7 m (ex c o).k).take j) = true)
  (h1 : ak9 (ex c o).st → Run (c.sub (aq7 c (fun i=>stM (ex c o).st W (ov i) (oh i)) (fun i=>GN i G) pre) ((P7 m (ex c o).k).drop j)) ⟨(ex c o).cur,(P7 m (ex c o).k).take j,(ex c o).st,[]⟩ G)
  (h2 : ∀ i,pre i → Run c ⟨.ex .normal,(P7 m (ex c o).k).drop j,stM (ex c o).st W (ov i) (oh i),[]⟩ (GN i G)) : Run c o G:=d50 m j W ov oh (fun i=>GN i G) pre hc hv hk h1 h2
end
end Go.Proofs.YtmkhgjccoolfjaaGreatDoor
end

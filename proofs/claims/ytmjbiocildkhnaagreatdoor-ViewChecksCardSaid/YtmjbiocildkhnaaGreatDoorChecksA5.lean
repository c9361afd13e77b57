/- Part 5. -/
import Derived.Test.YtmjbiocildkhnaaGreatDoorChecksA4
import Derived.Test.YtmjbiocildkhnaaGreatDoorChecksA3
import Derived.Test.YtmjbiocildkhnaaGreatDoorChecksA1
import Derived.Test.YtmjbiocildkhnaaGreatDoorChecksA2
import Derived.Deep.Slices
set_option linter.unusedSimpArgs false
set_option linter.unusedVariables false
set_option maxRecDepth 100000
set_option maxHeartbeats 8000000
section
namespace Go.Proofs.YtmjbiocildkhnaaGreatDoor
open Go Go.RowKit Tryz
abbrev j8 (v : Value) (q : Rat) : Gh:=⟨fun S w=>RatV S w v q,fun h k=>h.keep k,fun h k=>h.mono k⟩
abbrev qG (v : Value) (q : Rat) : Gh:=⟨fun S w=>QV S w v q,fun h k=>h.keep k,fun h k=>h.mono k⟩
abbrev cw7 (v : Value) (z : Int) : Gh:=⟨fun S w=>IntV S 193 .u32 w v z,fun h k=>h.keep k,fun h k=>h.mono k⟩
theorem RatV.ok {S : Nat → Prop} {w : World} {v : Value} {q : Rat} (h : RatV S w v q) : (SV.one (.ag 3 v)).Ok 0:=by
 obtain ⟨m,b,rfl,hm,hb⟩:=h
 exact ⟨[_,m,b],rfl,rfl,cz0 rfl hm.one hb.one⟩
theorem QV.ok {S : Nat → Prop} {w : World} {v : Value} {q : Rat} (h : QV S w v q) : (SV.one (.ag 4 v)).Ok 0:=by
 obtain ⟨m,b,rfl,hm,hb⟩:=h
 exact ⟨[_,m,_,b],rfl,rfl,dl4 rfl hm.one rfl hb.one⟩
theorem IntV.ok {S : Nat → Prop} {T : TypeId} {k : IntKind} {w : World} {v : Value} {z : Int} (h : IntV S T k w v z) : (SV.one (.ag 2 v)).Ok 0:=by
 obtain ⟨m,rfl,hm⟩:=h
 exact ⟨[_,m],rfl,rfl,dl3 rfl hm.one⟩
def K3 (v : Value) (i : Nat) : Value:=match v with | .tuple l=>l.getD i undef | _=>undef
theorem gK {P : Program} {f : FuncId} {args : List Value} {w : World} {X Y : Value} (h : Gives P f args w fun v w'=>v = X ∧ Ext w w') (e : X = Y) : Gives P f args w fun v w'=>v = Y ∧ Ext w w':=e ▸ h
abbrev pr (x y : Ch) : SV:=.tup [(false,[x]),(false,[y])]
theorem cg7 {m : Nat} {x y : Ch} (hx : x.Ok m) (hy : y.Ok m) : (pr x y).Ok m:=fun p hp c hc=>by
 simp only [List.mem_cons,List.not_mem_nil,or_false] at hp
 rcases hp with rfl | rfl <;> (simp only [List.mem_singleton] at hc; subst hc; assumption)
def J8 : Value → Value
 | .tuple l=>l.getD 0 undef
 | _=>undef
abbrev aa5 (v : Value) (q : Rat) (e : Int) : Gh:=⟨fun S w=>v = .tuple #[J8 v,.int .i64 e] ∧ RatV S w (J8 v) q,fun h k=>⟨h.1,h.2.keep k⟩,fun h k=>⟨h.1,h.2.mono k⟩⟩
theorem S8 {v : Value} {q : Rat} {e : Int} {S : Nat → Prop} {w : World} (h : (aa5 v q e).p S w) : (pr (.ag 3 (J8 v)) (.lit .i64 e)).Ok 0 ∧ (pr (.ag 3 (J8 v)) (.lit .i64 e)).den (fun _=>0) = v:=⟨cg7 h.2.ok trivial,h.1.symm⟩
theorem dz0 {P : Program} {f : FuncId} {args : List Value} {S : Nat → Prop} {w : World} {q X : Rat} {E : Int} (d : do1 X E q) (h : Gives P f args w fun v w'=>Ext w w' ∧ be9 S w' v q) : Gives P f args w fun v w'=>Ext w w' ∧ (aa5 v X E).p S w':=
 h.mono fun v w' ⟨k,r,e,hv,ht⟩=>⟨k,by
  subst hv
  rcases d with ⟨h1,rfl,rfl⟩ | ⟨h1,rfl,rfl⟩ <;> rcases ht with ⟨h4,rfl,h6⟩ | ⟨h4,rfl,h6⟩ <;> first | exact ⟨rfl,h6⟩ | exact absurd h1 h4 | exact absurd h4 h1⟩
abbrev bG (F : Value → Gh) (b : Bool) (v : Value) : Gh:=⟨fun S w=>v = .tuple #[K3 v 0,.bool b] ∧ (F (K3 v 0)).p S w,fun h k=>⟨h.1,(F _).keep h.2 k⟩,fun h k=>⟨h.1,(F _).mono h.2 k⟩⟩
theorem Q7 {q : Rat} {n : Nat} (hr : rl q n) (hn : n ≤ 3344) : R1 q:=
 ⟨Nat.lt_of_lt_of_le (B5 _) (Nat.le_trans (X5 (Nat.le_trans hr.1 hn)) a79),Nat.lt_of_lt_of_le (B5 _) (Nat.le_trans (X5 (Nat.le_trans hr.2 hn)) a79)⟩
section
variable {c : Cx} {o : Out} {G : Gh} {f : FuncId} [ci : CallI c.P f]
end
def bi6 (o : Out) : Option (Nat × Op):=match o.cur with | .ops _ (o1 :: _)=>(match o1.guard,o1.dst with | none,some d=>some (d,o1.op) | _,_=>none) | _=>none
def dl0 (o : Out) : Option Op:=match o.cur with | .ops _ (o1 :: _)=>(match o1.guard,o1.dst with | none,none=>some o1.op | _,_=>none) | _=>none
def Z4 (o : Out) (s : SV) (hp : List HE) : Out:=match o.cur with | .ops all (o1 :: r)=>⟨.ops all r,o.k,⟨(o1.dst.getD 0,s) :: o.st.fr,hp⟩,[]⟩ | _=>o
def ck0 (o : Out) (hp : List HE) : Out:=match o.cur with | .ops all (o1 :: r)=>⟨.ops all r,o.k,⟨o.st.fr,hp⟩,[]⟩ | _=>o
section
variable {c : Cx} {o : Out} {G : Gh}
theorem bk5 [Rd] {α : Type} {d : Nat} {op : Op} (pat : α → SV) (Δ : α → Gh) (hop : bi6 o = some (d,op))
  (h : ∀ β S w F ty,ab4 β o.st.hp.length o.st.fr (ev F) op → Mem c.bs o.st.hp β w → Up S w → (∀ k,S k → c.S0 k) → Keeps c.K c.w0 w → G.p S w → ∃ a w',Ext w w' ∧ (pat a).Ok o.st.hp.length ∧ (Δ a).p S w' ∧ ac7 c.P (ev F) op ty w ((pat a).den β) ∧ w' = w)
  (hc : c.Ok) (hn : ∀ a,Run c (Z4 o (pat a) o.st.hp) ((Δ a).and G)) : Run c o G:=by
 refine ⟨fun β ρ w hS hw hG=>?_⟩
 unfold bi6 at hop
 cases hcur : o.cur with
 | code x=>rw [hcur] at hop; cases hop
 | ex e=>rw [hcur] at hop; cases hop
 | ops all l=>
  cases l with
  | nil=>rw [hcur] at hop; cases hop
  | cons o1 r=>
   rw [hcur] at hop
   obtain ⟨dst,op',ty,pos,aft,g⟩:=o1
   simp only at hop
   cases g with
   | some x=>cases hop
   | none=>
    cases dst with
    | none=>cases hop
    | some d'=>
     simp only [Option.some.injEq,Prod.mk.injEq] at hop
     obtain ⟨rfl,rfl⟩:=hop
     obtain ⟨a,w',hk,hok,hΔ,hr,rfl⟩:=h β _ w ρ ty (hS.ops _) hS.mem (Sof.up (hc.up.to hw) hS.mem) (fun k hk=>hk.1) hw hG
     refine ao1 rfl ?_
     unfold Stp
     rw [hr]
     have h1:=(hn a).run
     unfold Z4 at h1
     rw [hcur] at h1
     exact h1 β _ w' (hS.put rfl hok) hw ⟨hΔ,hG⟩
def do0 (E : Env) (o : Out) : Option (Value × Nat × Int × TypeId × Nat):=
 match bi6 o with
 | some (_,.indexAddr t x ix)=>match opd o.st.fr x,opd o.st.fr ix,B8 E t with
  | some (.one (.sl v n)),some (.one (.int _ i)),.slice e=>(E.get e).map fun te=>(v,n,i,e,te.size)
  | some (.one (.sl v n)),some (.one (.lit _ i)),.slice e=>(E.get e).map fun te=>(v,n,i,e,te.size)
  | _,_,_=>none
 | _=>none
theorem c22 [Rd] (v : Value) (n : Nat) (i : Int) (e : TypeId) (sz : Nat) (hq : do0 c.E o = some (v,n,i,e,sz)) (hc : c.Ok) (h0 : 0 ≤ i) (h1 : i < n) (hrow : ∀ β S w,Mem c.bs o.st.hp β w → Keeps c.K c.w0 w → G.p S w → ∃ S' T' cs,Row S' T' sz w v n cs)
  (hn : Run c (Z4 o (.one (.val (.pointer (some (adr v (i.toNat * sz)))))) o.st.hp) G) : Run c o G:=by
 unfold do0 at hq
 split at hq <;> first | (cases hq; done) | skip
 rename_i d t x ix hop
 have key : ∀ (ch : Ch) (kk : IntKind),(∀ β,ch.den β = .int kk i) → opd o.st.fr x = some (.one (.sl v n)) → opd o.st.fr ix = some (.one ch) → B8 c.E t = .slice e → ∀ te,c.E.get e = some te → te.size = sz → Run c o G:=by
  intro ch kk hch hx hi hk te hte hsz
  subst hsz
  refine bk5 (α:=Unit) (fun _=>.one (.val (.pointer (some (adr v (i.toNat * te.size)))))) (fun _=>.nil) hop (fun β S w F ty hkn hM hup hS hw hG=>⟨(),w,.refl,rfl,trivial,?_,rfl⟩) hc fun _=>ap1 (fun S w _ h=>h.2) hn
  obtain ⟨S',T',cs,hr⟩:=hrow β S w hM hw hG
  have g1:=(hkn x (by simp [Op.operands]) _ hx).1
  have g2:=(hkn ix (by simp [Op.operands]) _ hi).1
  have hkd:=D2 (t:=t) hc.env
  rw [hk] at hkd
  have hkd' : c.P.underlying t = some (.slice e):=hkd
  obtain ⟨z,hty,_⟩:=(hc.env.get hte).ty
  intro d pos aft g
  rcases hr.2 with ⟨_,h2⟩ | ⟨gg,off,cap,arr,fr,hv2,_⟩
  ·omega
  have g1' : ev F x = .slice (some ⟨gg,off,none⟩) n cap:=by rw [g1]; exact hv2
  have g2' : ev F ix = .int kk i:=by rw [g2]; exact hch β
  simp [execOp,g1',g2',Instr.indexAt,asIntOf,run_underlying hkd',h0,h1,hty.runSize w,adr,hv2,U1,SV.den,Ch.den]
 split at hq <;> first | (cases hq; done) | skip
 ·rename_i v' n' kk i' e' hx hi hk
  cases hte : c.E.get e' with
  | none=>rw [hte] at hq; cases hq
  | some te=>
   rw [hte] at hq
   simp only [Option.map_some,Option.some.injEq,Prod.mk.injEq] at hq
   obtain ⟨rfl,rfl,rfl,rfl,hsz⟩:=hq
   exact key _ kk (fun β=>rfl) hx hi hk te hte hsz
 rename_i v' n' kk i' e' hx hi hk
 cases hte : c.E.get e' with
 | none=>rw [hte] at hq; cases hq
 | some te=>
  rw [hte] at hq
  simp only [Option.map_some,Option.some.injEq,Prod.mk.injEq] at hq
  obtain ⟨rfl,rfl,rfl,rfl,hsz⟩:=hq
  exact key _ kk (fun β=>rfl) hx hi hk te hte hsz
def ldQ (E : Env) (o : Out) : Option (Value × TypeId × Nat × Bool):=
 match bi6 o with
 | some (_,.load T x)=>match opd o.st.fr x with
  | some (.one (.val p))=>(E.get T).map fun te=>(p,T,te.size,te.agg)
  | _=>none
 | _=>none
end
section
variable {base : Bs} {st : St} {β : Nat → Nat} {ρ : Fr} {w w' : World} {d : Nat} {T : TypeId} {s n : Nat} {v : Value} {cs : List Value}
theorem bj5 {bb : Nat} (h : Own bb T s w v n cs) : ∃ a cap,v = .slice a n cap ∧ n ≤ cap:=by
 rcases h.2 with ⟨h1,h2⟩ | ⟨g,cap,cur,rfl,_,_,h3,_⟩
 ·subst h2; exact ⟨none,0,h1,Nat.le_refl _⟩
 exact ⟨_,cap,rfl,h3⟩
theorem at9 {hp : List HE} {i k : Nat} : m7 β (hp ++ [.row T s v n cs]) i k ↔ (i = hp.length ∧ v.ownBlock = some k) ∨ (i ≠ hp.length ∧ m7 β hp i k):=by
 by_cases e : i = hp.length
 ·subst e
  rw [O6 (e:=.row T s v n cs) (by simp)]
  simp [HE.mine]
 by_cases hl : i < hp.length
 ·unfold m7
  rw [List.getElem?_append_left hl]
  simp [e]
 have h1 : ¬ m7 β hp i k:=ad1 (List.getElem?_eq_none (by omega))
 have h2 : ¬ m7 β (hp ++ [.row T s v n cs]) i k:=ad1 (List.getElem?_eq_none (by simp; omega))
 simp [e,h1,h2]
theorem Sat.newRow (h : Sat base st β ρ w) (k : Ext w w') (hown : Own 0 T s w' v n cs) (hb : base.n ≤ w.heap.size) (hnew : ∀ g,v.ownBlock = some g → w.heap.size ≤ g) :
  Sat base ⟨st.fr,st.hp ++ [.row T s v n cs]⟩ β ρ w':=by
 have hlen : (st.hp ++ [HE.row T s v n cs]).length = st.hp.length + 1:=by simp
 have h2:=h.to k
 have inv : ∀ {i : Nat} {x : HE},(st.hp ++ [HE.row T s v n cs])[i]? = some x → (i < st.hp.length ∧ st.hp[i]? = some x) ∨ (i = st.hp.length ∧ x = .row T s v n cs):=by
  intro i x hi
  have h3:=(List.getElem?_eq_some_iff.1 hi).1
  rw [hlen] at h3
  rcases Nat.lt_or_ge i st.hp.length with h4 | h4
  ·rw [List.getElem?_append_left h4] at hi; exact .inl ⟨h4,hi⟩
  obtain rfl : i = st.hp.length:=by omega
  simp at hi
  exact .inr ⟨rfl,hi.symm⟩
 refine ⟨fun i s' hs=>?_,⟨?_,?_,?_,?_,?_⟩,by rw [hlen]; exact Nat.le_succ_of_le h.agr.1,h.agr.2⟩
 ·rw [hlen]
  obtain ⟨e1,e2⟩:=h.fr i s' hs
  exact ⟨e1,e2.le (Nat.le_succ _)⟩
 ·intro i T' l hi
  rw [hlen]
  rcases inv hi with ⟨_,h4⟩ | ⟨_,h4⟩
  ·obtain ⟨e1,e2⟩:=h2.mem.blk i T' l h4
   exact ⟨e1,fun c hc=>(e2 c hc).le (Nat.le_succ _)⟩
  cases h4
 ·intro i T' s' v' n' cs' hi
  rcases inv hi with ⟨_,h4⟩ | ⟨_,h4⟩
  ·exact h2.mem.row i T' s' v' n' cs' h4
  cases h4; exact hown
 ·intro i A hi
  rcases inv hi with ⟨_,h4⟩ | ⟨_,h4⟩
  ·exact h2.mem.abs i A h4
  cases h4
 ·intro i k' hk
  rw [at9] at hk
  rcases hk with ⟨_,hk⟩ | ⟨_,hk⟩
  ·exact ⟨.inl (Nat.le_trans hb (hnew k' hk)),(hown.lt k' hk).2⟩
  exact h2.mem.low i k' hk
 intro i j k' hi hj
 rw [at9] at hi hj
 rcases hi with ⟨e1,hi⟩ | ⟨e1,hi⟩ <;> rcases hj with ⟨e2,hj⟩ | ⟨e2,hj⟩
 ·omega
 ·have:=(h.mem.low j k' hj).2
  have:=hnew k' hi
  omega
 ·have:=(h.mem.low i k' hi).2
  have:=hnew k' hj
  omega
 exact h.mem.apart i j k' hi hj
theorem dj5 {S0 : Nat → Prop} {hp : List HE} (hnew : ∀ g,v.ownBlock = some g → w.heap.size ≤ g) : ∀ k,k < w.heap.size → Sof S0 β hp k → Sof S0 β (hp ++ [.row T s v n cs]) k:=by
 intro k hk ⟨h1,h2⟩
 refine ⟨h1,fun i hi=>?_⟩
 rw [at9] at hi
 rcases hi with ⟨_,hi⟩ | ⟨_,hi⟩
 ·have:=hnew k hi; omega
 exact h2 i hi
theorem ae4 {hp : List HE} {b : Nat} {T' : TypeId} {s' n' : Nat} {v' : Value} {cs' : List Value} (hb : b < hp.length) (i k : Nat) : m7 β (hp.set b (.row T' s' v' n' cs')) i k ↔ (b = i ∧ v'.ownBlock = some k) ∨ (b ≠ i ∧ m7 β hp i k):=by
 by_cases e : b = i
 ·subst e
  rw [O6 (List.getElem?_set_self hb)]
  simp [HE.mine]
 unfold m7
 rw [List.getElem?_set_ne e]
 simp [e]
theorem Sat.setRow {b : Nat} {n' : Nat} {v' : Value} {cs' : List Value} (h : Sat base st β ρ w) (hb : st.hp[b]? = some (.row T s v n cs)) (k : Keeps (fun i=>some i ≠ v.ownBlock) w w') (hown : Own 0 T s w' v' n' cs')
  (hbs : base.n ≤ w.heap.size) (hnew : v'.ownBlock = v.ownBlock ∨ ∀ g,v'.ownBlock = some g → w.heap.size ≤ g) : Sat base ⟨st.fr,st.hp.set b (.row T s v' n' cs')⟩ β ρ w':=by
 have hlen : (st.hp.set b (.row T s v' n' cs')).length = st.hp.length:=by simp
 have hbl:=(List.getElem?_eq_some_iff.1 hb).1
 have hmb : ∀ k',m7 β st.hp b k' ↔ v.ownBlock = some k':=fun k'=>O6 hb
 have oth : ∀ {i : Nat} {k' : Nat},b ≠ i → m7 β st.hp i k' → some k' ≠ v.ownBlock ∧ k' < w.heap.size:=fun {i k'} e hi=>⟨fun e2=>e (h.mem.apart b i k' ((hmb k').2 e2.symm) hi),(h.mem.low i k' hi).2⟩
 refine ⟨fun d=>by rw [hlen]; exact h.fr d,⟨?_,?_,?_,?_,?_⟩,by rw [hlen]; exact h.agr.1,h.agr.2⟩
 ·intro i T' l2 hi
  rw [hlen]
  by_cases e : b = i
  ·subst e
   rw [List.getElem?_set_self hbl] at hi
   cases hi
  rw [List.getElem?_set_ne e] at hi
  obtain ⟨e1,e2⟩:=h.mem.blk i T' l2 hi
  obtain ⟨e3,e4⟩:=oth e (k':=β i) ⟨_,hi,rfl⟩
  exact ⟨(k.block (β i) e4 e3).trans e1,e2⟩
 ·intro i T' s' v2 n2 cs2 hi
  by_cases e : b = i
  ·subst e
   rw [List.getElem?_set_self hbl] at hi
   simp only [Option.some.injEq,HE.row.injEq] at hi
   obtain ⟨rfl,rfl,rfl,rfl,rfl⟩:=hi
   exact hown
  rw [List.getElem?_set_ne e] at hi
  exact Y6 (h.mem.row i T' s' v2 n2 cs2 hi) k fun g hg=>(oth e (k':=g) ⟨_,hi,hg⟩).1
 ·intro i A hi
  by_cases e : b = i
  ·subst e
   rw [List.getElem?_set_self hbl] at hi
   cases hi
  rw [List.getElem?_set_ne e] at hi
  exact A.keep (h.mem.abs i A hi) (fun g hg=>(oth e (k':=g) ⟨_,hi,hg⟩).2) k fun g hg=>(oth e (k':=g) ⟨_,hi,hg⟩).1
 ·intro i k' hk
  rw [ae4 hbl] at hk
  rcases hk with ⟨_,hk⟩ | ⟨_,hk⟩
  ·refine ⟨?_,(hown.lt k' hk).2⟩
   rcases hnew with e5 | e5
   ·exact (h.mem.low b k' ((hmb k').2 (e5.symm.trans hk))).1
   exact .inl (Nat.le_trans hbs (e5 k' hk))
  obtain ⟨e1,e2⟩:=h.mem.low i k' hk
  exact ⟨e1,Nat.lt_of_lt_of_le e2 k.size⟩
 intro i j k' hi hj
 rw [ae4 hbl] at hi hj
 rcases hi with ⟨e1,hi⟩ | ⟨e1,hi⟩ <;> rcases hj with ⟨e2,hj⟩ | ⟨e2,hj⟩
 ·omega
 ·obtain ⟨e3,e4⟩:=oth e2 hj
  rcases hnew with e5 | e5
  ·exact absurd (hi.symm.trans e5) e3
  have:=e5 k' hi; omega
 ·obtain ⟨e3,e4⟩:=oth e1 hi
  rcases hnew with e5 | e5
  ·exact absurd (hj.symm.trans e5) e3
  have:=e5 k' hj; omega
 exact h.mem.apart i j k' hi hj
theorem bd5 {S0 : Nat → Prop} {hp : List HE} {b n' : Nat} {v' : Value} {cs' : List Value} (hb : hp[b]? = some (.row T s v n cs)) (hnew : v'.ownBlock = v.ownBlock ∨ ∀ g,v'.ownBlock = some g → w.heap.size ≤ g) :
  ∀ k,k < w.heap.size → Sof S0 β hp k → Sof S0 β (hp.set b (.row T s v' n' cs')) k:=by
 intro k hk ⟨h1,h2⟩
 have hbl:=(List.getElem?_eq_some_iff.1 hb).1
 refine ⟨h1,fun i hi=>?_⟩
 rw [ae4 hbl] at hi
 rcases hi with ⟨_,hi⟩ | ⟨_,hi⟩
 ·rcases hnew with e | e
  ·exact h2 b ⟨_,hb,e.symm.trans hi⟩
  have:=e k hi; omega
 exact h2 i hi
end
section
variable {c : Cx} {o : Out} {G : Gh}
def mkQ (E : Env) (o : Out) : Option (Int × Int × TypeId × Nat × Nat × List Ch):=
 match bi6 o with
 | some (_,.makeSlice t x y)=>match opd o.st.fr x,opd o.st.fr y,B8 E t with
  | some (.one (.int .i64 i)),some (.one (.int .i64 j)),.slice e=>(E.get e).map fun te=>(i,j,e,te.size,te.bytes,te.zero)
  | some (.one (.lit .i64 i)),some (.one (.lit .i64 j)),.slice e=>(E.get e).map fun te=>(i,j,e,te.size,te.bytes,te.zero)
  | some (.one (.lit .i64 i)),some (.one (.int .i64 j)),.slice e=>(E.get e).map fun te=>(i,j,e,te.size,te.bytes,te.zero)
  | _,_,_=>none
 | _=>none
theorem b96 {β : Nat → Nat} {w : World} {b : Nat} {T : TypeId} {s n : Nat} {v : Value} {cs : List Value} (hb : nth o.st.hp b = some (.row T s v n cs)) (hM : Mem c.bs o.st.hp β w) : Own 0 T s w v n cs:=by
 rw [M1] at hb
 exact hM.row b T s v n cs hb
def stQ (E : Env) (o : Out) : Option (Value × Nat × List Ch):=
 match dl0 o with
 | some (.store T x y)=>match opd o.st.fr x,(opd o.st.fr y).bind SV.chunks,E.get T with
  | some (.one (.val p)),some l,some te=>bif Nat.beq (W6 l) te.size then some (p,te.size,l) else none
  | _,_,_=>none
 | _=>none
theorem dc6 {base : Nat} {T : TypeId} {s n k m : Nat} {w : World} {g cap : Nat} {cur : Array Value} {cs new : List Value} (hcs : (cur.toList.take (n * s)) = cs) (hk : k + m ≤ n * s) (hcur : n * s ≤ cur.size) (hl : new.length = m) :
  ((cur.toList.take k ++ new ++ cur.toList.drop (k + m)).take (n * s)) = cs.take k ++ new ++ cs.drop (k + m):=by
 subst hcs
 have e1 : (cur.toList.take k).length = k:=by rw [List.length_take,Array.length_toList]; omega
 rw [List.take_append,List.take_of_length_le (l:=cur.toList.take k ++ new) (by simp; omega),List.length_append,e1,hl,List.take_take,Nat.min_eq_left (by omega : k ≤ n * s),List.drop_take,List.take_drop]
theorem d20 [Rd] {T : TypeId} {s n : Nat} {cs : List Value} (b k : Nat) (v : Value) (sz : Nat) (l : List Ch) (cs' : List Value) (hq : stQ c.E o = some (.pointer (some (adr v k)),sz,l)) (hb : nth o.st.hp b = some (.row T s v n cs)) (hc : c.Ok) (h0 : 0 < sz)
  (hk : k + sz ≤ n * s) (hcs : ∀ β S w,Keeps c.K c.w0 w → G.p S w → cs.take k ++ f5 β l ++ cs.drop (k + sz) = cs')
  (hn : Run c (ck0 o (Y4 o.st.hp b (.row T s v n cs'))) G) : Run c o G:=by
 refine ⟨fun β ρ w hS hw hG=>?_⟩
 unfold stQ at hq
 split at hq <;> first | (cases hq; done) | skip
 rename_i T' x y hop
 split at hq <;> first | (cases hq; done) | skip
 rename_i p l' te' hx hy hte
 cases hsz : Nat.beq (W6 l') te'.size with
 | false=>rw [hsz] at hq; cases hq
 | true=>
  rw [hsz] at hq
  simp only [cond_true,Option.some.injEq,Prod.mk.injEq] at hq
  obtain ⟨rfl,rfl,rfl⟩:=hq
  have hsz:=Nat.eq_of_beq_eq_true hsz
  unfold dl0 at hop
  cases hcur : o.cur with
  | code x=>rw [hcur] at hop; cases hop
  | ex e=>rw [hcur] at hop; cases hop
  | ops all ll=>
   cases ll with
   | nil=>rw [hcur] at hop; cases hop
   | cons o1 r=>
    rw [hcur] at hop
    obtain ⟨dst,op',ty,pos,aft,g⟩:=o1
    simp only at hop
    cases g with
    | some x=>cases hop
    | none=>
     cases dst with
     | some d'=>cases hop
     | none=>
      simp only [Option.some.injEq] at hop
      subst hop
      have hkn:=hS.ops (.store T' x y)
      have g1 : ev ρ x = .pointer (some (adr v k)):=((hkn x (by simp [Op.operands])) _ hx).1
      cases hyo : opd o.st.fr y with
      | none=>rw [hyo] at hy; cases hy
      | some yv=>
       rw [hyo] at hy
       simp only [Option.bind_some] at hy
       have g2:=(hkn y (by simp [Op.operands])) _ hyo
       obtain ⟨g3,g4⟩:=SV.chunks_ok (β:=β) hy g2.2
       have hlen:=O1 (β:=β) g4
       obtain ⟨z,hty,_⟩:=(hc.env.get hte).ty
       have hown:=b96 hb hS.mem
       rw [M1] at hb
       rcases hown.2 with ⟨_,h2⟩ | ⟨gb,cap,cur,hv,hbg,hg,hnc,hcm,hcz,htk⟩
       ·subst h2; omega
       have hle : n * s ≤ cap * s:=Nat.mul_le_mul_right _ hnc
       have hst:=run_storeCells_at c.P gb k T (f5 β l') 0 cur w hg (by omega) (X0 g4)
       have hcs2:=hcs β _ w hw hG
       have ha : adr v k = ⟨gb,k,none⟩:=by rw [hv]; simp [adr]
       have hrun : ∀ d pos aft g,(execOp (ev ρ) ⟨d,.store T' x y,ty,pos,aft,g⟩).run c.P w = .ok .skip (w.setRow gb (cur.toList.take (k + 0) ++ f5 β l' ++ cur.toList.drop (k + 0 + (f5 β l').length)).toArray):=by
        intro d pos aft g
        have e10 : (f5 β l').length = te'.size:=by omega
        simp only [Nat.add_zero,e10] at hst ⊢
        simp [execOp,g1,g2.1,Instr.storeAt,Instr.sureAddr,storeVar,hty.runSize w,g3,e10,ha,hst]
       have k1 : Keeps (fun i=>some i ≠ v.ownBlock) w (w.setRow gb (cur.toList.take (k + 0) ++ f5 β l' ++ cur.toList.drop (k + 0 + (f5 β l').length)).toArray):=
        ⟨rfl,rfl,rfl,by simp [World.setRow],fun i _ hi=>setRow_other w _ i _ (fun e=>hi (by rw [hv,e]; rfl))⟩
       have hown2 : Own 0 T s (w.setRow gb (cur.toList.take (k + 0) ++ f5 β l' ++ cur.toList.drop (k + 0 + (f5 β l').length)).toArray) v n cs':=by
        refine ⟨?_,.inr ⟨gb,cap,_,hv,hbg,setRow_heap w gb cur _ T (0,0) hg,hnc,hcm,?_,?_⟩⟩
        ·rw [← hcs2]
         have:=hown.1
         simp [hlen,hsz]
         omega
        ·simp [hlen,hsz]; omega
        rw [← hcs2,Nat.add_zero]
        have:=dc6 (base:=0) (T:=T) (w:=w) (g:=gb) (cap:=cap) (new:=f5 β l') (m:=te'.size) htk hk (by omega) (by omega)
        rw [hlen,hsz]
        exact this
       have hS2:=hS.setRow hb k1 hown2 hw.size (.inl rfl)
       refine ao1 rfl ?_
       unfold Stp
       rw [hrun]
       have h1:=hn.run
       unfold ck0 at h1
       rw [hcur,N5] at h1
       have hmb : ∀ i,some i = v.ownBlock → m7 β o.st.hp b i:=fun i hi=>⟨_,hb,hi.symm⟩
       refine h1 β _ _ hS2 ?_ ?_
       ·exact hS.mem.grow hw k1 b fun i hi=>hmb i (Classical.byContradiction hi)
       exact G.mono (G.keep hG (k1.mono fun i hi e=>hi.2 b (hmb i e))) fun i hi hk=>bd5 (w:=w) hb (.inl rfl) i (by simpa [World.setRow] using hi) hk
def d69 (E : Env) (o : Out) : Option (Value × Nat):=
 match bi6 o with
 | some (_,.convert t t2 x)=>match opd o.st.fr x,B8 E t,B8 E t2 with
  | some (.one (.sl v n)),.slice e,.str=>match B8 E e with
   | .int .u8=>some (v,n)
   | _=>none
  | _,_,_=>none
 | _=>none
theorem a81 {base : Nat} {T : TypeId} {s n : Nat} {w : World} {v : Value} {cs : List Value} (h : Own base T s w v n cs) : ∃ S',Row S' T s w v n cs:=⟨All,Row.of_own h fun _ _=>trivial⟩
theorem cc9 {P : Program} {w : World} (base : Nat) (t ty e : TypeId) (i : TypeInfo) (z : Value) (size bytes : Nat) (ht : P.underlying t = some (.slice e)) (hi : P.info? e = some i) (hz : i.zero = some z) (hsize : i.size = size) (hby : i.bytes = bytes) (hzs : z.cells.size = size) (hsz : 0 < size)
  (v : Value) (n : Nat) (xs : List Value) (hown : Own base e size w v n xs) (a : Addr) (m c : Nat) (news : List Value) (hl : news.length = m * size) (hnews : ∀ j u,news[j]? = some u → w.cell? (a.add j) = some u) (h1 : ∀ u ∈ news,u.oneCell' = true)
  (h63 : n + m ≤ maxLen) (hbytes : (n + m) * bytes ≤ 140737488355328) (hbase : base ≤ w.heap.size) :
  ∃ v' w',(Builtin.append_ #[t,t] ty #[v,.slice (some a) m c]).run P w = .ok v' w' ∧ Own base e size w' v' (n + m) (xs ++ news) ∧ Keeps (fun i=>some i ≠ v.ownBlock) w w' ∧ (v'.ownBlock = v.ownBlock ∨ ∀ g,v'.ownBlock = some g → w.heap.size ≤ g):=by
 obtain ⟨v',w',hr,h2,h3,h4⟩:=run_append_own (P:=P) w base t ty e i z size bytes ht hi hz hsize hby hzs hsz v n xs hown a m c news hl hnews h1 h63 hbytes hbase
 refine ⟨v',w',hr,h2,.of_grown h3,?_⟩
 rcases hown.2 with ⟨rfl,rfl⟩ | ⟨g,cap,cur,rfl,hbg,hg,hnc,hcm,hcs,htake⟩
 ·have hx : xs = []:=List.eq_nil_of_length_eq_zero (by simpa using hown.1)
  subst hx
  obtain ⟨v2,w2,hr2,h5,_⟩:=run_append_own (P:=P) w w.heap.size t ty e i z size bytes ht hi hz hsize hby hzs hsz (.slice none 0 0) 0 [] Y2 a m c news hl hnews h1 h63 hbytes (Nat.le_refl _)
  rw [hr] at hr2
  simp only [Result.ok.injEq] at hr2
  obtain ⟨rfl,rfl⟩:=hr2
  exact .inr fun g hg=>(h5.lt g hg).1
 subst hsize hby
 by_cases hroom : n + m ≤ cap
 ·have hfit : n * i.size + news.length ≤ cur.size:=by rw [hl,hcs,← Nat.add_mul]; exact Nat.mul_le_mul_right _ hroom
  have hr2:=run_append_room (P:=P) w t ty e i ht hi g n cap cur hg a m c news hl hnews h1 hroom hfit
  rw [hr] at hr2
  simp only [Result.ok.injEq] at hr2
  rw [hr2.1]
  exact .inl rfl
 have hr2:=run_append_grow (P:=P) w t ty e i z ht hi hz ⟨g,0,none⟩ n cap xs hown.1 (World.ownsRow.cells hown (g:=g) rfl) a m c news hl hnews (by omega) (by unfold maxLen at h63; omega) (growslice_fits (by omega) hbytes)
 rw [hr] at hr2
 simp only [Result.ok.injEq] at hr2
 rw [hr2.1]
 exact .inr fun g hg=>by simp [Value.ownBlock] at hg; omega
def dy6 (E : Env) (o : Out) : Option (Value × Nat × Ch × TypeId × Nat × Nat):=
 match bi6 o with
 | some (_,.call ⟨.builtin .append,args,ts⟩)=>match args.toList,ts.toList with
  | [x,y],[t,t']=>match opd o.st.fr x,opd o.st.fr y,B8 E t with
   | some (.one (.sl v n)),some (.one a),.slice e=>(E.get e).bind fun te=>bif Nat.beq t t' then some (v,n,a,e,te.size,te.bytes) else none
   | _,_,_=>none
  | _,_=>none
 | _=>none
theorem a08 [Rd] {cs : List Value} (b : Nat) (v : Value) (n : Nat) (y : Ch) (e : TypeId) (sz bytes m : Nat) (news : List Value) (hq : dy6 c.E o = some (v,n,y,e,sz,bytes)) (hb : nth o.st.hp b = some (.row e sz v n cs)) (hc : c.Ok) (h0 : 0 < sz) (hm : n + m ≤ maxLen) (hby : (n + m) * bytes ≤ 140737488355328)
  (h : ∀ β S w,Mem c.bs o.st.hp β w → Keeps c.K c.w0 w → G.p S w → ∃ S' T',Row S' T' sz w (y.den β) m news ∧ ∀ u ∈ news,u.oneCell' = true)
  (hn : ∀ v',Run c (Z4 o (.one (.sl v' (n + m))) (Y4 o.st.hp b (.row e sz v' (n + m) (cs ++ news)))) G) : Run c o G:=by
 refine ⟨fun β ρ w hS hw hG=>?_⟩
 unfold dy6 at hq
 split at hq <;> first | (cases hq; done) | skip
 rename_i d args ts hop
 split at hq <;> first | (cases hq; done) | skip
 rename_i x yo t t' hargs hts
 obtain rfl : args = #[x,yo]:=by rw [← Array.toArray_toList (xs:=args),hargs]
 obtain rfl : ts = #[t,t']:=by rw [← Array.toArray_toList (xs:=ts),hts]
 split at hq <;> first | (cases hq; done) | skip
 rename_i v' n' a e' hx hy hk
 cases hte : c.E.get e' with
 | none=>rw [hte] at hq; cases hq
 | some te'=>
  rw [hte] at hq
  simp only [Option.bind_some] at hq
  cases htt : Nat.beq t t' with
  | false=>rw [htt] at hq; cases hq
  | true=>
   rw [htt] at hq
   obtain rfl:=Nat.eq_of_beq_eq_true htt
   simp only [cond_true,Option.some.injEq,Prod.mk.injEq] at hq
   obtain ⟨rfl,rfl,rfl,rfl,rfl,rfl⟩:=hq
   unfold bi6 at hop
   cases hcur : o.cur with
   | code x=>rw [hcur] at hop; cases hop
   | ex e=>rw [hcur] at hop; cases hop
   | ops all ll=>
    cases ll with
    | nil=>rw [hcur] at hop; cases hop
    | cons o1 r=>
     rw [hcur] at hop
     obtain ⟨dst,op',ty,pos,aft,g⟩:=o1
     simp only at hop
     cases g with
     | some x=>cases hop
     | none=>
      cases dst with
      | none=>cases hop
      | some d'=>
       simp only [Option.some.injEq,Prod.mk.injEq] at hop
       obtain ⟨rfl,rfl⟩:=hop
       have hkn:=hS.ops (.call ⟨.builtin .append,#[x,yo],#[t,t]⟩)
       have g1 : ev ρ x = v':=((hkn x (by simp [Op.operands,Call.operands])) _ hx).1
       have g2 : ev ρ yo = a.den β:=((hkn yo (by simp [Op.operands,Call.operands])) _ hy).1
       have hkd:=D2 (t:=t) hc.env
       rw [hk] at hkd
       have hkd' : c.P.underlying t = some (.slice e'):=hkd
       obtain ⟨z,hty,_⟩:=(hc.env.get hte).ty
       obtain ⟨ti,hi,e1,e2,e3⟩:=hty.ex
       have hown:=b96 hb hS.mem
       rw [M1] at hb
       obtain ⟨S',T',hrow,hones⟩:=h β _ w hS.mem hw hG
       have fin : ∃ v2 w2,(Builtin.append_ #[t,t] ty #[v',a.den β]).run c.P w = .ok v2 w2 ∧ Own 0 e' te'.size w2 v2 (n' + m) (cs ++ news) ∧ Keeps (fun i=>some i ≠ v'.ownBlock) w w2 ∧ (v2.ownBlock = v'.ownBlock ∨ ∀ g,v2.ownBlock = some g → w.heap.size ≤ g):=by
        rcases hrow.2 with ⟨h2,h3⟩ | ⟨gg,off,cap,arr,fr,hv,_⟩
        ·have hl:=hrow.1
         subst h3
         obtain rfl : news = []:=List.eq_nil_of_length_eq_zero (by simpa using hl)
         rw [h2]
         exact ⟨v',w,run_append_owned_none (P:=c.P) (w:=w) 0 t ty e' ti te'.size hkd' hi v' n' cs hown,by simpa using hown,.refl,.inl rfl⟩
        rw [hv]
        refine cc9 0 t ty e' ti z te'.size te'.bytes hkd' hi e3 e1 e2 hty.zsize h0 v' n' cs hown ⟨gg,off,none⟩ m cap news hrow.1 (fun j u hu=>?_) hones hm hby (Nat.zero_le _)
        have h5:=hrow.cell hu
        rw [hv] at h5
        rw [U1]
        exact h5
       obtain ⟨v2,w2,hr,hown2,k1,hnew⟩:=fin
       refine ao1 rfl ?_
       unfold Stp
       have hrun : (execOp (ev ρ) ⟨some d',.call ⟨.builtin .append,#[x,yo],#[t,t]⟩,ty,pos,aft,none⟩).run c.P w = .ok (.value v2) w2:=by
        simp [execOp,resolve,invoke,builtin,g1,g2,hr]
       rw [hrun]
       have hS2:=hS.setRow hb k1 hown2 hw.size hnew
       have h1:=(hn v2).run
       unfold Z4 at h1
       rw [hcur,N5] at h1
       have hmb : ∀ i,some i = v'.ownBlock → m7 β o.st.hp b i:=fun i hi=>⟨_,hb,hi.symm⟩
       refine h1 β _ w2 (hS2.put (d:=d') (s:=.one (.sl v2 (n' + m))) rfl (bj5 hown2)) ?_ ?_
       ·exact hS.mem.grow hw k1 b fun i hi=>hmb i (Classical.byContradiction hi)
       exact G.mono (G.keep (G.mono (S':=fun k=>Sof c.S0 β o.st.hp k ∧ k < w.heap.size) hG fun k hk h=>⟨h,hk⟩) (k1.mono fun i hi e=>hi.1.2 b (hmb i e))) fun k _ hk=>bd5 hb hnew k hk.2 hk.1
theorem dj9 [Rd] {T : TypeId} {s : Nat} (hn : Run c ⟨o.cur,o.k,⟨o.st.fr,o.st.hp ++ [.row T s (.slice none 0 0) 0 []]⟩,[]⟩ G) : Run c o G:=
 ⟨fun β ρ w hS hw hG=>hn.run β ρ w (hS.newRow .refl Y2 hw.size (fun g h=>by simp [Value.ownBlock] at h)) hw (G.mono hG (dj5 (w:=w) (fun g h=>by simp [Value.ownBlock] at h)))⟩
end
theorem F0 : ∀ {m : Nat} {l : List Ch},(l.foldr (fun c p=>c.Ok m ∧ p) True) → (SV.agg l).Ok m:=by
 intro m l
 induction l with
 | nil=>intro _ c hc; cases hc
 | cons a r ih=>
  intro h c hc
  rcases List.mem_cons.1 hc with rfl | hc
  ·exact h.1
  exact ih h.2 c hc
def At (S : Nat → Prop) (w : World) (u : Value) (cs : List Value) : Prop:=
 ∃ b o arr T fr,u = .pointer (some ⟨b,o,none⟩) ∧ S b ∧ w.heap[b]? = some (.cells arr T fr) ∧ o + cs.length ≤ arr.size ∧ (arr.toList.drop o).take cs.length = cs
theorem At.keep {S : Nat → Prop} {w w' : World} {u : Value} {cs : List Value} (h : At S w u cs) (k : Keeps S w w') : At S w' u cs:=by
 obtain ⟨b,o,arr,T,fr,h1,h2,h3,h4,h5⟩:=h
 exact ⟨b,o,arr,T,fr,h1,h2,(k.block b (Array.getElem?_eq_some_iff.1 h3).1 h2).trans h3,h4,h5⟩
theorem At.mono {S S' : Nat → Prop} {w : World} {u : Value} {cs : List Value} (h : At S w u cs) (hs : ∀ k,k < w.heap.size → S k → S' k) : At S' w u cs:=by
 obtain ⟨b,o,arr,T,fr,h1,h2,h3,h4,h5⟩:=h
 exact ⟨b,o,arr,T,fr,h1,hs b (Array.getElem?_eq_some_iff.1 h3).1 h2,h3,h4,h5⟩
theorem At.of_row {S : Nat → Prop} {T : TypeId} {s : Nat} {w : World} {v : Value} {n i : Nat} {cs : List Value} (h : Row S T s w v n cs) (hi : i < n) : At S w (.pointer (some (adr v (i * s)))) ((cs.drop (i * s)).take s):=by
 have h1 : (i + 1) * s ≤ n * s:=Nat.mul_le_mul_right _ hi
 rw [Nat.add_mul,Nat.one_mul] at h1
 have hl : ((cs.drop (i * s)).take s).length = s:=by rw [List.length_take,List.length_drop,h.1]; omega
 rcases h.2 with ⟨_,h2⟩ | ⟨b,off,cap,arr,fr,hv,h2,h3,h4,h5,h6,h7⟩
 ·omega
 subst hv
 have h8 : n * s ≤ cap * s:=Nat.mul_le_mul_right _ h2
 refine ⟨b,off + i * s,arr,T,fr,rfl,h4,h5,by rw [hl]; omega,?_⟩
 rw [hl,← h7,List.drop_take,List.drop_drop,List.take_take]
 congr 1
 omega
theorem At.cell {S : Nat → Prop} {w : World} {u : Value} {cs : List Value} (h : At S w u cs) : ∃ b o,u = .pointer (some ⟨b,o,none⟩) ∧ ∀ i,i < cs.length → w.cell? ⟨b,o + i,none⟩ = cs[i]?:=by
 obtain ⟨b,o,arr,T,fr,h1,h2,h3,h4,h5⟩:=h
 refine ⟨b,o,h1,fun i hi=>?_⟩
 simp only [World.cell?,h3]
 have h6 : cs[i]? = ((arr.toList.drop o).take cs.length)[i]?:=by rw [h5]
 rw [h6,List.getElem?_take,if_pos hi,List.getElem?_drop]
 simp
def K4 (g : Bool) (s : Nat) (x : Value) : Prop:=x.cells.toList.length = s ∧ bif g then x = .agg x.cells else x.cells = #[x]
theorem ak0 (cs : List Value) : K4 true cs.length (.agg cs.toArray):=⟨by simp [Value.cells],by simp [Value.cells]⟩
theorem At.load {P : Program} {T : TypeId} {s b : Nat} {z : Value} {g : Bool} {S : Nat → Prop} {w : World} {u x : Value} (hty : TyI P T s b z g) (h : At S w u x.cells.toList) (hx : K4 g s x) {ρ : Operand → Value} {ty : TypeId} {y : Operand} (hy : ρ y = u) : ac7 P ρ (.load T y) ty w x:=by
 obtain ⟨b',o,rfl,hc⟩:=h.cell
 obtain ⟨h1,h2⟩:=hx
 have hlv : (loadVar T ⟨b',o,none⟩).run P w = .ok x w:=by
  cases g with
  | true=>
   simp only [cond_true] at h2
   have h3:=ak2 hty h1 hc
   rw [h3]
   congr 1
   rw [h2]
   simp [Value.cells]
  | false=>
   simp only [cond_false] at h2
   have h3:=hc 0 (by rw [h2]; simp)
   rw [h2] at h3
   exact Z0 hty (by simpa using h3)
 intro d pos aft g'
 simp [execOp,hy,Instr.loadAt,Instr.sureAddr,hlv]
abbrev atG (g : Bool) (s : Nat) (Δ : Value → Gh) (u : Value) : Gh:=
 ⟨fun S w=>∃ x,K4 g s x ∧ At S w u x.cells.toList ∧ (Δ x).p S w,fun ⟨x,h1,h2,h3⟩ k=>⟨x,h1,h2.keep k,(Δ x).keep h3 k⟩,fun ⟨x,h1,h2,h3⟩ k=>⟨x,h1,h2.mono k,(Δ x).mono h3 k⟩⟩
structure SeqV {α : Type} (g : Bool) (s : Nat) (F : Value → α → Gh) (S : Nat → Prop) (w : World) (v : Value) (l : List α) : Prop where
 row : ∃ (T : TypeId) (vs : List Value),vs.length = l.length ∧ (∀ x ∈ vs,K4 g s x) ∧ Row S T s w v l.length (vs.flatMap fun x=>x.cells.toList) ∧ ∀ (i : Nat) a x,l[i]? = some a → vs[i]? = some x → (F x a).p S w
section
variable {α : Type} {g : Bool} {s : Nat} {F : Value → α → Gh} {S S' : Nat → Prop} {w w' : World} {v : Value} {l : List α}
theorem SeqV.keep (h : SeqV g s F S w v l) (k : Keeps S w w') : SeqV g s F S w' v l:=let ⟨T,vs,h1,h2,h3,h4⟩:=h.row; ⟨T,vs,h1,h2,h3.keep k,fun i a x ha hx=>(F x a).keep (h4 i a x ha hx) k⟩
theorem SeqV.mono (h : SeqV g s F S w v l) (hs : ∀ k,k < w.heap.size → S k → S' k) : SeqV g s F S' w v l:=let ⟨T,vs,h1,h2,h3,h4⟩:=h.row; ⟨T,vs,h1,h2,h3.mono hs,fun i a x ha hx=>(F x a).mono (h4 i a x ha hx) hs⟩
theorem aj1 {vs : List Value} (h : ∀ x ∈ vs,K4 g s x) : ∀ {i : Nat} {x : Value},vs[i]? = some x → ((vs.flatMap fun x=>x.cells.toList).drop (i * s)).take s = x.cells.toList:=by
 induction vs with
 | nil=>intro i x hx; simp at hx
 | cons y r ih=>
  intro i x hx
  have hy:=(h y (List.mem_cons_self ..)).1
  rw [List.flatMap_cons]
  cases i with
  | zero=>
   simp only [List.getElem?_cons_zero,Option.some.injEq] at hx
   subst hx
   rw [Nat.zero_mul,List.drop_zero,List.take_left' hy]
  | succ i=>
   rw [Nat.add_mul,Nat.one_mul,Nat.add_comm,← List.drop_drop,List.drop_left' hy]
   exact ih (fun x hx=>h x (List.mem_cons_of_mem _ hx)) (by simpa using hx)
theorem SeqV.at (h : SeqV g s F S w v l) {i : Nat} {a : α} (hi : l[i]? = some a) : (atG g s (fun x=>F x a) (.pointer (some (adr v (i * s))))).p S w:=by
 obtain ⟨T,vs,h1,h2,h3,h4⟩:=h.row
 have hil:=(List.getElem?_eq_some_iff.1 hi).1
 have hx : vs[i]? = some vs[i]:=List.getElem?_eq_getElem (by omega)
 have hr:=At.of_row h3 hil
 rw [aj1 h2 hx] at hr
 exact ⟨vs[i],h2 _ (List.getElem_mem _),hr,h4 i a _ hi hx⟩
theorem SeqV.sl (h : SeqV g s F S w v l) : (SV.one (.sl v l.length)).Ok 0:=by
 obtain ⟨T,vs,h1,h2,h3,h4⟩:=h.row
 exact h3.slice
theorem SeqV.len_le (h : SeqV g s F S w v l) : l.length ≤ maxLen:=by
 obtain ⟨T,vs,h1,h2,h3,h4⟩:=h.row
 exact h3.len_le
end
abbrev G9 (p : Prop) : Gh:=⟨fun _ _=>p,fun h _=>h,fun h _=>h⟩
theorem SeqV.el {α : Type} {g : Bool} {s : Nat} {F : Value → α → Gh} {S : Nat → Prop} {w : World} {v : Value} {l : List α} (h : SeqV g s F S w v l) {i : Int} {k n : Nat} {a : α} (hn : n = l.length) (hi : i = (k : Int)) (ha : l[k]? = some a) :
  0 ≤ i ∧ i < n ∧ (∃ S' T' cs,Row S' T' s w v n cs) ∧ (atG g s (fun x=>F x a) (.pointer (some (adr v (i.toNat * s))))).p S w:=by
 subst hi
 subst hn
 have hk:=(List.getElem?_eq_some_iff.1 ha).1
 obtain ⟨T,vs,h1,h2,h3,h4⟩:=h.row
 exact ⟨by omega,by omega,⟨S,T,_,h3⟩,h.at ha⟩
abbrev bt5 {α : Type} (g : Bool) (s : Nat) (F : Value → α → Gh) (v : Value) (l : List α) : Gh:=⟨fun S w=>SeqV g s F S w v l,fun h k=>h.keep k,fun h k=>h.mono k⟩
section
variable {c : Cx} {o : Out} {G : Gh}
theorem at0 [Rd] (v : Value) (n : Nat) (i : Int) (e : TypeId) (sz : Nat) (Δ : Value → Gh) (hq : do0 c.E o = some (v,n,i,e,sz)) (hc : c.Ok)
  (h : ∀ β S w,Mem c.bs o.st.hp β w → Keeps c.K c.w0 w → G.p S w → 0 ≤ i ∧ i < n ∧ (∃ S' T' cs,Row S' T' sz w v n cs) ∧ (Δ (.pointer (some (adr v (i.toNat * sz))))).p S w)
  (hn : ∀ u,Run c (Z4 o (.one (.val u)) o.st.hp) ((Δ u).and G)) : Run c o G:=by
 refine ⟨fun β ρ w hS hw hG=>?_⟩
 have h1:=h β (Sof c.S0 β o.st.hp) w hS.mem hw hG
 refine (c22 (G:=(Δ (.pointer (some (adr v (i.toNat * sz))))).and G) v n i e sz hq hc h1.1 h1.2.1 (fun β S w hM hw hG=>(h β S w hM hw hG.2).2.2.1) ?_).run β ρ w hS hw ⟨h1.2.2.2,hG⟩
 exact hn _
theorem a25 [Rd] (u : Value) (T : TypeId) (sz : Nat) (g : Bool) (pat : Value → SV) (Δ : Value → Gh) (hq : ldQ c.E o = some (u,T,sz,g)) (hc : c.Ok)
  (h : ∀ S w,Keeps c.K c.w0 w → G.p S w → (atG g sz Δ u).p S w) (hok : ∀ a S w,(Δ a).p S w → (pat a).Ok 0 ∧ (pat a).den (fun _=>0) = a)
  (hn : ∀ a,Run c (Z4 o (pat a) o.st.hp) ((Δ a).and G)) : Run c o G:=by
 unfold ldQ at hq
 split at hq <;> first | (cases hq; done) | skip
 rename_i d T' x hop
 split at hq <;> first | (cases hq; done) | skip
 rename_i p hx
 cases hte : c.E.get T' with
 | none=>rw [hte] at hq; cases hq
 | some te=>
  rw [hte] at hq
  simp only [Option.map_some,Option.some.injEq,Prod.mk.injEq] at hq
  obtain ⟨rfl,rfl,rfl,rfl⟩:=hq
  refine bk5 pat Δ hop (fun β S w F ty hkn hM hup hS hw hG=>?_) hc hn
  obtain ⟨a,h1,h2,h3⟩:=h S w hw hG
  obtain ⟨h4,h5⟩:=hok a S w h3
  have g1 : ev F x = p:=(hkn x (by simp [Op.operands]) _ hx).1
  obtain ⟨z,hty,_⟩:=(hc.env.get hte).ty
  refine ⟨a,w,.refl,h4.le (Nat.zero_le _),h3,?_,rfl⟩
  rw [SV.den_congr (m:=0) (β':=fun _=>0) (fun i hi=>absurd hi (Nat.not_lt_zero i)) h4,h5]
  exact h2.load hty h1 g1
end
section
variable {c : Cx} {st : St} {G : Gh} {all : List Oper} {K : List HRec → Prop} {acc : List HRec} {ops : List Oper}
def aq7 (all : List Oper) (st : St) (acc : List HRec) (ops : List Oper) (η : Nat → Value) : Bool:=G2 all (frH st acc η) (opH ops) && (opH ops).dst.isSome && !ops.isEmpty
theorem bb4 (p : Value → SV) (Δ : Value → Gh) (hok : ∀ η,aq7 all st acc ops η = true)
  (h : ∀ β η S w F m ty,ab4 β m (frH st acc η) (ev F) (opH ops).op → Up S w → Mem c.bs st.hp β w → (∀ k,S k → c.S0 k) → Keeps c.K c.w0 w → G.p S w → depsH acc (opH ops).after.toList η S w → ∃ v,ac7 c.P (ev F) (opH ops).op ty w v ∧ v = (p v).den (fun _=>0) ∧ (p v).Ok 0 ∧ (Δ v).p S w)
  (k : Hd c st G all K (.spec ((opH ops).dst.getD 0) p Δ :: acc) (ops.drop 1)) : Hd c st G all K acc ops:=by
 cases ops with
 | nil=>have:=hok η0; simp [aq7] at this
 | cons o r=>
  refine ⟨⟨.spec ((opH (o :: r)).dst.getD 0) p Δ,⟨?_,fun η=>?_⟩,k.run⟩⟩
  ·have:=hok η0
   simp only [aq7,Bool.and_eq_true] at this
   cases hx : o.dst with
   | none=>have h2:=this.1.2; simp [opH,hx] at h2
   | some d=>simp [opH,hx]
  have h1:=hok η
  simp only [aq7,Bool.and_eq_true] at h1
  refine ⟨h1.1.1,fun β S w F m hkn hup hM hS hw hG hd=>?_⟩
  obtain ⟨dst,op,ty,pos,aft,g⟩:=o
  obtain ⟨v,e1,e2,e3,e4⟩:=h β η S w F m ty hkn hup hM hS hw hG hd
  have e0:=e1 dst pos aft g
  unfold bu6
  simp only [opH] at e0
  rw [e0]
  exact ⟨.refl,e2,e3,e4⟩
def dx2 (c : Cx) (st : St) (acc : List HRec) (ops : List Oper) (η : Nat → Value) : Option (Value × Nat × Int × TypeId × Nat):=
 match (opH ops).op with
 | .indexAddr t x ix=>match opd (frH st acc η) x,opd (frH st acc η) ix,B8 c.E t with
  | some (.one (.sl v n)),some (.one (.int _ i)),.slice e=>(c.E.get e).map fun te=>(v,n,i,e,te.size)
  | some (.one (.sl v n)),some (.one (.lit _ i)),.slice e=>(c.E.get e).map fun te=>(v,n,i,e,te.size)
  | _,_,_=>none
 | _=>none
theorem ar6 (v : (Nat → Value) → Value) (n : Nat) (i : Int) (e : TypeId) (sz : Nat) (Δ : Value → Gh) (hok : ∀ η,aq7 all st acc ops η = true) (hq : ∀ η,dx2 c st acc ops η = some (v η,n,i,e,sz)) (hc : c.Ok)
  (h : ∀ β η S w,Mem c.bs st.hp β w → Keeps c.K c.w0 w → G.p S w → depsH acc (opH ops).after.toList η S w → 0 ≤ i ∧ i < n ∧ (∃ S' T' cs,Row S' T' sz w (v η) n cs) ∧ (Δ (.pointer (some (adr (v η) (i.toNat * sz))))).p S w)
  (k : Hd c st G all K (.spec ((opH ops).dst.getD 0) (fun u=>.one (.val u)) Δ :: acc) (ops.drop 1)) : Hd c st G all K acc ops:=by
 refine bb4 (fun u=>.one (.val u)) Δ hok (fun β η S w F m ty hkn hup hM hS hw hG hd=>?_) k
 obtain ⟨h0,h1,⟨S',T',cs,hr⟩,h3⟩:=h β η S w hM hw hG hd
 have hq:=hq η
 unfold dx2 at hq
 split at hq <;> first | (cases hq; done) | skip
 rename_i t x ix hop
 refine ⟨.pointer (some (adr (v η) (i.toNat * sz))),?_,rfl,(rfl : Value.oneCell' _ = true),h3⟩
 rw [hop] at hkn ⊢
 have key : ∀ (ch : Ch) (kk : IntKind) (v' : Value) (n' : Nat) (i' : Int) (e' : TypeId),(∀ β,ch.den β = .int kk i') → opd (frH st acc η) x = some (.one (.sl v' n')) → opd (frH st acc η) ix = some (.one ch) → B8 c.E t = .slice e' →
   ((c.E.get e').map fun te=>(v',n',i',e',te.size)) = some (v η,n,i,e,sz) → ac7 c.P (ev F) (.indexAddr t x ix) ty w (.pointer (some (adr (v η) (i.toNat * sz)))):=by
  intro ch kk v' n' i' e' hch hx hi hk hq
  cases hte : c.E.get e' with
  | none=>rw [hte] at hq; cases hq
  | some te=>
   rw [hte] at hq
   simp only [Option.map_some,Option.some.injEq,Prod.mk.injEq] at hq
   obtain ⟨rfl,rfl,rfl,rfl,rfl⟩:=hq
   have g1:=(hkn x (by simp [Op.operands]) _ hx).1
   have g2:=(hkn ix (by simp [Op.operands]) _ hi).1
   have hkd:=D2 (t:=t) hc.env
   rw [hk] at hkd
   have hkd' : c.P.underlying t = some (.slice e'):=hkd
   obtain ⟨z,hty,_⟩:=(hc.env.get hte).ty
   intro d pos aft g
   rcases hr.2 with ⟨_,h2⟩ | ⟨gg,off,cap,arr,fr,hv2,_⟩
   ·omega
   have g1' : ev F x = .slice (some ⟨gg,off,none⟩) n' cap:=by rw [g1]; exact hv2
   have g2' : ev F ix = .int kk i':=by rw [g2]; exact hch β
   simp [execOp,g1',g2',Instr.indexAt,asIntOf,run_underlying hkd',h0,h1,hty.runSize w,adr,hv2,U1]
 split at hq <;> first | (cases hq; done) | skip
 ·exact key _ _ _ _ _ _ (fun β=>rfl) (by assumption) (by assumption) (by assumption) hq
 exact key _ _ _ _ _ _ (fun β=>rfl) (by assumption) (by assumption) (by assumption) hq
def ldH (c : Cx) (st : St) (acc : List HRec) (ops : List Oper) (η : Nat → Value) : Option (Value × TypeId × Nat × Bool):=
 match (opH ops).op with
 | .load T x=>match opd (frH st acc η) x with
  | some (.one (.val p))=>(c.E.get T).map fun te=>(p,T,te.size,te.agg)
  | _=>none
 | _=>none
theorem dp4 (u : (Nat → Value) → Value) (T : TypeId) (sz : Nat) (g : Bool) (pat : Value → SV) (Δ : Value → Gh) (hok : ∀ η,aq7 all st acc ops η = true) (hq : ∀ η,ldH c st acc ops η = some (u η,T,sz,g)) (hc : c.Ok)
  (hpat : ∀ a S w,(Δ a).p S w → (pat a).Ok 0 ∧ (pat a).den (fun _=>0) = a) (h : ∀ β η S w,Mem c.bs st.hp β w → Keeps c.K c.w0 w → G.p S w → depsH acc (opH ops).after.toList η S w → ∃ S' x,K4 g sz x ∧ At S' w (u η) x.cells.toList ∧ (Δ x).p S w)
  (k : Hd c st G all K (.spec ((opH ops).dst.getD 0) pat Δ :: acc) (ops.drop 1)) : Hd c st G all K acc ops:=by
 refine bb4 pat Δ hok (fun β η S w F m ty hkn hup hM hS hw hG hd=>?_) k
 obtain ⟨S',a,h1,h2,h3⟩:=h β η S w hM hw hG hd
 obtain ⟨h4,h5⟩:=hpat a S w h3
 have hq:=hq η
 unfold ldH at hq
 split at hq <;> first | (cases hq; done) | skip
 rename_i T' x hop
 split at hq <;> first | (cases hq; done) | skip
 rename_i p hx
 cases hte : c.E.get T' with
 | none=>rw [hte] at hq; cases hq
 | some te=>
  rw [hte] at hq
  simp only [Option.map_some,Option.some.injEq,Prod.mk.injEq] at hq
  obtain ⟨rfl,rfl,rfl,rfl⟩:=hq
  rw [hop] at hkn ⊢
  have g1 : ev F x = u η:=(hkn x (by simp [Op.operands]) _ hx).1
  obtain ⟨z,hty,_⟩:=(hc.env.get hte).ty
  exact ⟨a,h2.load hty h1 g1,h5.symm,h4,h3⟩
theorem K9 (u : (Nat → Value) → Value) (T : TypeId) (sz : Nat) (g : Bool) (pat : Value → SV) (Δ : Value → Gh) (hc : c.Ok) (h : ∀ β η S w,Mem c.bs st.hp β w → Keeps c.K c.w0 w → G.p S w → depsH acc (opH ops).after.toList η S w → ∃ S' x,K4 g sz x ∧ At S' w (u η) x.cells.toList ∧ (Δ x).p S w) (k : Hd c st G all K (.spec ((opH ops).dst.getD 0) pat Δ :: acc) (ops.drop 1)) (hok : ∀ η,aq7 all st acc ops η = true:=by intros; kernel_rfl) (hq : ∀ η,ldH c st acc ops η = some (u η,T,sz,g):=by intros; kernel_rfl) (hpat : ∀ a S w,(Δ a).p S w → (pat a).Ok 0 ∧ (pat a).den (fun _=>0) = a:=by exact fun _ _ _ h=>⟨h.ok,rfl⟩) : Hd c st G all K acc ops:=
 dp4 u T sz g pat Δ hok hq hc hpat h k
end
section
variable {c : Cx} {o : Out} {G : Gh}
theorem ca2 {β : Nat → Nat} {w : World} (b : Nat) (T : TypeId) (s n : Nat) (v : Value) (cs : List Value) (hb : nth o.st.hp b = some (.row T s v n cs)) (hM : Mem c.bs o.st.hp β w) : ∃ S',Row S' T s w v n cs:=a81 (b96 hb hM)
def dl7 (st : St) (d : Nat) : Option Int:=match H4 st.fr d with | some (.one (.int .i64 z))=>some z | some (.one (.lit .i64 z))=>some z | _=>none
theorem cw6 [Rd] (d : Nat) (a b : Int) (hq : dl7 o.st d = some a) (h : a = b) (k : Run c (Q8 o d (.one (.int .i64 b))) G) : Run c o G:=by
 subst h
 refine dy3 d (.one (.int .i64 a)) (fun β=>?_) trivial k
 unfold dl7 at hq
 split at hq <;> first | (cases hq; done) | skip
 all_goals
  rename_i z hl
  simp only [Option.some.injEq] at hq
  subst hq
  unfold c79
  rw [hl]
  rfl
end
section
variable {c : Cx} {o : Out} {G : Gh}
end
def A2 (u : Value) (o : Nat) : Value:=match u with | .pointer (some ⟨g,o0,none⟩)=>.pointer (some ⟨g,o0 + o,none⟩) | _=>.nilFunc
def cf8 (u : Value) (o m k : Nat) : Value:=match u with | .pointer (some ⟨g,o0,none⟩)=>.slice (some ⟨g,o0 + o,none⟩) m k | _=>.nilFunc
theorem ar8 (u : Value) (o : Nat) : (A2 u o).oneCell' = true:=by unfold A2; split <;> rfl
theorem co7 (u : Value) (o m k : Nat) : (cf8 u o m k).oneCell' = true:=by unfold cf8; split <;> rfl
def b68 (b : Nat) (u : Value) : Nat ⊕ Value → Nat ⊕ Value
 | .inl b'=>bif Nat.beq b' b then .inr u else .inl b'
 | .inr x=>.inr x
def Ch.sub (b : Nat) (u : Value) : Ch → Ch
 | .ptr b' o=>bif Nat.beq b' b then .val (A2 u o) else .ptr b' o
 | .fn g cap=>.fn g (cap.map (b68 b u))
 | .win b' o m k=>bif Nat.beq b' b then .val (cf8 u o m k) else .win b' o m k
 | c=>c
def SV.sub (b : Nat) (u : Value) : SV → SV
 | .one c=>.one (c.sub b u)
 | .agg l=>.agg (l.map (Ch.sub b u))
 | .tup l=>.tup (l.map fun p=>(p.1,p.2.map (Ch.sub b u)))
 | .und=>.und
def HE.sub (b : Nat) (u : Value) : HE → HE
 | .blk T l=>.blk T (l.map (Ch.sub b u))
 | e=>e
def cj5 (b : Nat) (u : Value) : List (Nat × SV) → List (Nat × SV)
 | []=>[]
 | p :: r=>(p.1,p.2.sub b u) :: cj5 b u r
def aq9 (b : Nat) (u : Value) : List HE → List HE
 | []=>[]
 | e :: r=>e.sub b u :: aq9 b u r
def du3 (b : Nat) (u : Value) (o : Out) : Out:=⟨o.cur,o.k,⟨cj5 b u o.st.fr,aq9 b u (Y4 o.st.hp b .gone)⟩,[]⟩
theorem b21 [Rd] {b : Nat} {u : Value} : ∀ (l : List HE),aq9 b u l = l.map (HE.sub b u):=by
 intro l
 induction l with
 | nil=>rfl
 | cons e r ih=>simp [aq9,ih]
section
variable {b m : Nat} {u : Value} {β : Nat → Nat}
theorem Ch.sub_den [Rd] (hu : u = .pointer (some ⟨β b,0,none⟩)) (c : Ch) : (c.sub b u).den β = c.den β:=by
 subst hu
 cases c with
 | ptr b' o=>
  simp only [Ch.sub]
  cases hb : Nat.beq b' b with
  | true=>obtain rfl:=Nat.eq_of_beq_eq_true hb; simp [Ch.den,A2]
  | false=>rfl
 | win b' o m k=>
  simp only [Ch.sub]
  cases hb : Nat.beq b' b with
  | true=>obtain rfl:=Nat.eq_of_beq_eq_true hb; simp [Ch.den,cf8]
  | false=>rfl
 | fn g cap=>
  simp only [Ch.sub,Ch.den,List.map_map]
  congr 2
  refine List.map_congr_left fun x _=>?_
  cases x with
  | inr x=>rfl
  | inl b'=>
   simp only [Function.comp,b68]
   cases hb : Nat.beq b' b with
   | true=>obtain rfl:=Nat.eq_of_beq_eq_true hb; rfl
   | false=>rfl
 | _=>rfl
theorem Ch.sub_cells [Rd] (hu : u = .pointer (some ⟨β b,0,none⟩)) (c : Ch) : (c.sub b u).cells β = c.cells β:=by
 have h:=Ch.sub_den hu c
 cases c with
 | ag n x=>rfl
 | ptr b' o=>
  simp only [Ch.sub] at h ⊢
  cases hb : Nat.beq b' b with
  | true=>rw [hb] at h; exact congrArg (fun x=>[x]) h
  | false=>rfl
 | win b' o m k=>
  simp only [Ch.sub] at h ⊢
  cases hb : Nat.beq b' b with
  | true=>rw [hb] at h; exact congrArg (fun x=>[x]) h
  | false=>rfl
 | fn g cap=>exact congrArg (fun x=>[x]) h
 | _=>rfl
theorem Ch.sub_ok [Rd] (hu : u.oneCell' = true) {c : Ch} (h : c.Ok m) : (c.sub b u).Ok m:=by
 cases c with
 | ptr b' o=>
  simp only [Ch.sub]
  cases hb : Nat.beq b' b with
  | true=>exact ar8 u o
  | false=>exact h
 | win b' o m' k=>
  simp only [Ch.sub]
  cases hb : Nat.beq b' b with
  | true=>exact co7 u o m' k
  | false=>exact h
 | fn g cap=>
  intro b2 hb2
  obtain ⟨x,hx,he⟩:=List.mem_map.1 hb2
  cases x with
  | inr x=>cases he
  | inl b'=>
   simp only [b68] at he
   cases hb : Nat.beq b' b with
   | true=>rw [hb] at he; cases he
   | false=>
    rw [hb] at he
    simp only [cond_false,Sum.inl.injEq] at he
    subst he
    exact h _ hx
 | _=>exact h
theorem as1 [Rd] (hu : u = .pointer (some ⟨β b,0,none⟩)) (l : List Ch) : f5 β (l.map (Ch.sub b u)) = f5 β l:=by
 induction l with
 | nil=>rfl
 | cons c r ih=>
  simp only [f5,List.map_cons,List.flatMap_cons] at ih ⊢
  rw [Ch.sub_cells hu,ih]
theorem SV.sub_den [Rd] (hu : u = .pointer (some ⟨β b,0,none⟩)) (s : SV) : (s.sub b u).den β = s.den β:=by
 cases s with
 | one c=>exact Ch.sub_den hu c
 | agg l=>simp only [SV.sub,SV.den]; rw [as1 hu]
 | tup l=>
  simp only [SV.sub,SV.den,List.map_map]
  congr 2
  refine List.map_congr_left fun p _=>?_
  obtain ⟨g,l⟩:=p
  simp only [Function.comp]
  cases g with
  | true=>simp only [ao0]; rw [as1 hu]
  | false=>
   cases l with
   | nil=>rfl
   | cons c r=>exact Ch.sub_den hu c
 | und=>rfl
theorem SV.sub_ok [Rd] (hu : u.oneCell' = true) {s : SV} (h : s.Ok m) : (s.sub b u).Ok m:=by
 cases s with
 | one c=>exact Ch.sub_ok (c:=c) hu h
 | agg l=>
  intro c hc
  obtain ⟨d,hd,rfl⟩:=List.mem_map.1 hc
  exact Ch.sub_ok hu (h d hd)
 | tup l=>
  intro p hp c hc
  obtain ⟨q,hq,rfl⟩:=List.mem_map.1 hp
  obtain ⟨d,hd,rfl⟩:=List.mem_map.1 hc
  exact Ch.sub_ok hu (h q hq d hd)
 | und=>trivial
theorem cb5 [Rd] : ∀ {fr : List (Nat × SV)} {d : Nat} {s : SV},H4 (cj5 b u fr) d = some s → ∃ s0,H4 fr d = some s0 ∧ s = s0.sub b u:=by
 intro fr
 induction fr with
 | nil=>intro d s h; cases h
 | cons p r ih=>
  obtain ⟨i,x⟩:=p
  intro d s h
  simp only [cj5] at h
  rw [F8] at h ⊢
  split
  ·rename_i e
   rw [if_pos e] at h
   simp only [Option.some.injEq] at h
   exact ⟨x,rfl,h.symm⟩
  rename_i e
  rw [if_neg e] at h
  exact ih h
end
theorem bo2 {m : Nat} : ∀ {l : List (Nat × SV)},(l.foldr (fun p q=>p.2.Ok m ∧ q) True) → ∀ p ∈ l,p.2.Ok m:=by
 intro l
 induction l with
 | nil=>intro _ p hp; cases hp
 | cons a r ih=>
  intro h p hp
  rcases List.mem_cons.1 hp with rfl | hp
  ·exact h.1
  exact ih h.2 p hp
theorem a91 {m : Nat} : ∀ {l : List (Nat × HE)},(l.foldr (fun p q=>p.2.Ok m ∧ q) True) → ∀ p ∈ l,p.2.Ok m:=by
 intro l
 induction l with
 | nil=>intro _ p hp; cases hp
 | cons a r ih=>
  intro h p hp
  rcases List.mem_cons.1 hp with rfl | hp
  ·exact h.1
  exact ih h.2 p hp
theorem aj6 {m : Nat} {T : TypeId} {l : List Ch} (h : l.foldr (fun c p=>c.Ok m ∧ p) True) : (HE.blk T l).Ok m:=F0 h
theorem Ch.Ok.up {c : Ch} {m : Nat} (h : c.Ok 0) : c.Ok m:=h.le (Nat.zero_le _)
def cz6 : Ch → Bool
 | .ptr _ _=>false
 | .win _ _ _ _=>false
 | .fn _ _=>false
 | _=>true
theorem cx6 {m : Nat} {c : Ch} (h : cz6 c = true) (k : c.Ok m) : c.Ok 0:=by
 cases c <;> first | exact k | cases h
abbrev co5 (u : Value) (T : TypeId) (cs : List Value) : Gh:=
 ⟨fun S w=>∃ b,u = .pointer (some ⟨b,0,none⟩) ∧ S b ∧ Blk w b T cs,fun ⟨b,h1,h2,h3⟩ k=>⟨b,h1,h2,h3.keep k h2⟩,fun ⟨b,h1,h2,h3⟩ k=>⟨b,h1,k b h3.lt h2,h3⟩⟩
section
variable {c : Cx} {o : Out} {G : Gh}
theorem dc3 [Rd] (b : Nat) (T : TypeId) (l : List Ch) (hb : nth o.st.hp b = some (.blk T l)) (hl : l.all cz6 = true) (hc : c.Ok) (hn : ∀ u,Run c (du3 b u o) ((co5 u T (f5 (fun _=>0) l)).and G)) : Run c o G:=by
 refine ⟨fun β ρ w hS hw hG=>?_⟩
 rw [M1] at hb
 have hbl:=(List.getElem?_eq_some_iff.1 hb).1
 obtain ⟨u,hu⟩ : ∃ u : Value,u = .pointer (some ⟨β b,0,none⟩):=⟨_,rfl⟩
 have hu1 : u.oneCell' = true:=by subst hu; rfl
 have hlen : (aq9 b u (Y4 o.st.hp b .gone)).length = o.st.hp.length:=by rw [b21,N5]; simp
 have hget : ∀ i x,(aq9 b u (Y4 o.st.hp b .gone))[i]? = some x → (i = b ∧ x = .gone) ∨ (i ≠ b ∧ ∃ y,o.st.hp[i]? = some y ∧ x = y.sub b u):=by
  intro i x hx
  rw [b21,N5,List.getElem?_map] at hx
  by_cases e : b = i
  ·subst e
   rw [List.getElem?_set_self hbl] at hx
   simp only [Option.map_some,Option.some.injEq] at hx
   exact .inl ⟨rfl,hx.symm⟩
  rw [List.getElem?_set_ne e] at hx
  cases hy : o.st.hp[i]? with
  | none=>rw [hy] at hx; cases hx
  | some y=>
   rw [hy] at hx
   simp only [Option.map_some,Option.some.injEq] at hx
   exact .inr ⟨fun e'=>e e'.symm,y,rfl,hx.symm⟩
 have hmine : ∀ i k,m7 β (aq9 b u (Y4 o.st.hp b .gone)) i k → b ≠ i ∧ m7 β o.st.hp i k:=by
  rintro i k ⟨x,hx,hk⟩
  rcases hget i x hx with ⟨_,rfl⟩ | ⟨h1,y,h2,rfl⟩
  ·cases hk
  refine ⟨fun e=>h1 e.symm,y,h2,?_⟩
  cases y <;> exact hk
 have hmb : m7 β o.st.hp b (β b):=⟨_,hb,rfl⟩
 obtain ⟨hB,hok⟩:=hS.mem.blk b T l hb
 have hok0 : ∀ ch ∈ l,ch.Ok 0:=fun ch hch=>cx6 (List.all_eq_true.1 hl ch hch) (hok ch hch)
 have h1 : Sat c.bs (du3 b u o).st β ρ w:=by
  refine ⟨fun d s hs=>?_,⟨?_,?_,?_,?_,?_⟩,by show _ ≤ (aq9 b u (Y4 o.st.hp b .gone)).length; rw [hlen]; exact hS.agr.1,hS.agr.2⟩
  ·obtain ⟨s0,h2,rfl⟩:=cb5 hs
   obtain ⟨h3,h4⟩:=hS.fr d s0 h2
   refine ⟨h3.trans (SV.sub_den hu s0).symm,?_⟩
   show (s0.sub b u).Ok (aq9 b u (Y4 o.st.hp b .gone)).length
   rw [hlen]
   exact SV.sub_ok hu1 h4
  ·intro i T' l' hi
   rcases hget i _ hi with ⟨_,e⟩ | ⟨_,y,h2,e⟩
   ·cases e
   cases y with
   | blk T2 l2=>
    simp only [HE.sub,HE.blk.injEq] at e
    obtain ⟨rfl,rfl⟩:=e
    obtain ⟨h3,h4⟩:=hS.mem.blk i T' l2 h2
    refine ⟨by rw [as1 hu]; exact h3,fun ch hch=>?_⟩
    obtain ⟨d,hd,rfl⟩:=List.mem_map.1 hch
    show (d.sub b u).Ok (aq9 b u (Y4 o.st.hp b .gone)).length
    rw [hlen]
    exact Ch.sub_ok hu1 (h4 d hd)
   | row _ _ _ _ _=>cases e
   | gone=>cases e
   | abs _=>cases e
   | hid _ _=>cases e
  ·intro i T' s' v' n' cs' hi
   rcases hget i _ hi with ⟨_,e⟩ | ⟨_,y,h2,e⟩
   ·cases e
   cases y with
   | blk T2 l2=>cases e
   | row _ _ _ _ _=>
    simp only [HE.sub] at e
    cases e
    exact hS.mem.row i _ _ _ _ _ h2
   | gone=>cases e
   | abs _=>cases e
   | hid _ _=>cases e
  ·intro i A hi
   rcases hget i _ hi with ⟨_,e⟩ | ⟨_,y,h2,e⟩
   ·cases e
   cases y with
   | blk T2 l2=>cases e
   | row _ _ _ _ _=>cases e
   | gone=>cases e
   | abs _=>
    simp only [HE.sub] at e
    cases e
    exact hS.mem.abs i _ h2
   | hid _ _=>cases e
  ·intro i k hk; exact hS.mem.low i k (hmine i k hk).2
  intro i j k hi hj; exact hS.mem.apart i j k (hmine i k hi).2 (hmine j k hj).2
 refine (hn u).run β ρ w h1 hw ⟨?_,G.mono hG fun k _ hk=>⟨hk.1,fun i hi=>hk.2 i (hmine i k hi).2⟩⟩
 refine ⟨β b,hu,⟨hS.up0 hc b _ hmb,fun i hi=>?_⟩,?_⟩
 ·obtain ⟨e1,e2⟩:=hmine i _ hi
  exact e1 (hS.mem.apart b i _ hmb e2)
 rw [I2 (m:=0) (β:=fun _=>0) (β':=β) (fun i hi=>absurd hi (Nat.not_lt_zero i)) hok0]
 exact hB
theorem L4 [Rd] (b : Nat) (T : TypeId) (l : List Ch) (hn : ∀ u,Run c (du3 b u o) ((co5 u T (f5 (fun _=>0) l)).and G)) (hb : nth o.st.hp b = some (.blk T l):=by kernel_rfl) (hl : l.all cz6 = true:=by kernel_rfl) (hc : c.Ok:=by exact ⟨d6,by assumption,j6⟩) : Run c o G:=
 dc3 b T l hb hl hc hn
def bk8 (o : Out) (s : SV) (b : Nat) (T : TypeId) (l : List Ch) : Out:=match F4 o s with | ⟨cur,k,⟨fr,hp⟩,_⟩=>⟨cur,k,⟨fr,Y4 hp b (.blk T l)⟩,[]⟩
theorem df5 [Rd] {α : Type} (f : FuncId) [ci : CallI c.P f] (b : Nat) (T : TypeId) (l : List Ch) (hc : c.Ok) (hb : nth o.st.hp b = some (.blk T l)) (pat : α → SV) (l' : α → List Ch) (pre : α → Prop) (Δ : α → Gh) (hf : G4 f o = true)
  (h : ∀ β S w,Up S w → (∀ k,S k → c.S0 k) → Keeps c.K c.w0 w → G.p S w → Blk w (β b) T (f5 β l) → ¬ S (β b) → ∃ args,(A5 o).map (SV.den β) = args ∧ Gives c.P f args w fun v w'=>Wrt (β b) w w' ∧ ∃ a,v = (pat a).den β ∧ (pat a).Ok o.st.hp.length ∧ pre a ∧ Blk w' (β b) T (f5 β (l' a)) ∧ (∀ ch ∈ l' a,ch.Ok o.st.hp.length) ∧ (Δ a).p S w')
  (hn : ∀ a,pre a → Run c (bk8 o (pat a) b T (l' a)) ((Δ a).and G)) : Run c o G:=by
 refine ⟨fun β ρ w hS hw hG=>?_⟩
 rw [M1] at hb
 have hmb : m7 β o.st.hp b (β b):=⟨_,hb,rfl⟩
 obtain ⟨all,o1,r,d,hcur,hg,hd,hnx,hr⟩:=a98 hf hS
 obtain ⟨args,ha,hgv⟩:=h β _ w (Sof.up (hc.up.to hw) hS.mem) (fun k hk=>hk.1) hw hG (hS.mem.blk b T l hb).1 (fun hs=>hs.2 b hmb)
 rw [hcur]
 show WqR c.P c.n all (kQ c.P c.n c.Q o.k) (o1 :: r) ρ w
 refine ao1 hg ?_
 unfold Stp
 rw [hr,ha]
 refine hgv.mono ?_
 rintro v w' ⟨hk,a,rfl,hok,hp,hB,hlok,hΔ⟩
 have h1:=hn a hp
 unfold bk8 at h1
 rw [hnx] at h1
 simp only [N5] at h1
 have h2 : Sat c.bs ⟨(d,pat a) :: o.st.fr,o.st.hp.set b (.blk T (l' a))⟩ β (upd ρ d ((pat a).den β)) w':=by
  have h3:=hS.wr hb hlok hk hB
  have h4:=h3.put (d:=d) (s:=pat a) rfl (by simpa using hok)
  exact h4
 have hSof : ∀ k,Sof c.S0 β o.st.hp k → Sof c.S0 β (o.st.hp.set b (.blk T (l' a))) k:=fun k hk=>⟨hk.1,fun i hi=>by rw [ai3 hb] at hi; exact hk.2 i hi⟩
 have hkS : Keeps (Sof c.S0 β o.st.hp) w w':=hk.mono fun k hk' e=>hk'.2 b (e ▸ hmb)
 have h5:=h1.run β _ w' h2 (hS.mem.grow hw hk b fun i hi=>(Classical.byContradiction hi : i = β b) ▸ hmb) ⟨(Δ a).mono hΔ fun k _ hk'=>hSof k hk',G.mono (G.keep hG hkS) fun k _ hk'=>hSof k hk'⟩
 rw [hd]
 exact h5
end
section
variable {c : Cx} {o : Out} {G : Gh}
def c06 (o : Out) : Option FuncId:=(ae7 o.st o.cur).map fun x=>x.1
theorem di2 {o : Out} {f : FuncId} (h : c06 o = some f) : G4 f o = true:=by
 unfold c06 at h
 unfold G4
 cases hx : ae7 o.st o.cur with
 | none=>rw [hx] at h; cases h
 | some x=>
  obtain ⟨g,l,d⟩:=x
  rw [hx] at h
  simp only [Option.map_some,Option.some.injEq] at h
  subst h
  simp
abbrev Pan (P : Program) (f : FuncId) (args : List Value) (w : World) (X : List PanicEntry) : Prop:=GivesE P f args w (fun _ _=>False) fun ch w'=>ch = X ∧ Ext w w'
theorem K5 {P : Program} {f : FuncId} {args : List Value} {w0 w : World} {X : List PanicEntry} (h : Pan P f args w X) (hw : Ext w0 w) : GivesE P f args w (fun _ _=>False) fun ch w'=>∀ _ : Fr,ch = X ∧ Ext w0 w':=
 h.mono (fun _ _ h=>h) fun _ _ hp _=>⟨hp.1,hw.trans hp.2⟩
theorem s_X [Rd] {f : FuncId} [ci : CallI c.P f] (hc : c.Ok) (hv : (ex c o).vc = []) (hf : G4 f (ex c o) = true)
  (h : ∀ β S w,Up S w → (∀ k,S k → c.S0 k) → Keeps c.K c.w0 w → G.p S w → ∃ args,(A5 (ex c o)).map (SV.den β) = args ∧ GivesE c.P f args w (fun _ _=>False) fun ch w'=>∀ ρ,c.Q (.panic ch) ρ w') : Run c o G:=
 L7 hc hv (dh7 (α:=Unit) f hc (fun _=>.und) (fun _=>False) (fun _=>.nil) hf (fun β S w h1 h2 h3 h4=>let ⟨args,ha,hg⟩:=h β S w h1 h2 h3 h4; ⟨args,ha,hg.mono (fun _ _ hf=>hf.elim) fun _ _ hp=>hp⟩) fun _ hf=>hf.elim)
theorem a67 [Rd] {f : FuncId} [ci : CallI c.P f] (h : ∀ β S w,Up S w → (∀ k,S k → c.S0 k) → Keeps c.K c.w0 w → G.p S w → ∃ args,(A5 (ex c o)).map (SV.den β) = args ∧ GivesE c.P f args w (fun _ _=>False) fun ch w'=>∀ ρ,c.Q (.panic ch) ρ w') (hc : c.Ok:=by exact ⟨d6,by assumption,j6⟩) (hv : (ex c o).vc = []:=by kernel_rfl) (hf : G4 f (ex c o) = true:=by kernel_rfl) : Run c o G:=
 s_X hc hv hf h
def cj2 (st : St) : Cur → Option Value
 | .ops _ (o1 :: _)=>match o1.guard,o1.dst,o1.op with
  | none,none,.panic x=>match opd st.fr x with
   | some (.one (.val (.iface t v)))=>some (.iface t v)
   | _=>none
  | _,_,_=>none
 | _=>none
theorem de8 [Rd] (x : Value) (hc : c.Ok) (hv : (ex c o).vc = []) (hp : cj2 (ex c o).st (ex c o).cur = some x)
  (h : ∀ S w,(∀ k,S k → c.S0 k) → Keeps c.K c.w0 w → G.p S w → ∀ ρ,c.Q (.panic [{ v:=x,recovered:=false }]) ρ w) : Run c o G:=by
 refine L7 hc hv ⟨fun β ρ w hS hw hG=>?_⟩
 generalize ex c o = o' at *
 unfold cj2 at hp
 split at hp <;> first | (cases hp; done) | skip
 rename_i all o1 r hcur
 split at hp <;> first | (cases hp; done) | skip
 rename_i y e1 e2 e3
 split at hp <;> first | (cases hp; done) | skip
 rename_i t v hx
 simp only [Option.some.injEq] at hp
 subst hp
 rw [hcur]
 obtain ⟨dst,op,ty,pos,aft,g⟩:=o1
 simp only at e1 e2 e3
 subst e1
 subst e2
 subst e3
 exact cs7 ((ab1 fun t _=>hS.fr t) _ hx).1 (ax1 (h _ w (fun k hk=>hk.1) hw hG ρ))
end
noncomputable def as4 (a b c : Value) : Value:=(SV.agg [.ag 3 a,.ag 3 b,.ag 3 c]).den fun _=>0
noncomputable def bc1 (a b c : Value) : Value:=(SV.agg [.ag 4 a,.ag 4 b,.ag 4 c]).den fun _=>0
def TripV (S : Nat → Prop) (w : World) (v : Value) (t : T3) : Prop:=∃ a b c,v = as4 a b c ∧ RatV S w a t.x ∧ RatV S w b t.y ∧ RatV S w c t.z
def QTripV (S : Nat → Prop) (w : World) (v : Value) (t : T3) : Prop:=∃ a b c,v = bc1 a b c ∧ QV S w a t.x ∧ QV S w b t.y ∧ QV S w c t.z
section
variable {S S' : Nat → Prop} {w w' : World} {v : Value} {t : T3}
theorem TripV.keep (h : TripV S w v t) (k : Keeps S w w') : TripV S w' v t:=let ⟨a,b,c,h1,h2,h3,h4⟩:=h; ⟨a,b,c,h1,h2.keep k,h3.keep k,h4.keep k⟩
theorem TripV.mono (h : TripV S w v t) (hs : ∀ k,k < w.heap.size → S k → S' k) : TripV S' w v t:=let ⟨a,b,c,h1,h2,h3,h4⟩:=h; ⟨a,b,c,h1,h2.mono hs,h3.mono hs,h4.mono hs⟩
theorem QTripV.keep (h : QTripV S w v t) (k : Keeps S w w') : QTripV S w' v t:=let ⟨a,b,c,h1,h2,h3,h4⟩:=h; ⟨a,b,c,h1,h2.keep k,h3.keep k,h4.keep k⟩
theorem QTripV.mono (h : QTripV S w v t) (hs : ∀ k,k < w.heap.size → S k → S' k) : QTripV S' w v t:=let ⟨a,b,c,h1,h2,h3,h4⟩:=h; ⟨a,b,c,h1,h2.mono hs,h3.mono hs,h4.mono hs⟩
theorem be4 {l : List Ch} {n : Nat} (h : ∀ c ∈ l,c.Ok 0) (hn : W6 l = n) : (SV.one (.ag n ((SV.agg l).den fun _=>0))).Ok 0:=
 ⟨f5 (fun _=>0) l,rfl,by rw [O1 h,hn],X0 h⟩
theorem TripV.ok (h : TripV S w v t) : (SV.one (.ag 9 v)).Ok 0:=by
 obtain ⟨a,b,c,rfl,h2,h3,h4⟩:=h
 exact be4 (l:=[.ag 3 a,.ag 3 b,.ag 3 c]) (F0 (m:=0) ⟨h2.ok,h3.ok,h4.ok,trivial⟩) rfl
theorem QTripV.ok (h : QTripV S w v t) : (SV.one (.ag 12 v)).Ok 0:=by
 obtain ⟨a,b,c,rfl,h2,h3,h4⟩:=h
 exact be4 (l:=[.ag 4 a,.ag 4 b,.ag 4 c]) (F0 (m:=0) ⟨h2.ok,h3.ok,h4.ok,trivial⟩) rfl
end
abbrev q7 (v : Value) (t : T3) : Gh:=⟨fun S w=>TripV S w v t,fun h k=>h.keep k,fun h k=>h.mono k⟩
abbrev o6 (v : Value) (t : T3) : Gh:=⟨fun S w=>QTripV S w v t,fun h k=>h.keep k,fun h k=>h.mono k⟩
theorem aq6 {P : Program} {f : FuncId} {args : List Value} {S : Nat → Prop} {w : World} {q : Rat} (hf : R1 q) (h : Gives P f args w fun v w'=>Ext w w' ∧ be9 S w' v q) : Gives P f args w fun v w'=>Ext w w' ∧ (aa5 v q 0).p S w':=dz0 (.inl ⟨hf,rfl,rfl⟩) h
theorem Y0 {S : Nat → Prop} {w : World} {r : Value} {q : Rat} (hS : Up S w) (h : RatV S w r q) : Gives prog 61 [r,.int .i64 0] w fun v' w'=>Ext w w' ∧ RatV S w' v' q:=by
 refine n7 (E:=env) (S0:=S) (G:=(j8 r (q))) (l:=[.one (.ag 3 r),.one (.lit .i64 0)]) func61 rfl rfl rfl ⟨h.ok,trivial,trivial⟩ rfl h ?_
 exact n8 (r) rfl (fun S w hs hw hG=>⟨hw,hG.mono fun k _ hk=>hs k hk⟩)
theorem A1 {S : Nat → Prop} {w : World} {va vb : Value} {a b : Rat} {m n : Nat} (hS : Up S w) (ha : RatV S w va a) (hb : RatV S w vb b) (hla : rl a m) (hlb : rl b n) (hmn : m + n ≤ 3344) :
  Gives prog 62 [va,vb] w fun v' w'=>Ext w w' ∧ RatV S w' v' (a * b):=by
 have hf : R1 (a * b):=Q7 (r7 hla hlb) hmn
 refine n7 (E:=env) (S0:=S) (G:=((j8 va (a)).and (j8 vb (b)))) (l:=[.one (.ag 3 va),.one (.ag 3 vb)]) func62 rfl rfl rfl ⟨ha.ok,hb.ok,trivial⟩ rfl ⟨ha,hb⟩ ?_
 refine S4 (fun x0=>pr (.ag 3 (J8 x0)) (.lit .i64 0)) (fun x0=>aa5 x0 ((a * b)) 0) (fun _ _ _ h=>S8 h) (fun β S w hS hs hw hG=>(kx (aq6 hf (dr7 hS hG.1 hG.2 (j7 hla) (j7 hlb))))) ?_
 intro r
 refine G3 (fun x0=>.one (.ag 3 x0)) (fun x0=>j8 x0 ((a * b))) (fun β S w hS hs hw hG=>(kx (Y0 hS hG.1.2))) ?_
 intro x
 exact n8 (x) rfl (fun S w hs hw hG=>⟨hw,hG.1.mono fun k _ hk=>hs k hk⟩)
theorem RatV.okc {S : Nat → Prop} {w : World} {v : Value} {q : Rat} {m : Nat} (h : RatV S w v q) : (Ch.ag 3 v).Ok m:=h.ok
def at4 (l : List Rat) : Rat:=l.foldl (fun a x=>a + x) 0
theorem a28 {l : List Rat} {j : Nat} (hj : j < l.length) : at4 (l.take (j + 1)) = at4 (l.take j) + l.getD j 0:=by
 unfold at4
 rw [List.take_add_one,List.foldl_append,List.getElem?_eq_getElem hj]
 simp [List.getD_eq_getElem?_getD,List.getElem?_eq_getElem hj]
theorem ck5 {l : List Rat} {m : Nat} (h : ∀ x ∈ l,rl x m) : ∀ j,j ≤ l.length → rl (at4 (l.take j)) (j * (m + 1) + 1):=by
 intro j
 induction j with
 | zero=>
  intro _
  show rl (0 : Rat) _
  exact ⟨Nat.le_trans (K8 (k:=0) (show 0 < 1000000000 ^ 0 by decide)) (Nat.zero_le _),Nat.le_trans (K8 (k:=1) (show 1 < 1000000000 ^ 1 by decide)) (by omega)⟩
 | succ j ih=>
  intro hj
  rw [a28 (by omega)]
  have h1 : l.getD j 0 ∈ l:=by
   rw [List.getD_eq_getElem?_getD,List.getElem?_eq_getElem (by omega)]
   exact List.getElem_mem _
  exact H9 (ab8 (ih (by omega)) (h _ h1)) (by rw [Nat.add_mul]; omega)
theorem RatV.lies {S : Nat → Prop} {w : World} {v : Value} {q : Rat} (h : RatV S w v q) : K4 true 3 v:=by
 obtain ⟨m,b,rfl,_⟩:=h
 exact ak0 [_,_,_]
abbrev U8 (x : Value) (q : Rat) : Gh:=j8 x q
abbrev H5 (v : Value) (l : List Rat) : Gh:=bt5 true 3 U8 v l
theorem dm4 {S : Nat → Prop} {w : World} {v : Value} {l : List Rat} {m : Nat} (hS : Up S w) (h : SeqV true 3 U8 S w v l) (hl : ∀ x ∈ l,rl x m) (hn : l.length * (m + 1) + 1 ≤ 3344) :
  Gives prog 109 [v] w fun v' w'=>Ext w w' ∧ RatV S w' v' (at4 l):=by
 have hmx:=h.len_le
 unfold maxLen at hmx
 refine n7 (E:=env) (S0:=S) (G:=(H5 v l)) (l:=[.one (.sl v l.length)]) func109 rfl rfl rfl ⟨h.sl,trivial⟩ rfl h ?_
 refine Q6 (ι:=Nat × Value) [(5,5),(8,18)] (fun i=>[(8,.one (.int .i64 (i.1 : Int)))]) (fun i=>[(1,.blk 41 [.ag 3 i.2])]) (fun i=>((j8 i.2 (at4 (l.take i.1))).and (H5 v l))) (fun i=>i.1 ≤ l.length) (fun i=>l.length - i.1) ((0,.agg #[.bool false,.slice none 0 0,.slice none 0 0])) (Nat.zero_le _) (fun S w hw hG=>⟨bo2 ⟨trivial,trivial⟩,a91 ⟨aj6 ⟨(I9 (S:=S) (w:=w)).okc,trivial⟩,trivial⟩⟩) (fun S w hw hG=>⟨I9,hG⟩) (fun hso i hi=>?_)
 refine W0 (p:=(i.1 : Int) < (l.length : Int)) (fun hlt=>?_) (fun hlt=>?_)
 ·have hlt' : i.1 < l.length:=by omega
  have hx0 : l[i.1]? = some (l.getD i.1 0):=by rw [List.getD_eq_getElem?_getD,List.getElem?_eq_getElem hlt']; rfl
  have hb:=ck5 hl (i.1 + 1) hlt'
  have hle : (i.1 + 1) * (m + 1) ≤ l.length * (m + 1):=Nat.mul_le_mul_right _ hlt'
  refine o5 (at0 v l.length (i.1 : Int) 41 3 (fun u0=>atG true 3 (fun x0=>j8 x0 ((l.getD i.1 0))) u0) (by kernel_rfl) ⟨d6,hS,j6⟩ (fun β S w hM hw hG=>hG.2.el rfl rfl hx0) ?_)
  intro u_1
  refine o5 (a25 u_1 41 3 true (fun x0=>.one (.ag 3 x0)) (fun x0=>j8 x0 ((l.getD i.1 0))) (by kernel_rfl) ⟨d6,hS,j6⟩ (fun S w hw hG=>hG.1) (fun _ _ _ h=>⟨h.ok,rfl⟩) ?_)
  intro x
  rw [a28 hlt'] at hb
  have hle2 : i.1 * (m + 1) ≤ l.length * (m + 1):=Nat.mul_le_mul_right _ (by omega)
  have hle3 : m + 1 ≤ l.length * (m + 1):=Nat.le_mul_of_pos_left _ (by omega)
  refine S4 (fun x0=>pr (.ag 3 (J8 x0)) (.lit .i64 0)) (fun x0=>aa5 x0 ((at4 (l.take i.1) + l.getD i.1 0)) 0) (fun _ _ _ h=>S8 h) (fun β S w hS hs hw hG=>(kx (aq6 (Q7 hb (by omega)) (dv1 hS hG.2.2.1 hG.1 (j7 (ck5 hl i.1 (by omega))) (j7 (hl _ (List.mem_of_getElem? hx0))))))) ?_
  intro r
  refine G3 (fun x0=>.one (.ag 3 x0)) (fun x0=>j8 x0 ((at4 (l.take i.1) + l.getD i.1 0))) (fun β S w hS hs hw hG=>(kx (Y0 hS hG.1.2))) ?_
  intro r2
  refine aj3 (ps:=[InR .i64 ((i.1 : Int) + 1)]) (by simp only [L5,InR,and_true]; omega) ?_
  exact O5 ((i.1 + 1,r2)) ⟨d6,hS,j6⟩ hso (by kernel_rfl) (by kernel_rfl) (fun β=>(by kernel_rfl)) (fun β=>(by kernel_rfl)) (by kernel_rfl) (by omega) (by simp only; omega) (fun S w hw hG=>⟨bo2 ⟨trivial,trivial⟩,a91 ⟨aj6 ⟨hG.1.okc,trivial⟩,trivial⟩⟩) (fun S w hw hG=>⟨(by show RatV S w r2 _; rw [a28 hlt']; exact hG.1),hG.2.2.2.2.2⟩)
 refine S9 ?_
 exact n8 (i.2) rfl (fun S w hs hw hG=>have ho:=hG.1; ⟨hw,by have e : l.take i.1 = l:=List.take_of_length_le (by omega); rw [e] at ho; exact ho.mono fun k _ hk=>hs k hk⟩)
theorem X7 {S : Nat → Prop} {w : World} {v : Value} {l : List Rat} {m : Nat} {q : Rat} (e : at4 l = q) (hS : Up S w) (h : SeqV true 3 U8 S w v l) (hl : ∀ x ∈ l,rl x m) (hn : l.length * (m + 1) + 1 ≤ 3344) :
  Gives prog 109 [v] w fun v' w'=>Ext w w' ∧ RatV S w' v' q:=e ▸ dm4 hS h hl hn
theorem c26 (a b : Rat) : at4 [a,b] = a + b:=by unfold at4; simp only [List.foldl]; grind
theorem U5 (a b : Rat) : at4 [a,-b] = a - b:=by unfold at4; simp only [List.foldl]; grind
theorem dw8 (a b c : Rat) : at4 [a,b,c] = a + b + c:=by unfold at4; simp only [List.foldl]; grind
section
variable {S : Nat → Prop} {w : World} {v a b c : Value} {x y z : Rat}
theorem a64 (h0 : RatV S w a x) (h1 : RatV S w b y) (hrow : Row S 41 3 w v 2 (a.cells.toList ++ (b.cells.toList ++ []))) : SeqV true 3 U8 S w v [x,y]:=
 ⟨_,[a,b],rfl,fun u hu=>by rcases List.mem_cons.1 hu with rfl | hu; exact h0.lies; rw [List.mem_singleton.1 hu]; exact h1.lies,hrow,fun i p u hp hu=>by
  match i with
  | 0=>simp at hp hu; subst hp; subst hu; exact h0
  | 1=>simp at hp hu; subst hp; subst hu; exact h1
  | i + 2=>simp at hp⟩
theorem d68 (h0 : RatV S w a x) (h1 : RatV S w b y) (h2 : RatV S w c z) (hrow : Row S 41 3 w v 3 (a.cells.toList ++ (b.cells.toList ++ (c.cells.toList ++ [])))) : SeqV true 3 U8 S w v [x,y,z]:=
 ⟨_,[a,b,c],rfl,fun u hu=>by
  rcases List.mem_cons.1 hu with rfl | hu
  ·exact h0.lies
  ·rcases List.mem_cons.1 hu with rfl | hu
   ·exact h1.lies
   rw [List.mem_singleton.1 hu]; exact h2.lies,hrow,fun i p u hp hu=>by
  match i with
  | 0=>simp at hp hu; subst hp; subst hu; exact h0
  | 1=>simp at hp hu; subst hp; subst hu; exact h1
  | 2=>simp at hp hu; subst hp; subst hu; exact h2
  | i + 3=>simp at hp⟩
theorem a35 {p : Rat → Prop} (h0 : p x) (h1 : p y) : ∀ u ∈ [x,y],p u:=fun u hu=>by
 rcases List.mem_cons.1 hu with rfl | hu
 ·exact h0
 rw [List.mem_singleton.1 hu]; exact h1
theorem d32 {p : Rat → Prop} (h0 : p x) (h1 : p y) (h2 : p z) : ∀ u ∈ [x,y,z],p u:=fun u hu=>by
 rcases List.mem_cons.1 hu with rfl | hu
 ·exact h0
 exact a35 h1 h2 u hu
end
theorem cn7 {q : Rat} : (q.num.sign = 0) = (q = 0):=by
 refine propext ⟨fun h=>?_,fun h=>by subst h; rfl⟩
 exact Rat.num_eq_zero.1 (Int.sign_eq_zero_iff_zero.1 h)
theorem D6 {S : Nat → Prop} {w : World} {v : Value} {q : Rat} (hS : Up S w) (h : RatV S w v q) : Gives prog 53 [v] w fun v' w'=>v' = .bool (tst (q = 0)) ∧ Ext w w':=by
 refine n7 (E:=env) (S0:=S) (G:=(j8 v (q))) (l:=[.one (.ag 3 v)]) func53 rfl rfl rfl ⟨h.ok,trivial⟩ rfl h ?_
 refine A3 (.one (.int .i64 q.num.sign)) rfl (fun β S w hS hs hw hG=>(kx (av5 hG))) ?_
 exact n8 (.bool (tst (q.num.sign = 0))) rfl (fun S w hs hw hG=>⟨by rw [cn7],hw⟩)
theorem a12 {S : Nat → Prop} {w : World} {vp vq : Value} {p q : T3} {m n : Nat} (hS : Up S w) (hp : TripV S w vp p) (hq : TripV S w vq q) (hm : tl p m) (hn : tl q n) (hmn : 3 * (m + n + 1) + 1 ≤ 3344) :
  Gives prog 54 [vp,vq] w fun v' w'=>Ext w w' ∧ RatV S w' v' (p.dot q):=by
 obtain ⟨a1,b1,c1,rfl,ha1,hb1,hc1⟩:=hp
 obtain ⟨a2,b2,c2,rfl,ha2,hb2,hc2⟩:=hq
 refine n7 (E:=env) (S0:=S) (G:=((j8 a1 p.x).and ((j8 b1 p.y).and ((j8 c1 p.z).and ((j8 a2 q.x).and ((j8 b2 q.y).and (j8 c2 q.z))))))) (l:=[.agg [.ag 3 a1,.ag 3 b1,.ag 3 c1],.agg [.ag 3 a2,.ag 3 b2,.ag 3 c2]]) func54 rfl rfl rfl ⟨F0 ⟨ha1.okc,hb1.okc,hc1.okc,trivial⟩,F0 ⟨ha2.okc,hb2.okc,hc2.okc,trivial⟩,trivial⟩ rfl ⟨ha1,hb1,hc1,ha2,hb2,hc2⟩ ?_
 refine n9 17 ?_
 refine d7 4 ?_
 refine q6 (fun x0=>.one (.ag 3 x0)) (fun x0=>j8 x0 ((p.x * q.x))) (fun β η S w hS hs hw hG hd=>(kx (A1 hS hG.1 hG.2.2.2.1 hm.1 hn.1 (by omega)))) ?_
 refine d7 4 ?_
 refine q6 (fun x0=>.one (.ag 3 x0)) (fun x0=>j8 x0 ((p.y * q.y))) (fun β η S w hS hs hw hG hd=>(kx (A1 hS hG.2.1 hG.2.2.2.2.1 hm.2.1 hn.2.1 (by omega)))) ?_
 refine d7 4 ?_
 refine q6 (fun x0=>.one (.ag 3 x0)) (fun x0=>j8 x0 ((p.z * q.z))) (fun β η S w hS hs hw hG hd=>(kx (A1 hS hG.2.2.1 hG.2.2.2.2.2 hm.2.2 hn.2.2 (by omega)))) ?_
 refine S6 41 3 3 (fun x0=>H5 x0 [p.x * q.x,p.y * q.y,p.z * q.z]) ⟨d6,hS,j6⟩ (fun η=>(by kernel_rfl)) (fun β η S w x0 w' hS hs hw hG hd hk hrow=>d68 ((p8 hd 4 : (j8 (η 4) ((p.x * q.x))).p S w).to hk) ((p8 hd 9 : (j8 (η 9) ((p.y * q.y))).p S w).to hk) ((p8 hd 14 : (j8 (η 14) ((p.z * q.z))).p S w).to hk) (kc hrow (by kernel_rfl))) ?_
 refine q6 (fun x0=>.one (.ag 3 x0)) (fun x0=>j8 x0 ((p.dot q))) (fun β η S w hS hs hw hG hd=>(kx (X7 (m:=m + n) (dw8 _ _ _) hS (p8 hd 15 : (H5 (η 15) [p.x * q.x,p.y * q.y,p.z * q.z]).p S w) (d32 (r7 hm.1 hn.1) (r7 hm.2.1 hn.2.1) (r7 hm.2.2 hn.2.2)) (by simp only [List.length]; omega)))) ?_
 refine n5 [true,false,false,false,false] (Gh.nil) (by exact fun _ _ h=>trivial) (fun g η=>(j8 (η 16) ((p.dot q))).and g) (fun g η=>(by kernel_rfl)) ?_
 intro η_1
 exact n8 ((η_1 16)) rfl (fun S w hs hw hG=>⟨hw,hG.1.mono fun k _ hk=>hs k hk⟩)
theorem Q4 {S : Nat → Prop} {w : World} {vp vq : Value} {p q : T3} {m n : Nat} (hS : Up S w) (hp : TripV S w vp p) (hq : TripV S w vq q) (hm : tl p m) (hn : tl q n) (hmn : 2 * (m + n + 1) + 1 ≤ 3344) :
  Gives prog 106 [vp,vq] w fun v' w'=>Ext w w' ∧ TripV S w' v' (p.cross q):=by
 obtain ⟨a1,b1,c1,rfl,ha1,hb1,hc1⟩:=hp
 obtain ⟨a2,b2,c2,rfl,ha2,hb2,hc2⟩:=hq
 refine n7 (E:=env) (S0:=S) (G:=((j8 a1 p.x).and ((j8 b1 p.y).and ((j8 c1 p.z).and ((j8 a2 q.x).and ((j8 b2 q.y).and (j8 c2 q.z))))))) (l:=[.agg [.ag 3 a1,.ag 3 b1,.ag 3 c1],.agg [.ag 3 a2,.ag 3 b2,.ag 3 c2]]) func106 rfl rfl rfl ⟨F0 ⟨ha1.okc,hb1.okc,hc1.okc,trivial⟩,F0 ⟨ha2.okc,hb2.okc,hc2.okc,trivial⟩,trivial⟩ rfl ⟨ha1,hb1,hc1,ha2,hb2,hc2⟩ ?_
 refine r4 ?_
 refine n9 18 ?_
 refine d7 7 ?_
 refine q6 (fun x0=>.one (.ag 3 x0)) (fun x0=>j8 x0 ((p.y * q.z))) (fun β η S w hS hs hw hG hd=>(kx (A1 hS hG.2.1 hG.2.2.2.2.2 hm.2.1 hn.2.2 (by omega)))) ?_
 refine d7 6 ?_
 refine q6 (fun x0=>.one (.ag 3 x0)) (fun x0=>j8 x0 ((p.z * q.y))) (fun β η S w hS hs hw hG hd=>(kx (A1 hS hG.2.2.1 hG.2.2.2.2.1 hm.2.2 hn.2.1 (by omega)))) ?_
 refine q6 (fun x0=>.one (.ag 3 x0)) (fun x0=>j8 x0 ((-(p.z * q.y)))) (fun β η S w hS hs hw hG hd=>(kx (ah4 (p8 hd 14 : (j8 (η 14) ((p.z * q.y))).p S w)))) ?_
 refine S6 41 3 2 (fun x0=>H5 x0 [p.y * q.z,-(p.z * q.y)]) ⟨d6,hS,j6⟩ (fun η=>(by kernel_rfl)) (fun β η S w x0 w' hS hs hw hG hd hk hrow=>a64 ((p8 hd 7 : (j8 (η 7) ((p.y * q.z))).p S w).to hk) ((p8 hd 15 : (j8 (η 15) ((-(p.z * q.y)))).p S w).to hk) (kc hrow (by kernel_rfl))) ?_
 refine q6 (fun x0=>.one (.ag 3 x0)) (fun x0=>j8 x0 ((p.y * q.z - p.z * q.y))) (fun β η S w hS hs hw hG hd=>(kx (X7 (m:=m + n) (U5 _ _) hS (p8 hd 16 : (H5 (η 16) [p.y * q.z,-(p.z * q.y)]).p S w) (a35 (r7 hm.2.1 hn.2.2) (ae5 (r7 hm.2.2 hn.2.1))) (by simp only [List.length]; omega)))) ?_
 refine n5 [true,false,false,false,false] ((j8 a1 p.x).and ((j8 b1 p.y).and ((j8 c1 p.z).and ((j8 a2 q.x).and ((j8 b2 q.y).and ((j8 c2 q.z).and (Gh.nil))))))) (by exact fun _ _ h=>⟨h.1,h.2.1,h.2.2.1,h.2.2.2.1,h.2.2.2.2.1,h.2.2.2.2.2,trivial⟩) (fun g η=>(j8 (η 17) ((p.y * q.z - p.z * q.y))).and g) (fun g η=>(by kernel_rfl)) ?_
 intro η_1
 refine n9 18 ?_
 refine d7 7 ?_
 refine q6 (fun x0=>.one (.ag 3 x0)) (fun x0=>j8 x0 ((p.z * q.x))) (fun β η S w hS hs hw hG hd=>(kx (A1 hS hG.2.2.2.1 hG.2.2.2.2.1 hm.2.2 hn.1 (by omega)))) ?_
 refine d7 6 ?_
 refine q6 (fun x0=>.one (.ag 3 x0)) (fun x0=>j8 x0 ((p.x * q.z))) (fun β η S w hS hs hw hG hd=>(kx (A1 hS hG.2.1 hG.2.2.2.2.2.2.1 hm.1 hn.2.2 (by omega)))) ?_
 refine q6 (fun x0=>.one (.ag 3 x0)) (fun x0=>j8 x0 ((-(p.x * q.z)))) (fun β η S w hS hs hw hG hd=>(kx (ah4 (p8 hd 14 : (j8 (η 14) ((p.x * q.z))).p S w)))) ?_
 refine S6 41 3 2 (fun x0=>H5 x0 [p.z * q.x,-(p.x * q.z)]) ⟨d6,hS,j6⟩ (fun η=>(by kernel_rfl)) (fun β η S w x0 w' hS hs hw hG hd hk hrow=>a64 ((p8 hd 7 : (j8 (η 7) ((p.z * q.x))).p S w).to hk) ((p8 hd 15 : (j8 (η 15) ((-(p.x * q.z)))).p S w).to hk) (kc hrow (by kernel_rfl))) ?_
 refine q6 (fun x0=>.one (.ag 3 x0)) (fun x0=>j8 x0 ((p.z * q.x - p.x * q.z))) (fun β η S w hS hs hw hG hd=>(kx (X7 (m:=m + n) (U5 _ _) hS (p8 hd 16 : (H5 (η 16) [p.z * q.x,-(p.x * q.z)]).p S w) (a35 (r7 hm.2.2 hn.1) (ae5 (r7 hm.1 hn.2.2))) (by simp only [List.length]; omega)))) ?_
 refine n5 [true,false,false,false,false] ((j8 (η_1 17) ((p.y * q.z - p.z * q.y))).and ((j8 a1 p.x).and ((j8 b1 p.y).and ((j8 a2 q.x).and ((j8 b2 q.y).and (Gh.nil)))))) (by exact fun _ _ h=>⟨h.1,h.2.1,h.2.2.1,h.2.2.2.2.1,h.2.2.2.2.2.1,trivial⟩) (fun g η=>(j8 (η 17) ((p.z * q.x - p.x * q.z))).and g) (fun g η=>(by kernel_rfl)) ?_
 intro η_2
 refine n9 18 ?_
 refine d7 7 ?_
 refine q6 (fun x0=>.one (.ag 3 x0)) (fun x0=>j8 x0 ((p.x * q.y))) (fun β η S w hS hs hw hG hd=>(kx (A1 hS hG.2.2.1 hG.2.2.2.2.2.1 hm.1 hn.2.1 (by omega)))) ?_
 refine d7 6 ?_
 refine q6 (fun x0=>.one (.ag 3 x0)) (fun x0=>j8 x0 ((p.y * q.x))) (fun β η S w hS hs hw hG hd=>(kx (A1 hS hG.2.2.2.1 hG.2.2.2.2.1 hm.2.1 hn.1 (by omega)))) ?_
 refine q6 (fun x0=>.one (.ag 3 x0)) (fun x0=>j8 x0 ((-(p.y * q.x)))) (fun β η S w hS hs hw hG hd=>(kx (ah4 (p8 hd 14 : (j8 (η 14) ((p.y * q.x))).p S w)))) ?_
 refine S6 41 3 2 (fun x0=>H5 x0 [p.x * q.y,-(p.y * q.x)]) ⟨d6,hS,j6⟩ (fun η=>(by kernel_rfl)) (fun β η S w x0 w' hS hs hw hG hd hk hrow=>a64 ((p8 hd 7 : (j8 (η 7) ((p.x * q.y))).p S w).to hk) ((p8 hd 15 : (j8 (η 15) ((-(p.y * q.x)))).p S w).to hk) (kc hrow (by kernel_rfl))) ?_
 refine q6 (fun x0=>.one (.ag 3 x0)) (fun x0=>j8 x0 ((p.x * q.y - p.y * q.x))) (fun β η S w hS hs hw hG hd=>(kx (X7 (m:=m + n) (U5 _ _) hS (p8 hd 16 : (H5 (η 16) [p.x * q.y,-(p.y * q.x)]).p S w) (a35 (r7 hm.1 hn.2.1) (ae5 (r7 hm.2.1 hn.1))) (by simp only [List.length]; omega)))) ?_
 refine n5 [true,false,false,false,false] ((j8 (η_2 17) ((p.z * q.x - p.x * q.z))).and ((j8 (η_1 17) ((p.y * q.z - p.z * q.y))).and (Gh.nil))) (by exact fun _ _ h=>⟨h.1,h.2.1,trivial⟩) (fun g η=>(j8 (η 17) ((p.x * q.y - p.y * q.x))).and g) (fun g η=>(by kernel_rfl)) ?_
 intro η_3
 exact n8 (as4 (η_1 17) (η_2 17) (η_3 17)) rfl (fun S w hs hw hG=>⟨hw,_,_,_,rfl,hG.2.2.1.mono fun k _ hk=>hs k hk,hG.2.1.mono fun k _ hk=>hs k hk,hG.1.mono fun k _ hk=>hs k hk⟩)
theorem az1 {S : Nat → Prop} {w : World} {v : Value} {p : T3} (hS : Up S w) (h : TripV S w v p) : Gives prog 107 [v] w fun v' w'=>v' = .bool (tst p.None) ∧ Ext w w':=by
 obtain ⟨a,b,c,rfl,ha,hb,hc⟩:=h
 refine n7 (E:=env) (S0:=S) (G:=((j8 a p.x).and ((j8 b p.y).and (j8 c p.z)))) (l:=[.agg [.ag 3 a,.ag 3 b,.ag 3 c]]) func107 rfl rfl rfl ⟨F0 ⟨ha.okc,hb.okc,hc.okc,trivial⟩,trivial⟩ rfl ⟨ha,hb,hc⟩ ?_
 refine A3 (.one (.tp (p.x = 0))) rfl (fun β S w hS hs hw hG=>(kx (D6 hS hG.1))) ?_
 refine al8 (p:=p.x = 0) 6 ⟨d6,hS,j6⟩ (by kernel_rfl) (by kernel_rfl) (fun hx=>?_) (fun hx=>?_)
 ·refine A3 (.one (.tp (p.y = 0))) rfl (fun β S w hS hs hw hG=>(kx (D6 hS hG.2.1))) ?_
  refine al8 (p:=p.y = 0) 11 ⟨d6,hS,j6⟩ (by kernel_rfl) (by kernel_rfl) (fun hy=>?_) (fun hy=>?_)
  ·refine A3 (.one (.tp (p.z = 0))) rfl (fun β S w hS hs hw hG=>(kx (D6 hS hG.2.2))) ?_
   exact n8 (.bool (tst (p.z = 0))) rfl (fun S w hs hw hG=>⟨by rw [show p.None = (p.z = 0) from propext ⟨fun h=>h.2.2,fun h=>⟨hx,hy,h⟩⟩],hw⟩)
  exact n8 (.bool false) rfl (fun S w hs hw hG=>⟨by rw [l6 fun h : p.None=>hy h.2.1],hw⟩)
 exact n8 (.bool false) rfl (fun S w hs hw hG=>⟨by rw [l6 fun h : p.None=>hx h.1],hw⟩)
theorem ap0 {S : Nat → Prop} {w : World} {vp vq : Value} {p q : T3} {m n : Nat} (hS : Up S w) (hp : TripV S w vp p) (hq : TripV S w vq q) (hm : tl p m) (hn : tl q n) (hmn : 2 * (m + n + 1) + 1 ≤ 3344) :
  Gives prog 111 [vp,vq] w fun v' w'=>v' = .bool (tst (T3.Same p q)) ∧ Ext w w':=by
 refine n7 (E:=env) (S0:=S) (G:=((q7 vp (p)).and (q7 vq (q)))) (l:=[.one (.ag 9 vp),.one (.ag 9 vq)]) func111 rfl rfl rfl ⟨hp.ok,hq.ok,trivial⟩ rfl ⟨hp,hq⟩ ?_
 refine G3 (fun x0=>.one (.ag 9 x0)) (fun x0=>q7 x0 ((p.cross q))) (fun β S w hS hs hw hG=>(kx (Q4 hS hG.1 hG.2 hm hn hmn))) ?_
 intro x
 refine A3 (.one (.tp (T3.Same p q))) rfl (fun β S w hS hs hw hG=>(kx (az1 hS hG.1))) ?_
 exact n8 (.bool (tst (T3.Same p q))) rfl (fun S w hs hw hG=>⟨rfl,hw⟩)
theorem a95 {S : Nat → Prop} {w : World} {vp vq vr : Value} {p q r : T3} {m n k : Nat} (hS : Up S w) (hp : TripV S w vp p) (hq : TripV S w vq q) (hr : TripV S w vr r) (hm : tl p m) (hn : tl q n) (hk : tl r k) (hmn : 3 * (2 * (m + n) + 1 + k + 1) + 1 ≤ 3344) :
  Gives prog 58 [vp,vq,vr] w fun v' w'=>v' = .bool (tst (T3.Flat p q r)) ∧ Ext w w':=by
 have hc:=y6 hm hn
 refine n7 (E:=env) (S0:=S) (G:=((q7 vp (p)).and ((q7 vq (q)).and (q7 vr (r))))) (l:=[.one (.ag 9 vp),.one (.ag 9 vq),.one (.ag 9 vr)]) func58 rfl rfl rfl ⟨hp.ok,hq.ok,hr.ok,trivial⟩ rfl ⟨hp,hq,hr⟩ ?_
 refine n9 6 ?_
 refine d7 2 ?_
 refine q6 (fun x0=>.one (.ag 9 x0)) (fun x0=>q7 x0 ((p.cross q))) (fun β η S w hS hs hw hG hd=>(kx (Q4 hS hG.1 hG.2.1 hm hn (by omega)))) ?_
 refine d7 1 ?_
 refine q6 (fun x0=>.one (.ag 3 x0)) (fun x0=>j8 x0 (((p.cross q).dot r))) (fun β η S w hS hs hw hG hd=>(kx (a12 hS (p8 hd 2 : (q7 (η 2) ((p.cross q))).p S w) hG.2.2 hc hk (by omega)))) ?_
 refine h_K (.one (.tp (T3.Flat p q r))) (fun η=>(by kernel_rfl)) (R2 rfl) rfl (fun β η S w hS hs hw hG hd=>(kx (D6 hS (p8 hd 4 : (j8 (η 4) (((p.cross q).dot r))).p S w)))) ?_
 refine n5 [false,false,false] (Gh.nil) (by exact fun _ _ h=>trivial) (fun g η=>g) (fun g η=>(by kernel_rfl)) ?_
 intro η_1
 exact n8 (.bool (tst (T3.Flat p q r))) rfl (fun S w hs hw hG=>⟨rfl,hw⟩)
def H0 (e : Int) : List PanicEntry:=[{ v:=.iface 144 (.agg #[.int .i64 e]),recovered:=false }]
theorem aa0 {w : World} {e : Int} : Pan prog 59 [.int .i64 e] w (H0 e):=by
 have hS : Up All w:=Up.all
 refine H2 (E:=env) (S0:=All) (G:=Gh.nil) (l:=[.one (.int .i64 (e))]) func59 rfl rfl rfl ⟨trivial,trivial⟩ rfl trivial ?_
 exact de8 (.iface 144 (.agg #[.int .i64 e])) ⟨d6,hS,j6⟩ (by kernel_rfl) (by kernel_rfl) (fun S w hs hw hG ρ=>⟨rfl,hw⟩)
open Classical in
noncomputable def O4 (p : Rat → Prop) : List Rat → Nat → Int
 | [],_=>-1
 | x :: r,k=>if p x then (k : Int) else O4 p r (k + 1)
theorem bk9 {p : Rat → Prop} {l : List Rat} {j : Nat} (hj : j < l.length) : (p (l.getD j 0) → O4 p (l.drop j) j = (j : Int)) ∧ (¬ p (l.getD j 0) → O4 p (l.drop j) j = O4 p (l.drop (j + 1)) (j + 1)):=by
 have e : l.drop j = l.getD j 0 :: l.drop (j + 1):=by
  rw [List.drop_eq_getElem_cons hj,List.getD_eq_getElem?_getD,List.getElem?_eq_getElem hj]
  rfl
 rw [e]
 exact ⟨fun h=>by unfold O4; rw [if_pos h],fun h=>by conv=>lhs; unfold O4; rw [if_neg h]⟩
theorem af2 {p : Rat → Prop} : ∀ {l : List Rat} {k : Nat},(∃ x ∈ l,p x) ↔ 0 ≤ O4 p l k:=by
 intro l
 induction l with
 | nil=>intro k; unfold O4; simp
 | cons x r ih=>
  intro k
  unfold O4
  by_cases h : p x
  ·rw [if_pos h]; exact ⟨fun _=>by omega,fun _=>⟨x,List.mem_cons_self ..,h⟩⟩
  rw [if_neg h,← ih]
  constructor
  ·rintro ⟨y,hy,hp⟩
   rcases List.mem_cons.1 hy with rfl | hy
   ·exact absurd hp h
   exact ⟨y,hy,hp⟩
  rintro ⟨y,hy,hp⟩; exact ⟨y,List.mem_cons_of_mem _ hy,hp⟩
abbrev dl6 (P : Program) (f : FuncId) (w : World) (l : List Rat) (p : Rat → Prop) : Prop:=∀ S' w' x q,q ∈ l → Up S' w' → Ext w w' → RatV S' w' x q → Gives P f [x] w' fun v w''=>v = .bool (tst (p q)) ∧ Ext w' w''
theorem bu9 {S : Nat → Prop} {w : World} {v : Value} {l : List Rat} {p : Rat → Prop} (f : FuncId) [ci : CallI prog f] (hS : Up S w) (h : SeqV true 3 U8 S w v l) (hf : dl6 prog f w l p) :
  Gives prog 162 [v,.func (.func f) #[] #[]] w fun v' w'=>v' = .int .i64 (O4 p l 0) ∧ Ext w w':=by
 have hmx:=h.len_le
 unfold maxLen at hmx
 refine n7 (E:=env) (S0:=S) (G:=(H5 v (l))) (l:=[.one (.sl v (l).length),.one (.fn f [])]) func162 rfl rfl rfl ⟨h.sl,(fun _ h=>by cases h),trivial⟩ rfl h ?_
 refine Q6 (ι:=Nat) [(4,5),(8,18)] (fun j=>[(8,.one (.int .i64 (j : Int)))]) (fun _=>[]) (fun j=>(H5 v (l))) (fun j=>j ≤ l.length ∧ O4 p (l.drop j) j = O4 p l 0) (fun j=>l.length - j) (0) (⟨Nat.zero_le _,rfl⟩) (fun S w hw hG=>⟨x9 rfl,fun p hp=>by cases hp⟩) (fun S w hw hG=>hG) (fun hso j hj=>?_)
 refine W0 (p:=(j : Int) < (l.length : Int)) (fun hlt=>?_) (fun hlt=>?_)
 ·have hlt' : j < l.length:=by omega
  have hx0 : l[j]? = some (l.getD j 0):=by rw [List.getD_eq_getElem?_getD,List.getElem?_eq_getElem hlt']; rfl
  obtain ⟨d1,d2⟩:=bk9 (p:=p) hlt'
  refine o5 (at0 v l.length (j : Int) 41 3 (fun u0=>atG true 3 (fun x0=>j8 x0 ((l.getD j 0))) u0) (by kernel_rfl) ⟨d6,hS,j6⟩ (fun β S w hM hw hG=>hG.el rfl rfl hx0) ?_)
  intro u_1
  refine o5 (a25 u_1 41 3 true (fun x0=>.one (.ag 3 x0)) (fun x0=>j8 x0 ((l.getD j 0))) (by kernel_rfl) ⟨d6,hS,j6⟩ (fun S w hw hG=>hG.1) (fun _ _ _ h=>⟨h.ok,rfl⟩) ?_)
  intro x
  refine s_K (.one (.tp (p (l.getD j 0)))) ⟨d6,hS,j6⟩ (by kernel_rfl) (di2 (by kernel_rfl)) (R2 rfl) rfl (fun β S w hS hs hw hG=>(kx (hf _ _ _ _ (List.mem_of_getElem? hx0) hS hw hG.1))) ?_
  refine W0 (p:=p (l.getD j 0)) (fun hp=>?_) (fun hp=>?_)
  ·refine S9 ?_
   exact n8 (.int .i64 (j : Int)) rfl (fun S w hs hw hG=>⟨by rw [← hj.2,d1 hp],hw⟩)
  refine aj3 (ps:=[InR .i64 ((j : Int) + 1)]) (by simp only [L5,InR,and_true]; omega) ?_
  exact O5 (j + 1) ⟨d6,hS,j6⟩ hso (by kernel_rfl) (by kernel_rfl) (fun β=>(by kernel_rfl)) (fun β=>(by kernel_rfl)) (by kernel_rfl) (⟨by omega,by rw [← d2 hp]; exact hj.2⟩) (by omega) (fun S w hw hG=>⟨x9 rfl,fun p hp=>by cases hp⟩) (fun S w hw hG=>hG.2.2)
 refine S9 ?_
 exact n8 (.int .i64 (-1)) rfl (fun S w hs hw hG=>⟨by rw [← hj.2,List.drop_of_length_le (by omega)]; rfl,hw⟩)
theorem Z1 {S : Nat → Prop} {w : World} {v : Value} {l : List Rat} {p : Rat → Prop} (f : FuncId) [ci : CallI prog f] (hS : Up S w) (h : SeqV true 3 U8 S w v l) (hf : dl6 prog f w l p) :
  Gives prog 136 [v,.func (.func f) #[] #[]] w fun v' w'=>v' = .bool (tst (∃ x ∈ l,p x)) ∧ Ext w w':=by
 refine n7 (E:=env) (S0:=S) (G:=(H5 v (l))) (l:=[.one (.sl v (l).length),.one (.fn f [])]) func136 rfl rfl rfl ⟨h.sl,(fun _ h=>by cases h),trivial⟩ rfl h ?_
 refine A3 (.one (.int .i64 (O4 p l 0))) rfl (fun β S w hS hs hw hG=>(kx (bu9 f hS hG (fun S' w' x q h0 h1 h2 h3=>hf S' w' x q h0 h1 (hw.trans h2) h3)))) ?_
 exact n8 (.bool (tst (0 ≤ O4 p l 0))) rfl (fun S w hs hw hG=>⟨by rw [af2 (k:=0)],hw⟩)
def W9 (q : Rat) : Prop:=40 < Lib.nDigits q.num.natAbs ∨ 40 < Lib.nDigits q.den
theorem br1 (z : Int) (h : 0 ≤ z) : (Lib.itoa z).length = Lib.nDigits z.natAbs:=by
 obtain ⟨n,rfl⟩ : ∃ n : Nat,z = (n : Int):=⟨z.toNat,by omega⟩
 rw [bc2,Lib.decDigits_length]
 rfl
theorem db4 (z : Int) (h : z < 0) : (Lib.itoa (-z)).length = Lib.nDigits z.natAbs:=by
 rw [br1 (-z) (by omega),Int.natAbs_neg]
theorem du8 {S : Nat → Prop} {w : World} {v : Value} {q : Rat} (hS : Up S w) (h : RatV S w v q) : Gives prog 167 [v] w fun v' w'=>Ext w w' ∧ IntV S 193 .u32 w' v' q.num:=by
 obtain ⟨m,b,rfl,hm,hb⟩:=h
 have hi : IntV S 193 .u32 w (.agg #[.bool (tst (q.num < 0)),m]) q.num:=⟨m,rfl,hm⟩
 refine n7 (E:=env) (S0:=S) (G:=(cw7 (.agg #[.bool (tst (q.num < 0)),m]) q.num)) (l:=[.agg [.tp (q.num < 0),.val m,.val b]]) func167 rfl rfl rfl ⟨F0 ⟨trivial,hm.one,hb.one,trivial⟩,trivial⟩ rfl hi ?_
 exact n8 (.agg #[.bool (tst (q.num < 0)),m]) rfl (fun S w hs hw hG=>⟨hw,hG.mono fun k _ hk=>hs k hk⟩)
theorem bk7 {S : Nat → Prop} {w : World} {v : Value} {q : Rat} (ht : Tab w) (hS : Up S w) (h : RatV S w v q) (hl : rl q 1000000) : Gives prog 138 [v] w fun v' w'=>v' = .bool (tst (W9 q)) ∧ Ext w w':=by
 have h1 : zl q.num ≤ 1000000:=hl.1
 have h2 : zl (q.den : Int) ≤ 1000000:=hl.2
 have ld:=br1 (q.den : Int) (by omega)
 rw [Int.natAbs_natCast] at ld
 refine n7 (E:=env) (S0:=S) (G:=(j8 v (q))) (l:=[.one (.ag 3 v)]) func138 rfl rfl rfl ⟨h.ok,trivial⟩ rfl h ?_
 refine G3 (fun x0=>.one (.ag 2 x0)) (fun x0=>cw7 x0 (q.num)) (fun β S w hS hs hw hG=>(kx (du8 hS hG))) ?_
 intro n
 refine A3 (.one (.int .i64 q.num.sign)) rfl (fun β S w hS hs hw hG=>(kx (cu4 hG.1))) ?_
 refine W0 (p:=q.num.sign < 0) (fun hs=>?_) (fun hs=>?_)
 ·have hneg : q.num < 0:=Int.sign_neg_iff.1 hs
  have ln:=db4 q.num hneg
  refine G3 (fun x0=>.one (.ag 2 x0)) (fun x0=>cw7 x0 ((-q.num))) (fun β S w hS hs hw hG=>(kx (dl1 hG.1))) ?_
  intro m
  refine A3 (.one (.str (Lib.itoa (-q.num)))) rfl (fun β S w hS hs hw hG=>(kx (be8 (ht.to hw) hG.1 (by rw [ds4]; omega)))) ?_
  refine al8 (p:=(40 : Int) < ((Lib.itoa (-q.num)).length : Int)) 15 ⟨d6,hS,j6⟩ (by kernel_rfl) (by kernel_rfl) (fun h4=>?_) (fun h4=>?_)
  ·exact n8 (.bool true) rfl (fun S w hs hw hG=>⟨by rw [l9 (show W9 q from .inl (by omega))],hw⟩)
  refine G3 (fun x0=>.one (.ag 2 x0)) (fun x0=>cw7 x0 ((q.den : Int))) (fun β S w hS hs hw hG=>(kx (bo1 hS hG.2.2))) ?_
  intro d
  refine A3 (.one (.str (Lib.itoa (q.den : Int)))) rfl (fun β S w hS hs hw hG=>(kx (be8 (ht.to hw) hG.1 (by omega)))) ?_
  exact n8 (.bool (tst ((40 : Int) < ((Lib.itoa (q.den : Int)).length : Int)))) rfl (fun S w hs hw hG=>have h:=hG.2.2.2; ⟨by rw [show W9 q = ((40 : Int) < ((Lib.itoa (q.den : Int)).length : Int)) from propext ⟨fun h=>by rcases h with h | h <;> omega,fun h=>.inr (by omega)⟩],hw⟩)
 have hneg : ¬ q.num < 0:=fun h=>hs (Int.sign_neg_iff.2 h)
 have ln:=br1 q.num (by omega)
 refine A3 (.one (.str (Lib.itoa q.num))) rfl (fun β S w hS hs hw hG=>(kx (be8 (ht.to hw) hG.1 (by omega)))) ?_
 refine al8 (p:=(40 : Int) < ((Lib.itoa q.num).length : Int)) 15 ⟨d6,hS,j6⟩ (by kernel_rfl) (by kernel_rfl) (fun h4=>?_) (fun h4=>?_)
 ·exact n8 (.bool true) rfl (fun S w hs hw hG=>⟨by rw [l9 (show W9 q from .inl (by omega))],hw⟩)
 refine G3 (fun x0=>.one (.ag 2 x0)) (fun x0=>cw7 x0 ((q.den : Int))) (fun β S w hS hs hw hG=>(kx (bo1 hS hG.2))) ?_
 intro d
 refine A3 (.one (.str (Lib.itoa (q.den : Int)))) rfl (fun β S w hS hs hw hG=>(kx (be8 (ht.to hw) hG.1 (by omega)))) ?_
 exact n8 (.bool (tst ((40 : Int) < ((Lib.itoa (q.den : Int)).length : Int)))) rfl (fun S w hs hw hG=>have h:=hG.2.2; ⟨by rw [show W9 q = ((40 : Int) < ((Lib.itoa (q.den : Int)).length : Int)) from propext ⟨fun h=>by rcases h with h | h <;> omega,fun h=>.inr (by omega)⟩],hw⟩)
theorem br7 {S : Nat → Prop} {w : World} {v : Value} {q : Rat} (hS : Up S w) (h : RatV S w v q) : Gives prog 137 [v] w fun v' w'=>v' = .bool (tst (¬ q = 0)) ∧ Ext w w':=by
 refine n7 (E:=env) (S0:=S) (G:=(j8 v (q))) (l:=[.one (.ag 3 v)]) func137 rfl rfl rfl ⟨h.ok,trivial⟩ rfl h ?_
 refine A3 (.one (.tp (q = 0))) rfl (fun β S w hS hs hw hG=>(kx (D6 hS hG))) ?_
 exact n8 (.bool (tst (¬ q = 0))) rfl (fun S w hs hw hG=>⟨rfl,hw⟩)
theorem df8 {S : Nat → Prop} {w : World} {v : Value} {q : Rat} (hS : Up S w) (h : RatV S w v q) : Gives prog 163 [v] w fun v' w'=>v' = .bool (tst (¬ q = 0)) ∧ Ext w w':=by
 refine n7 (E:=env) (S0:=S) (G:=(j8 v (q))) (l:=[.one (.ag 3 v)]) func163 rfl rfl rfl ⟨h.ok,trivial⟩ rfl h ?_
 refine A3 (.one (.tp (q = 0))) rfl (fun β S w hS hs hw hG=>(kx (D6 hS hG))) ?_
 exact n8 (.bool (tst (¬ q = 0))) rfl (fun S w hs hw hG=>⟨rfl,hw⟩)
def Z6 (l : List Rat) : Prop:=¬ ∃ x ∈ l,¬ x = 0
def Z7 (l : List Rat) : Prop:=∃ x ∈ l,W9 x
theorem ar4 {S : Nat → Prop} {w : World} {v : Value} {l : List Rat} (ht : Tab w) (hS : Up S w) (h : SeqV true 3 U8 S w v l) (hl : ∀ x ∈ l,rl x 1000000) (h1 : ¬ Z6 l) (h2 : ¬ Z7 l) : Gives prog 95 [v] w fun v' w'=>v' = .tuple #[] ∧ Ext w w':=by
 refine n7 (E:=env) (S0:=S) (G:=(H5 v (l))) (l:=[.one (.sl v (l).length)]) func95 rfl rfl rfl ⟨h.sl,trivial⟩ rfl h ?_
 refine A3 (.one (.tp (∃ x ∈ l,¬ x = 0))) rfl (fun β S w hS hs hw hG=>(kx (Z1 137 hS hG fun _ _ _ _ _ h1 _ h3=>br7 h1 h3))) ?_
 refine Z8 (p:=¬ (∃ x ∈ l,¬ x = 0)) (h1) ?_
 refine A3 (.one (.tp (∃ x ∈ l,W9 x))) rfl (fun β S w hS hs hw hG=>(kx (Z1 138 hS hG fun _ _ _ _ h0 h1 h2 h3=>bk7 ((ht.to hw).to h2) h1 h3 (hl _ h0)))) ?_
 refine Z8 (p:=∃ x ∈ l,W9 x) (h2) ?_
 exact n8 (.tuple #[]) rfl (fun S w hs hw hG=>⟨rfl,hw⟩)
theorem bc4 {S : Nat → Prop} {w : World} {v : Value} {l : List Rat} (hS : Up S w) (h : SeqV true 3 U8 S w v l) (h1 : Z6 l) : Pan prog 95 [v] w (H0 60):=by
 refine H2 (E:=env) (S0:=S) (G:=(H5 v (l))) (l:=[.one (.sl v (l).length)]) func95 rfl rfl rfl ⟨h.sl,trivial⟩ rfl h ?_
 refine A3 (.one (.tp (∃ x ∈ l,¬ x = 0))) rfl (fun β S w hS hs hw hG=>(kx (Z1 137 hS hG fun _ _ _ _ _ h1 _ h3=>br7 h1 h3))) ?_
 refine U9 (p:=¬ (∃ x ∈ l,¬ x = 0)) (h1) ?_
 exact a67 (fun β S w hS hs hw hG=>(kx (K5 (aa0 (e:=60)) hw)))
theorem bb7 {S : Nat → Prop} {w : World} {v : Value} {l : List Rat} (ht : Tab w) (hS : Up S w) (h : SeqV true 3 U8 S w v l) (hl : ∀ x ∈ l,rl x 1000000) (h1 : ¬ Z6 l) (h2 : Z7 l) : Pan prog 95 [v] w (H0 11):=by
 refine H2 (E:=env) (S0:=S) (G:=(H5 v (l))) (l:=[.one (.sl v (l).length)]) func95 rfl rfl rfl ⟨h.sl,trivial⟩ rfl h ?_
 refine A3 (.one (.tp (∃ x ∈ l,¬ x = 0))) rfl (fun β S w hS hs hw hG=>(kx (Z1 137 hS hG fun _ _ _ _ _ h1 _ h3=>br7 h1 h3))) ?_
 refine Z8 (p:=¬ (∃ x ∈ l,¬ x = 0)) (h1) ?_
 refine A3 (.one (.tp (∃ x ∈ l,W9 x))) rfl (fun β S w hS hs hw hG=>(kx (Z1 138 hS hG fun _ _ _ _ h0 h1 h2 h3=>bk7 ((ht.to hw).to h2) h1 h3 (hl _ h0)))) ?_
 refine U9 (p:=∃ x ∈ l,W9 x) (h2) ?_
 exact a67 (fun β S w hS hs hw hG=>(kx (K5 (aa0 (e:=11)) hw)))
abbrev Cx.fnK (P : Program) (fn : Func) (E : Env) (w0 : World) (S0 K : Nat → Prop) (Ψ : Value → World → Prop) : Cx:=⟨P,fn.ntmps,E,w0,S0,K,as5 P fn Ψ,0,fun _=>0⟩
def SVsOkM (m : Nat) : List SV → Prop
 | []=>True
 | s :: r=>s.Ok m ∧ SVsOkM m r
theorem SVsOkM.all {m : Nat} : ∀ {l : List SV},SVsOkM m l → ∀ s ∈ l,s.Ok m:=by
 intro l
 induction l with
 | nil=>intro _ s hs; cases hs
 | cons x r ih=>
  intro h s hs
  rcases List.mem_cons.1 hs with rfl | hs
  ·exact h.1
  exact ih h.2 s hs
theorem bh4 {base : Bs} {w : World} {l : List SV} {hp : List HE} {β : Nat → Nat} (hok : SVsOkM hp.length l) (hM : Mem base hp β w) (hb : base.m = 0) : Sat base ⟨bd0 0 l,hp⟩ β (fun i=>(l.map (SV.den β)).getD i undef) w:=
 ⟨fun d s hs=>by have h:=bj7 (β:=β) (m:=hp.length) (i:=0) (d:=d) hok.all s hs; simpa using h,hM,by rw [hb]; exact Nat.zero_le _,fun i hi=>by omega⟩
theorem b30 {P : Program} {E : Env} {S0 K : Nat → Prop} {f : FuncId} {fn : Func} {code : Code} {l : List SV} {hp : List HE} {β : Nat → Nat} {args : List Value} {w : World} {Ψ : Value → World → Prop} {G : Gh} (hf : P.funcs[f]? = some fn) (hb : fn.body = some code) (hok : a62 fn code = true)
  (hn : Nat.ble args.length fn.ntmps = true) (hl : SVsOkM hp.length l) (ha : l.map (SV.den β) = args) (hM : Mem (Bs.of w.heap.size K) hp β w) (hG : G.p (Sof S0 β hp) w)
  (h : Run (Cx.fnK P fn E w S0 K Ψ) ⟨.code code,[],⟨bd0 0 l,hp⟩,[]⟩ G) : Gives P f args w Ψ:=by
 refine bl8 hf hb hok hn ?_
 subst ha
 exact h.run _ _ w (bh4 hl hM rfl) .refl hG
theorem dr8 [Rd] {c : Cx} {fn : Func} {Ψ : Value → World → Prop} {rs : List ResultVar} {o : Out} {G : Gh} (v : Value) (hc : c.Ok) (hQ : c.Q = as5 c.P fn Ψ) (hrs : fn.results.toList = rs) (he : am6 o = true) (hv : ∀ β,am7 c.E rs o.st β = some v)
  (h : ∀ β S w,Mem c.bs o.st.hp β w → (∀ k,S k → Sof c.S0 β o.st.hp k) → Keeps c.K c.w0 w → G.p S w → Ψ v w) : Run c o G:=by
 refine ⟨fun β ρ w hS hw hG=>?_⟩
 have h1:=hv β
 unfold am7 at h1
 cases hl : ar0 c.E o.st rs with
 | none=>rw [hl] at h1; cases h1
 | some l=>
  rw [hl] at h1
  simp only [Option.map_some,Option.some.injEq] at h1
  have h2:=bf6 hc.env hS hl
  have h3:=h β _ w hS.mem (fun k hk=>hk) hw hG
  have hend : ∀ e,e = Exit.ret ∨ e = Exit.normal → as5 c.P fn Ψ e ρ w:=by
   rintro e (rfl | rfl) <;> exact ⟨_,hrs ▸ h2,h1 ▸ h3⟩
  unfold am6 at he
  split at he <;> first | (cases he; done) | skip
  ·rename_i e1 e2
   rw [e1,e2]
   show c.Q .ret ρ w
   rw [hQ]
   exact hend _ (.inl rfl)
  rename_i e1 e2
  rw [e1,e2]
  show c.Q .normal ρ w
  rw [hQ]
  exact hend _ (.inr rfl)
theorem ab6 [Rd] {P : Program} {fn : Func} {E : Env} {w0 : World} {S0 K : Nat → Prop} {Ψ : Value → World → Prop} {rs : List ResultVar} {o : Out} {G : Gh} (v : Value) (hc : (Cx.fnK P fn E w0 S0 K Ψ).Ok) (hv0 : (ex (Cx.fnK P fn E w0 S0 K Ψ) o).vc = []) (hrs : fn.results.toList = rs) (he : am6 (ex (Cx.fnK P fn E w0 S0 K Ψ) o) = true) (hv : ∀ β,am7 E rs (ex (Cx.fnK P fn E w0 S0 K Ψ) o).st β = some v)
  (h : ∀ β S w,Mem (Bs.of w0.heap.size K) (ex (Cx.fnK P fn E w0 S0 K Ψ) o).st.hp β w → (∀ k,S k → Sof S0 β (ex (Cx.fnK P fn E w0 S0 K Ψ) o).st.hp k) → Keeps K w0 w → G.p S w → Ψ v w) : Run (Cx.fnK P fn E w0 S0 K Ψ) o G:=
 L7 hc hv0 (dr8 v hc rfl hrs he hv h)
section
variable {c : Cx} {o : Out} {G : Gh}
theorem dy8 [Rd] {f : FuncId} [ci : CallI c.P f] {X : Value} (s : SV) (hc : c.Ok) (hv : (ex c o).vc = []) (hf : G4 f (ex c o) = true) (hok : s.Ok 0) (hX : s.den (fun _=>0) = X)
  (h : ∀ β S w,Up S w → Mem c.bs (ex c o).st.hp β w → (∀ k,S k → c.S0 k) → Keeps c.K c.w0 w → G.p S w → ∃ args,(A5 (ex c o)).map (SV.den β) = args ∧ Gives c.P f args w fun v w'=>v = X ∧ Ext w w')
  (hn : Run c (F4 (ex c o) s) G) : Run c o G:=by
 refine L7 hc hv (a83 f hc (fun _ : Unit=>s) (fun _=>True) (fun _=>.nil) hf (fun β S w h1 h1' h2 h3 h4=>?_) fun _ _=>?_)
 ·obtain ⟨args,ha,hg⟩:=h β S w h1 h1' h2 h3 h4
  refine ⟨args,ha,hg.mono fun v w' hv=>⟨hv.2,(),?_,hok.le (Nat.zero_le _),trivial,trivial⟩⟩
  rw [hv.1,← hX]
  exact SV.den_congr (m:=0) (fun i hi=>absurd hi (Nat.not_lt_zero i)) hok
 exact ap1 (fun S w _ h=>h.2) hn
theorem K7 [Rd] {f : FuncId} [ci : CallI c.P f] {X : Value} (s : SV) (hX : s.den (fun _=>0) = X) (h : ∀ β S w,Up S w → Mem c.bs (ex c o).st.hp β w → (∀ k,S k → c.S0 k) → Keeps c.K c.w0 w → G.p S w → ∃ args,(A5 (ex c o)).map (SV.den β) = args ∧ Gives c.P f args w fun v w'=>v = X ∧ Ext w w') (hn : Run c (F4 (ex c o) s) G) (hc : c.Ok:=by exact ⟨d6,by assumption,j6⟩) (hv : (ex c o).vc = []:=by kernel_rfl) (hf : G4 f (ex c o) = true:=by kernel_rfl) (hok : s.Ok 0:=by exact R2 rfl) : Run c o G:=
 dy8 s hc hv hf hok hX h hn
theorem dp6 [Rd] {f : FuncId} [ci : CallI c.P f] (pat : Value → SV) (Δ : Value → Gh) (hc : c.Ok) (hv : (ex c o).vc = []) (hf : G4 f (ex c o) = true) (hok : ∀ a S w,(Δ a).p S w → (pat a).Ok 0 ∧ (pat a).den (fun _=>0) = a)
  (h : ∀ β S w,Up S w → Mem c.bs (ex c o).st.hp β w → (∀ k,S k → c.S0 k) → Keeps c.K c.w0 w → G.p S w → ∃ args,(A5 (ex c o)).map (SV.den β) = args ∧ Gives c.P f args w fun v w'=>Ext w w' ∧ (Δ v).p S w')
  (hn : ∀ a,Run c (F4 (ex c o) (pat a)) ((Δ a).and G)) : Run c o G:=by
 refine L7 hc hv (a83 f hc pat (fun _=>True) Δ hf (fun β S w h1 h1' h2 h3 h4=>?_) fun a _=>hn a)
 obtain ⟨args,ha,hg⟩:=h β S w h1 h1' h2 h3 h4
 refine ⟨args,ha,hg.mono fun v w' hv=>?_⟩
 obtain ⟨e1,e2⟩:=hok v S w' hv.2
 exact ⟨hv.1,v,by rw [SV.den_congr (m:=0) (β':=fun _=>0) (fun i hi=>absurd hi (Nat.not_lt_zero i)) e1,e2],e1.le (Nat.zero_le _),trivial,hv.2⟩
theorem d62 [Rd] {f : FuncId} [ci : CallI c.P f] (s : SV) (hc : c.Ok) (hv : (ex c o).vc = []) (hf : G4 f (ex c o) = true) (hok : s.Ok (ex c o).st.hp.length)
  (h : ∀ β S w,Up S w → Mem c.bs (ex c o).st.hp β w → (∀ k,S k → c.S0 k) → Keeps c.K c.w0 w → G.p S w → ∃ args,(A5 (ex c o)).map (SV.den β) = args ∧ Gives c.P f args w fun v w'=>v = s.den β ∧ Ext w w')
  (hn : Run c (F4 (ex c o) s) G) : Run c o G:=by
 refine L7 hc hv (a83 f hc (fun _ : Unit=>s) (fun _=>True) (fun _=>.nil) hf (fun β S w h1 h1' h2 h3 h4=>?_) fun _ _=>?_)
 ·obtain ⟨args,ha,hg⟩:=h β S w h1 h1' h2 h3 h4
  exact ⟨args,ha,hg.mono fun v w' hv=>⟨hv.2,(),hv.1,hok,trivial,trivial⟩⟩
 exact ap1 (fun S w _ h=>h.2) hn
theorem a66 [Rd] {f : FuncId} [ci : CallI c.P f] (hc : c.Ok) (hv : (ex c o).vc = []) (hf : G4 f (ex c o) = true)
  (h : ∀ β S w,Up S w → Mem c.bs (ex c o).st.hp β w → (∀ k,S k → c.S0 k) → Keeps c.K c.w0 w → G.p S w → ∃ args,(A5 (ex c o)).map (SV.den β) = args ∧ GivesE c.P f args w (fun _ _=>False) fun ch w'=>∀ ρ,c.Q (.panic ch) ρ w') : Run c o G:=
 L7 hc hv (by1 (α:=Unit) f hc (fun _=>.und) (fun _=>False) (fun _=>.nil) hf (fun β S w h1 h1' h2 h3 h4=>let ⟨args,ha,hg⟩:=h β S w h1 h1' h2 h3 h4; ⟨args,ha,hg.mono (fun _ _ hf=>hf.elim) fun _ _ hp=>hp⟩) fun _ hf=>hf.elim)
theorem bt1 [Rd] {f : FuncId} {args : List Value} {w : World} {X : List PanicEntry} {R : Fr → World → Prop} {k : List Kt} (h : Pan c.P f args w X) (hq : ∀ w',Ext w w' → ∀ ρ,c.Q (.panic X) ρ w') : GivesE c.P f args w (fun _ _=>False) fun ch w'=>∀ ρ,(c.sub R k).Q (.panic ch) ρ w':=
 h.mono (fun _ _ h=>h) fun ch w' hp ρ=>by
  obtain ⟨rfl,hk⟩:=hp
  exact ax1 (k:=k) (hq w' hk ρ)
def dx0 (o : Out) : Option Value:=match bi6 o with
 | some (_,.nilCheck x)=>match opd o.st.fr x with
  | some (.one (.val v))=>some v
  | _=>none
 | _=>none
theorem dn6 [Rd] (a : Addr) (hq : dx0 o = some (.pointer (some a))) (hc : c.Ok) (hn : Run c (Z4 o (.one (.val (.pointer (some a)))) o.st.hp) G) : Run c o G:=by
 unfold dx0 at hq
 split at hq <;> first | (cases hq; done) | skip
 rename_i d x hop
 split at hq <;> first | (cases hq; done) | skip
 rename_i v hx
 simp only [Option.some.injEq] at hq
 subst hq
 refine bk5 (α:=Unit) (fun _=>.one (.val (.pointer (some a)))) (fun _=>.nil) hop (fun β S w F ty hkn hM hup hS hw hG=>⟨(),w,.refl,(rfl : Value.oneCell' _ = true),trivial,?_,rfl⟩) hc fun _=>ap1 (fun S w _ h=>h.2) hn
 have g1 : ev F x = .pointer (some a):=(hkn x (by simp [Op.operands]) _ hx).1
 intro d pos aft g
 simp [execOp,g1,SV.den,Ch.den]
def cg1 (E : Env) (o : Out) : Option (Value × Nat):=match bi6 o with
 | some (_,.slice T x none none none)=>match opd o.st.fr x,B8 E T with
  | some (.one (.val v)),.array n e=>(E.get e).map fun _=>(v,n)
  | _,_=>none
 | _=>none
theorem du6 [Rd] (b n : Nat) (hq : cg1 c.E o = some (.pointer (some ⟨b,0,none⟩),n)) (hc : c.Ok) (hn : Run c (Z4 o (.one (.sl (.slice (some ⟨b,0,none⟩) n n) n)) o.st.hp) G) : Run c o G:=by
 unfold cg1 at hq
 split at hq <;> first | (cases hq; done) | skip
 rename_i d T x hop
 split at hq <;> first | (cases hq; done) | skip
 rename_i v n' e hx hk
 cases hte : c.E.get e with
 | none=>rw [hte] at hq; cases hq
 | some te=>
  rw [hte] at hq
  simp only [Option.map_some,Option.some.injEq,Prod.mk.injEq] at hq
  obtain ⟨rfl,rfl⟩:=hq
  have hkd:=D2 (t:=T) hc.env
  rw [hk] at hkd
  have hkd' : c.P.underlying T = some (.array n' e):=hkd
  obtain ⟨z,hty,_⟩:=(hc.env.get hte).ty
  refine bk5 (α:=Unit) (fun _=>.one (.sl (.slice (some ⟨b,0,none⟩) n' n') n')) (fun _=>.nil) hop (fun β S w F ty hkn hM hup hS hw hG=>⟨(),w,.refl,⟨_,_,rfl,Nat.le_refl _⟩,trivial,?_,rfl⟩) hc fun _=>ap1 (fun S w _ h=>h.2) hn
  have g1 : ev F x = .pointer (some ⟨b,0,none⟩):=(hkn x (by simp [Op.operands]) _ hx).1
  intro d pos aft g
  simp [execOp,g1,SV.den,Ch.den,Instr.sliceAt,Instr.slice,run_underlying hkd',Instr.sliceBounds,Instr.sliceBound,asIntOf,hty.runSize w,sliced,Instr.sureAddr,Addr.add]
theorem ct8 [Rd] (u : Value) (n : Nat) (Δ : Value → Gh) (hq : cg1 c.E o = some (u,n)) (hc : c.Ok)
  (h : ∀ β S w,Mem c.bs o.st.hp β w → Keeps c.K c.w0 w → G.p S w → ∃ b k,u = .pointer (some ⟨b,k,none⟩) ∧ (Δ (.slice (some ⟨b,k,none⟩) n n)).p S w)
  (hn : ∀ v,Run c (Z4 o (.one (.sl v n)) o.st.hp) ((Δ v).and G)) : Run c o G:=by
 unfold cg1 at hq
 split at hq <;> first | (cases hq; done) | skip
 rename_i d T x hop
 split at hq <;> first | (cases hq; done) | skip
 rename_i v n' e hx hk
 cases hte : c.E.get e with
 | none=>rw [hte] at hq; cases hq
 | some te=>
  rw [hte] at hq
  simp only [Option.map_some,Option.some.injEq,Prod.mk.injEq] at hq
  obtain ⟨rfl,rfl⟩:=hq
  have hkd:=D2 (t:=T) hc.env
  rw [hk] at hkd
  have hkd' : c.P.underlying T = some (.array n' e):=hkd
  obtain ⟨z,hty,_⟩:=(hc.env.get hte).ty
  refine bk5 (α:=Value) (fun v=>.one (.sl v n')) Δ hop (fun β S w F ty hkn hM hup hS hw hG=>?_) hc hn
  obtain ⟨b,k,hu,hΔ⟩:=h β S w hM hw hG
  refine ⟨.slice (some ⟨b,k,none⟩) n' n',w,.refl,⟨_,_,rfl,Nat.le_refl _⟩,hΔ,?_,rfl⟩
  have g1 : ev F x = .pointer (some ⟨b,k,none⟩):=by rw [(hkn x (by simp [Op.operands]) _ hx).1]; exact hu
  intro d pos aft g
  simp [execOp,g1,SV.den,Ch.den,Instr.sliceAt,Instr.slice,run_underlying hkd',Instr.sliceBounds,Instr.sliceBound,asIntOf,hty.runSize w,sliced,Instr.sureAddr,Addr.add]
theorem dj6 [Rd] (u : Value) (T : TypeId) (sz : Nat) (g : Bool) (pat : Value → SV) (Δ : Value → Gh) (hq : ldQ c.E o = some (u,T,sz,g)) (hc : c.Ok) (hok : ∀ a S w,(Δ a).p S w → (pat a).Ok 0 ∧ (pat a).den (fun _=>0) = a)
  (h : ∀ β S w,Mem c.bs o.st.hp β w → Keeps c.K c.w0 w → G.p S w → ∃ S' x,K4 g sz x ∧ At S' w u x.cells.toList ∧ (Δ x).p S w)
  (hn : ∀ a,Run c (Z4 o (pat a) o.st.hp) ((Δ a).and G)) : Run c o G:=by
 unfold ldQ at hq
 split at hq <;> first | (cases hq; done) | skip
 rename_i d T' x hop
 split at hq <;> first | (cases hq; done) | skip
 rename_i p hx
 cases hte : c.E.get T' with
 | none=>rw [hte] at hq; cases hq
 | some te=>
  rw [hte] at hq
  simp only [Option.map_some,Option.some.injEq,Prod.mk.injEq] at hq
  obtain ⟨rfl,rfl,rfl,rfl⟩:=hq
  refine bk5 pat Δ hop (fun β S w F ty hkn hM hup hS hw hG=>?_) hc hn
  obtain ⟨S',a,h1,h2,h3⟩:=h β S w hM hw hG
  obtain ⟨h4,h5⟩:=hok a S w h3
  have g1 : ev F x = p:=(hkn x (by simp [Op.operands]) _ hx).1
  obtain ⟨z,hty,_⟩:=(hc.env.get hte).ty
  refine ⟨a,w,.refl,h4.le (Nat.zero_le _),h3,?_,rfl⟩
  rw [SV.den_congr (m:=0) (β':=fun _=>0) (fun i hi=>absurd hi (Nat.not_lt_zero i)) h4,h5]
  exact h2.load hty h1 g1
theorem r6 [Rd] (u : Value) (T : TypeId) (sz : Nat) (g : Bool) (pat : Value → SV) (Δ : Value → Gh) (h : ∀ β S w,Mem c.bs o.st.hp β w → Keeps c.K c.w0 w → G.p S w → ∃ S' x,K4 g sz x ∧ At S' w u x.cells.toList ∧ (Δ x).p S w) (hn : ∀ a,Run c (Z4 o (pat a) o.st.hp) ((Δ a).and G)) (hq : ldQ c.E o = some (u,T,sz,g):=by kernel_rfl) (hc : c.Ok:=by exact ⟨d6,by assumption,j6⟩) (hok : ∀ a S w,(Δ a).p S w → (pat a).Ok 0 ∧ (pat a).den (fun _=>0) = a:=by exact fun _ _ _ h=>⟨h.ok,rfl⟩) : Run c o G:=
 dj6 u T sz g pat Δ hq hc hok h hn
end
theorem cx5 {S : Nat → Prop} {T : TypeId} {s n : Nat} {w : World} {v : Value} {cs : List Value} (h : Own 0 T s w v n cs) (hS : ∀ g,v.ownBlock = some g → S g) : Row S T s w v n cs:=by
 refine ⟨h.1,?_⟩
 rcases h.2 with h3 | ⟨g,cap,cur,hv,hg,hh,hn2,hm,hcc,ht⟩
 ·exact .inl h3
 exact .inr ⟨g,0,cap,cur,(0,0),hv,hn2,hm,hS g (by rw [hv]; rfl),hh,by omega,by simpa using ht⟩
theorem av6 {base : Bs} {hp : List HE} {β : Nat → Nat} {w : World} {b : Nat} {T : TypeId} {s n : Nat} {v : Value} {cs : List Value} (hb : nth hp b = some (.row T s v n cs)) (hM : Mem base hp β w) : Own 0 T s w v n cs:=by
 rw [M1] at hb
 exact hM.row b T s v n cs hb
theorem ab9 {β : Nat → Nat} {n : Nat} {x : Value} : f5 β [.ag n x] = x.cells.toList:=by simp [f5,Ch.cells]
theorem db6 {w : World} {T : TypeId} {s n : Nat} {v : Value} {cs : List Value} {β : Nat → Nat} (h : Own 0 T s w v n cs) : Mem (Bs.of w.heap.size fun k=>some k ≠ v.ownBlock) [.row T s v n cs] β w:=by
 have one : ∀ {i : Nat} {x : HE},[HE.row T s v n cs][i]? = some x → i = 0 ∧ x = .row T s v n cs:=by
  intro i x hi
  cases i with
  | zero=>simp at hi; exact ⟨rfl,hi.symm⟩
  | succ i=>simp at hi
 have mine : ∀ {i k : Nat},m7 β [.row T s v n cs] i k → i = 0 ∧ v.ownBlock = some k:=by
  rintro i k ⟨x,hi,hk⟩
  obtain ⟨rfl,rfl⟩:=one hi
  exact ⟨rfl,hk⟩
 refine ⟨fun i T' l hi=>?_,fun i T' s' v' n' cs' hi=>?_,fun i A hi=>?_,fun i k hk=>?_,fun i j k hi hj=>?_⟩
 ·cases (one hi).2
 ·cases (one hi).2; exact h
 ·cases (one hi).2
 ·obtain ⟨_,hk⟩:=mine hk
  exact ⟨.inr fun e=>e hk.symm,(h.lt k hk).2⟩
 rw [(mine hi).1,(mine hj).1]
theorem dd6 {S : Nat → Prop} {T : TypeId} {s n : Nat} {v : Value} {cs : List Value} {β : Nat → Nat} (hS : ∀ k,S k → some k ≠ v.ownBlock) : ∀ k,S k → Sof (fun k=>S k ∨ some k = v.ownBlock) β [.row T s v n cs] k:=by
 intro k hk
 refine ⟨.inl hk,?_⟩
 rintro i ⟨x,hi,hx⟩
 cases i with
 | zero=>
  simp at hi
  subst hi
  exact hS k hk (Eq.symm hx)
 | succ i=>simp at hi
theorem F5 {S : Nat → Prop} {v : Value} : ∀ k,¬ (some k ≠ v.ownBlock) → S k ∨ some k = v.ownBlock:=fun _ h=>.inr (Classical.byContradiction h)
theorem r5 {S : Nat → Prop} {v : Value} {w : World} (h : Up S w) : Up (fun k=>S k ∨ some k = v.ownBlock) w:=fun k hk=>.inl (h k hk)
theorem db5 {T : TypeId} {s n b : Nat} {w : World} {cs : List Value} (h : Own 0 T s w (.slice (some ⟨b,0,none⟩) n n) n cs) : Blk w b T cs:=by
 rcases h.2 with ⟨h1,_⟩ | ⟨g,cap,cur,h1,_,h2,_,_,h3,h4⟩
 ·cases h1
 simp only [Value.slice.injEq,Option.some.injEq,Addr.mk.injEq] at h1
 obtain ⟨⟨rfl,_,_⟩,_,rfl⟩:=h1
 have e : cs = cur.toList:=by rw [← h4]; exact List.take_of_length_le (by simpa using Nat.le_of_eq h3)
 unfold Blk
 rw [h2,e]
theorem c75 {S : Nat → Prop} {T : TypeId} {s n : Nat} {v : Value} {cs : List Value} {β : Nat → Nat} {hp : List HE} {k : Nat} (i : Nat) (hb : nth hp i = some (.row T s v n cs)) (h : Sof (fun k=>S k ∨ some k = v.ownBlock) β hp k) : S k:=by
 rcases h.1 with h1 | h1
 ·exact h1
 rw [M1] at hb
 exact absurd ⟨_,hb,h1.symm⟩ (h.2 i)
structure ElsV {α : Type} (g : Bool) (s : Nat) (F : Value → α → Gh) (S : Nat → Prop) (w : World) (vs : List Value) (l : List α) : Prop where
 len : vs.length = l.length
 lies : ∀ x ∈ vs,K4 g s x
 el : ∀ (i : Nat) a x,l[i]? = some a → vs[i]? = some x → (F x a).p S w
abbrev bi5 {α : Type} (g : Bool) (s : Nat) (F : Value → α → Gh) (vs : List Value) (l : List α) : Gh:=
 ⟨fun S w=>ElsV g s F S w vs l,fun h k=>⟨h.len,h.lies,fun i a x h1 h2=>(F x a).keep (h.el i a x h1 h2) k⟩,fun h k=>⟨h.len,h.lies,fun i a x h1 h2=>(F x a).mono (h.el i a x h1 h2) k⟩⟩
def z7 (vs : List Value) : List Value:=vs.flatMap fun x=>x.cells.toList
section
variable {α : Type} {g : Bool} {s : Nat} {F : Value → α → Gh} {S : Nat → Prop} {w : World} {vs : List Value} {l : List α}
theorem L6 (h : ∀ x ∈ vs,K4 g s x) : (z7 vs).length = vs.length * s:=by
 induction vs with
 | nil=>simp [z7]
 | cons x r ih=>
  have h1:=(h x (List.mem_cons_self ..)).1
  have h2:=ih fun y hy=>h y (List.mem_cons_of_mem _ hy)
  unfold z7 at h2 ⊢
  rw [List.flatMap_cons,List.length_append,h1,h2,List.length_cons,Nat.add_mul,Nat.one_mul,Nat.add_comm]
theorem c98 (h : ∀ x ∈ vs,K4 g s x) : ∀ {i : Nat} {y : Value},i < vs.length → (z7 vs).take (i * s) ++ y.cells.toList ++ (z7 vs).drop (i * s + s) = z7 (vs.set i y):=by
 induction vs with
 | nil=>intro i y hi; simp at hi
 | cons x r ih=>
  intro i y hi
  have h1:=(h x (List.mem_cons_self ..)).1
  have ih2 : ∀ {i : Nat} {y : Value},i < r.length → (z7 r).take (i * s) ++ y.cells.toList ++ (z7 r).drop (i * s + s) = z7 (r.set i y):=ih fun y hy=>h y (List.mem_cons_of_mem _ hy)
  unfold z7 at ih2 ⊢
  rw [List.flatMap_cons]
  cases i with
  | zero=>
   rw [Nat.zero_mul,Nat.zero_add,List.take_zero,List.nil_append,List.drop_left' h1,List.set_cons_zero,List.flatMap_cons]
  | succ i=>
   rw [Nat.add_mul,Nat.one_mul,List.set_cons_succ,List.flatMap_cons,← ih2 (i:=i) (y:=y) (by simpa using hi)]
   generalize r.flatMap (fun x=>x.cells.toList) = C
   have e1 : (x.cells.toList ++ C).take (i * s + s) = x.cells.toList ++ C.take (i * s):=by
    rw [show i * s + s = x.cells.toList.length + i * s by omega,List.take_length_add_append]
   have e2 : (x.cells.toList ++ C).drop (i * s + s + s) = C.drop (i * s + s):=by
    rw [show i * s + s + s = x.cells.toList.length + (i * s + s) by omega,List.drop_length_add_append]
   rw [e1,e2]
   simp only [List.append_assoc]
theorem ElsV.set (h : ElsV g s F S w vs l) {i : Nat} {y : Value} {a : α} (hy : K4 g s y) (hF : (F y a).p S w) : ElsV g s F S w (vs.set i y) (l.set i a):=by
 refine ⟨by simp [h.len],fun x hx=>?_,fun j b x h1 h2=>?_⟩
 ·rcases List.mem_or_eq_of_mem_set hx with hx | rfl
  ·exact h.lies x hx
  exact hy
 by_cases e : i = j
 ·subst e
  have hi:=(List.getElem?_eq_some_iff.1 h1).1
  rw [List.length_set] at hi
  rw [List.getElem?_set_self hi] at h1
  rw [List.getElem?_set_self (by rw [h.len]; exact hi)] at h2
  cases h1
  cases h2
  exact hF
 rw [List.getElem?_set_ne e] at h1 h2
 exact h.el j b x h1 h2
theorem ElsV.own {T : TypeId} {v : Value} {n i : Nat} {a : α} (h : ElsV g s F S w vs l) (hown : Own 0 T s w v n (z7 vs)) (hn : n = l.length) (ha : l[i]? = some a) :
  ∃ S' x,K4 g s x ∧ At S' w (.pointer (some (adr v (i * s)))) x.cells.toList ∧ (F x a).p S w:=by
 subst hn
 have hi:=(List.getElem?_eq_some_iff.1 ha).1
 have hx : vs[i]? = some (vs[i]'(by rw [h.len]; exact hi)):=List.getElem?_eq_getElem _
 obtain ⟨S',hr⟩:=a81 hown
 have h1:=At.of_row hr hi
 have h2:=aj1 h.lies hx
 unfold z7 at h1
 rw [h2] at h1
 exact ⟨S',_,h.lies _ (List.getElem_mem _),h1,h.el i a _ ha hx⟩
theorem ElsV.seq {T : TypeId} {v : Value} {n : Nat} (h : ElsV g s F S w vs l) (hown : Own 0 T s w v n (z7 vs)) (hn : n = l.length) : SeqV g s F (fun k=>S k ∨ some k = v.ownBlock) w v l:=by
 subst hn
 exact ⟨T,vs,h.len,h.lies,cx5 hown fun k hk=>.inr hk.symm,fun i a x ha hx=>(F x a).mono (h.el i a x ha hx) fun k _ hk=>.inl hk⟩
end
abbrev al1 (x : Rat) : Prop:=¬ x = 0
noncomputable def P7 (l : List Rat) : Rat:=l.getD (O4 al1 l 0).toNat 0
noncomputable def bo6 (l : List Rat) : List Rat:=l.map (· / P7 l)
noncomputable def af8 (l : List Rat) (b : Rat) (j : Nat) : List Rat:=(l.map (· / b)).take j ++ l.drop j
theorem cc3 (l : List Rat) (b : Rat) : af8 l b 0 = l:=by simp [af8]
theorem co2 (l : List Rat) (b : Rat) : af8 l b l.length = l.map (· / b):=by unfold af8; rw [List.take_of_length_le (by simp),List.drop_length,List.append_nil]
theorem bl3 {l : List Rat} {b : Rat} {j : Nat} : (af8 l b j).length = l.length:=by unfold af8; simp; omega
theorem cp9 {l : List Rat} {b : Rat} {j : Nat} (h : j < l.length) : (af8 l b j)[j]? = some (l.getD j 0):=by
 unfold af8
 rw [List.getElem?_append_right (by simp; omega),List.length_take,List.length_map,Nat.min_eq_left (by omega),Nat.sub_self,List.getElem?_drop,Nat.add_zero,List.getD_eq_getElem?_getD,List.getElem?_eq_getElem h]
 rfl
theorem b74 {l : List Rat} {b : Rat} {j : Nat} (h : j < l.length) : af8 l b (j + 1) = (af8 l b j).set j (l.getD j 0 / b):=by
 unfold af8
 have e1 : (l.map (· / b)).take (j + 1) = (l.map (· / b)).take j ++ [l.getD j 0 / b]:=by
  rw [List.take_add_one,List.getElem?_map,List.getElem?_eq_getElem h,List.getD_eq_getElem?_getD,List.getElem?_eq_getElem h]
  rfl
 have e2 : l.drop j = l.getD j 0 :: l.drop (j + 1):=by
  rw [List.drop_eq_getElem_cons h,List.getD_eq_getElem?_getD,List.getElem?_eq_getElem h]
  rfl
 rw [e1,e2,List.set_append_right _ _ (by simp; omega),List.length_take,List.length_map,Nat.min_eq_left (by omega),Nat.sub_self,List.set_cons_zero]
 simp
theorem bg5 {p : Rat → Prop} : ∀ {l : List Rat} {k : Nat},0 ≤ O4 p l k → ∃ j,O4 p l k = ((k + j : Nat) : Int) ∧ j < l.length ∧ p (l.getD j 0):=by
 intro l
 induction l with
 | nil=>intro k h; unfold O4 at h; omega
 | cons x r ih=>
  intro k h
  unfold O4 at h ⊢
  by_cases hx : p x
  ·rw [if_pos hx]; exact ⟨0,by simp,by simp,hx⟩
  rw [if_neg hx] at h ⊢
  obtain ⟨j,h1,h2,h3⟩:=ih h
  exact ⟨j + 1,by rw [h1]; congr 1; omega,by simpa using h2,by simpa using h3⟩
theorem cr6 {S : Nat → Prop} {w : World} {v : Value} {T : TypeId} {vs : List Value} {l : List Rat} (hS : Up S w) (hown : Own 0 T 3 w v l.length (z7 vs)) (hv : ElsV true 3 U8 S w vs l) (hd : ∀ k,S k → some k ≠ v.ownBlock)
  (hl : ∀ x ∈ l,rl x 400000000000) (hf : ∀ x ∈ l,R1 (x / P7 l)) (hne : 0 ≤ O4 al1 l 0) :
  Gives prog 131 [v] w fun r w'=>r = .tuple #[] ∧ Keeps (fun k=>some k ≠ v.ownBlock) w w' ∧ ∃ vs',Own 0 T 3 w' v l.length (z7 vs') ∧ ElsV true 3 U8 S w' vs' (bo6 l):=by
 have hmx:=hv.len
 have hmx2 : l.length ≤ maxLen:=by obtain ⟨S',hr⟩:=a81 hown; exact hr.len_le
 unfold maxLen at hmx2
 obtain ⟨p,hp,hpl,hp0⟩:=bg5 hne
 rw [Nat.zero_add] at hp
 have hlead : P7 l = l.getD p 0:=by unfold P7; rw [hp]; rfl
 have hp1 : l[p]? = some (P7 l):=by rw [hlead,List.getD_eq_getElem?_getD,List.getElem?_eq_getElem hpl]; rfl
 have hmem : ∀ {j},j < l.length → l.getD j 0 ∈ l:=fun {j} hj=>by rw [List.getD_eq_getElem?_getD,List.getElem?_eq_getElem hj]; exact List.getElem_mem _
 have hnum : (P7 l).num ≠ 0:=fun h=>hp0 (by rw [← hlead]; exact Rat.num_eq_zero.1 h)
 refine b30 (E:=env) (S0:=fun k=>S k ∨ some k = (v).ownBlock) (K:=fun k=>some k ≠ (v).ownBlock) (G:=(bi5 true 3 U8 vs l)) (l:=[.one (.sl v l.length)]) (hp:=[.row T 3 v l.length (z7 vs)]) (β:=fun _=>0) func131 rfl rfl rfl ⟨bj5 hown,trivial⟩ rfl (db6 hown) (Gh.mono (bi5 true 3 U8 vs l) (S:=S) hv (fun k _ hk=>dd6 hd k hk)) ?_
 refine dy8 (.one (.int .i64 (O4 al1 l 0))) ⟨d6,r5 hS,F5⟩ (by kernel_rfl) (by kernel_rfl) (R2 rfl) rfl (fun β S w hS hM hs hw hG=>(kx (bu9 163 (r5 hS) (hG.seq (av6 (T:=T) (b:=0) (s:=3) (n:=l.length) (v:=v) (cs:=z7 vs) (by kernel_rfl) hM) rfl) (fun _ _ _ _ _ h1 _ h3=>df8 h1 h3)))) ?_
 refine dz9 (p:=O4 al1 l 0 < 0) ⟨d6,r5 hS,F5⟩ (by kernel_rfl) (by kernel_rfl) (by kernel_rfl) (by omega) ?_
 refine L7 ⟨d6,r5 hS,F5⟩ (by kernel_rfl) (c22 v l.length (O4 al1 l 0) 41 3 (by kernel_rfl) ⟨d6,r5 hS,F5⟩ (by omega) (by omega) (fun β S w hM hw hG=>let ⟨S',h⟩:=ca2 0 T 3 l.length v (z7 vs) (by kernel_rfl) hM; ⟨S',_,_,h⟩) ?_)
 refine L7 ⟨d6,r5 hS,F5⟩ (by kernel_rfl) (dj6 (.pointer (some (adr v ((O4 al1 l 0).toNat * 3)))) 41 3 true (fun x0=>.one (.ag 3 x0)) (fun x0=>j8 x0 ((P7 l))) (by kernel_rfl) ⟨d6,r5 hS,F5⟩ (fun _ _ _ h=>⟨h.ok,rfl⟩) (fun β S w hM hw hG=>by rw [hp]; exact hG.own (av6 (T:=T) (b:=0) (s:=3) (n:=l.length) (v:=v) (cs:=z7 vs) (by kernel_rfl) hM) rfl hp1) ?_)
 intro by0
 refine cs8 (ι:=Nat × List Value) [(4,4),(15,30)] (fun i=>[(15,.one (.int .i64 (i.1 : Int)))]) (fun i=>[(0,.row T 3 v l.length (z7 i.2))]) (fun i=>((bi5 true 3 U8 i.2 (af8 l (P7 l) i.1)).and ((j8 by0 ((P7 l))).and (bi5 true 3 U8 vs l)))) (fun i=>i.1 ≤ l.length) (fun i=>l.length - i.1) ((0,vs)) ⟨d6,r5 hS,F5⟩ (by kernel_rfl) (by kernel_rfl) (fun β=>(by kernel_rfl)) (fun β=>(by kernel_rfl)) (by kernel_rfl) (Nat.zero_le _) (fun S w hw hG=>⟨bo2 ⟨trivial,trivial⟩,a91 ⟨trivial,trivial⟩⟩) (fun S w hw hG=>have hv:=hG.2; ⟨(by rw [cc3]; exact hv),hG⟩) (fun hso i hi=>?_)
 refine dz1 (p:=(i.1 : Int) < (l.length : Int)) ⟨d6,r5 hS,F5⟩ (by kernel_rfl) (by kernel_rfl) (by kernel_rfl) (fun hlt=>?_) (fun hlt=>?_)
 ·have hlt' : i.1 < l.length:=by omega
  have hg0:=cp9 (b:=P7 l) hlt'
  refine ad4 11 ⟨d6,r5 hS,F5⟩ (by kernel_rfl) (by kernel_rfl) (by kernel_rfl) ?_
  refine d7 4 ?_
  refine ar6 (fun η=>v) l.length (i.1 : Int) 41 3 (fun u0=>G9 (u0 = .pointer (some (adr v (Int.toNat (i.1 : Int) * 3))))) (fun η=>(by kernel_rfl)) (fun η=>(by kernel_rfl)) ⟨d6,r5 hS,F5⟩ (fun β η S w hM hw hG hd=>⟨by omega,by omega,(let ⟨S',h⟩:=ca2 0 T 3 l.length v (z7 i.2) (by kernel_rfl) hM; ⟨S',_,_,h⟩),rfl⟩) ?_
  refine K9 (fun η=>η 4) 41 3 true (fun x0=>.one (.ag 3 x0)) (fun x0=>j8 x0 ((l.getD i.1 0))) ⟨d6,r5 hS,F5⟩ (fun β η S w hM hw hG hd=>by have e:=(p8 hd 4 : (G9 ((η 4) = .pointer (some (adr v (Int.toNat (i.1 : Int) * 3))))).p S w); simp only at e; rw [e]; exact hG.1.own (av6 (T:=T) (b:=0) (s:=3) (n:=l.length) (v:=v) (cs:=z7 i.2) (by kernel_rfl) hM) bl3.symm hg0) ?_
  refine d7 1 ?_
  refine h_1 (fun x0=>pr (.ag 3 (J8 x0)) (.lit .i64 0)) (fun x0=>aa5 x0 ((l.getD i.1 0 / P7 l)) 0) (fun η=>(by kernel_rfl)) (fun _ _ _ h=>S8 h) (fun β η S w hS hs hw hG hd=>(kx (aq6 (hf _ (hmem hlt')) (ak6 hS (p8 hd 5 : (j8 (η 5) ((l.getD i.1 0))).p S w) hG.2.1 (hl _ (hmem hlt')) (hl _ (List.mem_of_getElem? hp1)) hnum)))) ?_
  refine d7 2 ?_
  refine q6 (fun x0=>.one (.ag 3 x0)) (fun x0=>j8 x0 ((l.getD i.1 0 / P7 l))) (fun β η S w hS hs hw hG hd=>(kx (Y0 hS ((p8 hd 7 : (aa5 (η 7) ((l.getD i.1 0 / P7 l)) 0).p S w)).2))) ?_
  refine bo5 (fun η=>((j8 (η 10) ((l.getD i.1 0 / P7 l))).and ((aa5 (η 7) ((l.getD i.1 0 / P7 l)) 0).and ((j8 (η 5) ((l.getD i.1 0))).and ((G9 ((η 4) = .pointer (some (adr v (Int.toNat (i.1 : Int) * 3))))).and ((bi5 true 3 U8 i.2 (af8 l (P7 l) i.1)).and ((j8 by0 ((P7 l))).and (bi5 true 3 U8 vs l)))))))) (by kernel_rfl) (fun η=>(by kernel_rfl)) ?_
  intro η_1
  refine L7 ⟨d6,r5 hS,F5⟩ (by kernel_rfl) (c22 v l.length (i.1 : Int) 41 3 (by kernel_rfl) ⟨d6,r5 hS,F5⟩ (by omega) (by omega) (fun β S w hM hw hG=>let ⟨S',h⟩:=ca2 0 T 3 l.length v (z7 i.2) (by kernel_rfl) hM; ⟨S',_,_,h⟩) ?_)
  refine L7 ⟨d6,r5 hS,F5⟩ (by kernel_rfl) (d20 (T:=T) (s:=3) (n:=l.length) (cs:=z7 i.2) 0 ((i.1 : Int).toNat * 3) v 3 [.ag 3 (η_1 10)] (z7 (i.2.set i.1 (η_1 10))) (by kernel_rfl) (by kernel_rfl) ⟨d6,r5 hS,F5⟩ (by decide) (by omega) (fun β S w hw hG=>by rw [Int.toNat_natCast,ab9]; exact c98 hG.2.2.2.2.1.lies (by rw [hG.2.2.2.2.1.len,bl3]; exact hlt'))  ?_)
  refine dz8 (ps:=[InR .i64 ((i.1 : Int) + 1)]) ⟨d6,r5 hS,F5⟩ (by kernel_rfl) (by simp only [L5,InR,and_true]; omega) ?_
  exact O5 ((i.1 + 1,i.2.set i.1 (η_1 10))) ⟨d6,r5 hS,F5⟩ hso (by kernel_rfl) (by kernel_rfl) (fun β=>(by kernel_rfl)) (fun β=>(by kernel_rfl)) (by kernel_rfl) (by omega) (by simp only; omega) (fun S w hw hG=>⟨bo2 ⟨trivial,trivial⟩,a91 ⟨trivial,trivial⟩⟩) (fun S w hw hG=>⟨(by rw [b74 hlt']; exact hG.2.2.2.2.1.set hG.1.lies hG.1),hG.2.2.2.2.2⟩)
 refine dk3 ⟨d6,r5 hS,F5⟩ (by kernel_rfl) (by kernel_rfl) ?_
 exact ab6 (.tuple #[]) ⟨d6,r5 hS,F5⟩ (by kernel_rfl) rfl (by kernel_rfl) (fun β=>(by kernel_rfl)) (fun β S w hM hs hw hG=>have ho:=hG.1; ⟨rfl,hw,i.2,av6 (T:=T) (b:=0) (s:=3) (n:=l.length) (v:=v) (cs:=z7 i.2) (by kernel_rfl) hM,by have e : i.1 = l.length:=(by omega); rw [e,co2] at ho; exact ⟨ho.len,ho.lies,fun j a x h1 h2=>(ho.el j a x h1 h2).mono fun k _ hk=>c75 (T:=T) (s:=3) (n:=l.length) (cs:=z7 i.2) 0 (by kernel_rfl) (hs k hk)⟩⟩)
namespace T3
def list (t : T3) : List Rat:=[t.x,t.y,t.z]
theorem lead_list (t : T3) : P7 t.list = t.lead:=by
 unfold P7 lead list O4 O4 O4 O4 al1
 by_cases h1 : t.x = 0
 ·by_cases h2 : t.y = 0
  ·by_cases h3 : t.z = 0
   ·simp [h1,h2,h3]
   simp [h1,h2,h3]
  simp [h1,h2]
 simp [h1]
theorem normal_list (t : T3) : bo6 t.list = t.normal.list:=by
 unfold bo6
 rw [lead_list]
 rfl
theorem fpos_list {t : T3} (h : ¬ t.None) : 0 ≤ O4 al1 t.list 0:=by
 refine af2.1 ?_
 unfold None at h
 by_cases h1 : t.x = 0
 ·by_cases h2 : t.y = 0
  ·exact ⟨t.z,by simp [list],fun h3=>h ⟨h1,h2,h3⟩⟩
  exact ⟨t.y,by simp [list],h2⟩
 exact ⟨t.x,by simp [list],h1⟩
end T3
theorem ag2 {a b c : Value} (ha : K4 true 3 a) (hb : K4 true 3 b) (hc : K4 true 3 c) : (as4 a b c).cells.toList = z7 [a,b,c]:=by
 simp [as4,SV.den,f5,Ch.cells,Value.cells,z7]
theorem TripV.els {S : Nat → Prop} {w : World} {v : Value} {t : T3} (h : TripV S w v t) : ∃ vs,v.cells.toList = z7 vs ∧ ElsV true 3 U8 S w vs t.list:=by
 obtain ⟨a,b,c,rfl,h1,h2,h3⟩:=h
 refine ⟨[a,b,c],ag2 h1.lies h2.lies h3.lies,rfl,fun x hx=>?_,fun i q x hq hx=>?_⟩
 ·simp only [List.mem_cons,List.not_mem_nil,or_false] at hx
  rcases hx with rfl | rfl | rfl
  ·exact h1.lies
  ·exact h2.lies
  exact h3.lies
 match i with
 | 0=>simp [T3.list] at hq hx; subst hq hx; exact h1
 | 1=>simp [T3.list] at hq hx; subst hq hx; exact h2
 | 2=>simp [T3.list] at hq hx; subst hq hx; exact h3
 | i + 3=>simp [T3.list] at hq
theorem TripV.of_els {S : Nat → Prop} {w : World} {vs : List Value} {t : T3} (h : ElsV true 3 U8 S w vs t.list) : ∃ v,TripV S w v t ∧ v.cells.toList = z7 vs:=by
 obtain ⟨h1,h2,h3⟩:=h
 match vs,h1 with
 | [a,b,c],_=>exact ⟨as4 a b c,⟨a,b,c,rfl,h3 0 _ _ rfl rfl,h3 1 _ _ rfl rfl,h3 2 _ _ rfl rfl⟩,ag2 (h2 a (by simp)) (h2 b (by simp)) (h2 c (by simp))⟩
theorem dr6 {S : Nat → Prop} {w : World} {b : Nat} (hS : Up S w) : Gives prog 97 [.pointer (some ⟨b,0,none⟩)] w fun v w'=>v = .slice (some ⟨b,0,none⟩) 3 3 ∧ Ext w w':=by
 refine n7 (E:=env) (S0:=S) (G:=Gh.nil) (l:=[.one (.val (.pointer (some ⟨b,0,none⟩)))]) func97 rfl rfl rfl ⟨rfl,trivial⟩ rfl trivial ?_
 refine o5 (dn6 ⟨b,0,none⟩ (by kernel_rfl) ⟨d6,hS,j6⟩  ?_)
 refine o5 (du6 b 3 (by kernel_rfl) ⟨d6,hS,j6⟩  ?_)
 exact n8 (.slice (some ⟨b,0,none⟩) 3 3) rfl (fun S w hs hw hG=>⟨rfl,hw⟩)
theorem b94 {S : Nat → Prop} {w : World} {v : Value} {t : T3} {β : Nat → Nat} {m : Nat} (hS : Up S w) (h : TripV S w v t) (hB : Blk w (β 0) 43 (f5 β [.ag 9 v])) (hb : ¬ S (β 0)) (hn : ¬ t.None) (hl : tl t 400000000000) (hf : R1 t.normal.x ∧ R1 t.normal.y ∧ R1 t.normal.z) :
  Gives prog 131 [.slice (some ⟨β 0,0,none⟩) 3 3] w fun r w'=>Wrt (β 0) w w' ∧ ∃ x,r = SV.und.den β ∧ SV.und.Ok m ∧ True ∧ Blk w' (β 0) 43 (f5 β [.ag 9 x]) ∧ (∀ ch ∈ [Ch.ag 9 x],ch.Ok m) ∧ (q7 x t.normal).p S w':=by
 obtain ⟨vs,e1,e2⟩:=h.els
 rw [ab9,e1] at hB
 have ho : Own 0 43 3 w (.slice (some ⟨β 0,0,none⟩) 3 3) 3 (z7 vs):=ao2 hB (Nat.zero_le _) (by decide) (by rw [L6 e2.lies,e2.len]; rfl)
 have he : P7 t.list = t.lead:=T3.lead_list t
 refine (cr6 (T:=43) hS ho e2 (fun k hk e=>hb (by cases e; exact hk)) (fun x hx=>?_) (fun x hx=>?_) (T3.fpos_list hn)).mono ?_
 ·simp only [T3.list,List.mem_cons,List.not_mem_nil,or_false] at hx
  rcases hx with rfl | rfl | rfl
  ·exact hl.1
  ·exact hl.2.1
  exact hl.2.2
 ·rw [he]
  simp only [T3.list,List.mem_cons,List.not_mem_nil,or_false] at hx
  rcases hx with rfl | rfl | rfl
  ·exact hf.1
  ·exact hf.2.1
  exact hf.2.2
 rintro r w' ⟨rfl,k,vs',h1,h2⟩
 rw [T3.normal_list] at h2
 obtain ⟨x',h3,h4⟩:=TripV.of_els h2
 exact ⟨k.mono fun i hi e=>hi (by cases e; rfl),x',rfl,trivial,trivial,by rw [ab9,h4]; exact db5 h1,fun c hc=>by rw [List.mem_singleton.1 hc]; exact Ch.Ok.up (c:=.ag 9 x') h3.ok,h3⟩
theorem ct9 {S : Nat → Prop} {w : World} {v : Value} {t : T3} (hS : Up S w) (h : TripV S w v t) (hnn : ¬ t.None) (hl : tl t 400000000000) (hf : R1 t.normal.x ∧ R1 t.normal.y ∧ R1 t.normal.z) :
  Gives prog 96 [v,.func (.func 97) #[] #[]] w fun v' w'=>Ext w w' ∧ TripV S w' v' t.normal:=by
 refine n7 (E:=env) (S0:=S) (G:=(q7 v (t))) (l:=[.one (.ag 9 v),.one (.fn 97 [])]) func96 rfl rfl rfl ⟨h.ok,(fun _ h=>by cases h),trivial⟩ rfl h ?_
 refine d62 (.one (.win 0 0 3 3)) ⟨d6,hS,j6⟩ (by kernel_rfl) (by kernel_rfl) (Nat.le_of_ble_eq_true (by kernel_rfl)) (fun β S w hS hM hs hw hG=>(kx (dr6 hS))) ?_
 refine o5 (df5 131 0 43 ([.ag 9 v]) ⟨d6,hS,j6⟩ (by kernel_rfl) (fun _=>.und) (fun x0=>[.ag 9 x0]) (fun _=>True) (fun x0=>q7 x0 (t.normal)) (by kernel_rfl) (fun β S w hS hs hw hG hB hn=>(kx (b94 hS hG hB hn hnn hl hf))) ?_)
 intro x _
 exact n8 (x) rfl (fun S w hs hw hG=>⟨hw,hG.1.mono fun k _ hk=>hs k hk⟩)
theorem a02 {S : Nat → Prop} {w : World} {v : Value} {t : T3} (hS : Up S w) (h : TripV S w v t) (hnn : ¬ t.None) (hl : tl t 400000000000) (hf : R1 t.normal.x ∧ R1 t.normal.y ∧ R1 t.normal.z) :
  Gives prog 41 [v] w fun v' w'=>Ext w w' ∧ TripV S w' v' t.normal:=by
 refine n7 (E:=env) (S0:=S) (G:=(q7 v (t))) (l:=[.one (.ag 9 v)]) func41 rfl rfl rfl ⟨h.ok,trivial⟩ rfl h ?_
 refine G3 (fun x0=>.one (.ag 9 x0)) (fun x0=>q7 x0 (t.normal)) (fun β S w hS hs hw hG=>(kx (ct9 hS hG hnn hl hf))) ?_
 intro x
 exact n8 (x) rfl (fun S w hs hw hG=>⟨hw,hG.1.mono fun k _ hk=>hs k hk⟩)
theorem bp1 {t : T3} {n : Nat} (h : tl t n) (hn : n ≤ 3344) : R1 t.x ∧ R1 t.y ∧ R1 t.z:=⟨Q7 h.1 hn,Q7 h.2.1 hn,Q7 h.2.2 hn⟩
theorem cm9 {S : Nat → Prop} {w : World} {vp vq : Value} {p q : T3} {m n k : Nat} (hS : Up S w) (hp : TripV S w vp p) (hq : TripV S w vq q) (hm : tl p m) (hn : tl q n) (hmn : 2 * (m + n + 1) + 1 ≤ 3344) (hk : tl (p.cross q).normal k) (hk2 : k ≤ 3344) (hs0 : ¬ T3.Same p q) :
  Gives prog 50 [vp,vq] w fun v' w'=>Ext w w' ∧ TripV S w' v' (p.cross q).normal:=by
 refine n7 (E:=env) (S0:=S) (G:=((q7 vp (p)).and (q7 vq (q)))) (l:=[.one (.ag 9 vp),.one (.ag 9 vq)]) func50 rfl rfl rfl ⟨hp.ok,hq.ok,trivial⟩ rfl ⟨hp,hq⟩ ?_
 refine G3 (fun x0=>.one (.ag 9 x0)) (fun x0=>q7 x0 ((p.cross q))) (fun β S w hS hs hw hG=>(kx (Q4 hS hG.1 hG.2 hm hn hmn))) ?_
 intro c
 refine A3 (.one (.tp (p.cross q).None)) rfl (fun β S w hS hs hw hG=>(kx (az1 hS hG.1))) ?_
 refine Z8 (p:=(p.cross q).None) (hs0) ?_
 refine G3 (fun x0=>.one (.ag 9 x0)) (fun x0=>q7 x0 ((p.cross q).normal)) (fun β S w hS hs hw hG=>(kx (a02 hS hG.1 hs0 (G6 (y6 hm hn) (by omega)) (bp1 hk hk2)))) ?_
 intro r
 exact n8 (r) rfl (fun S w hs hw hG=>⟨hw,hG.1.mono fun k _ hk=>hs k hk⟩)
theorem cr0 {S : Nat → Prop} {w : World} {vp vq : Value} {p q : T3} {m n : Nat} (hS : Up S w) (hp : TripV S w vp p) (hq : TripV S w vq q) (hm : tl p m) (hn : tl q n) (hmn : 2 * (m + n + 1) + 1 ≤ 3344) (hs0 : T3.Same p q) :
  Pan prog 50 [vp,vq] w (H0 61):=by
 refine H2 (E:=env) (S0:=S) (G:=((q7 vp (p)).and (q7 vq (q)))) (l:=[.one (.ag 9 vp),.one (.ag 9 vq)]) func50 rfl rfl rfl ⟨hp.ok,hq.ok,trivial⟩ rfl ⟨hp,hq⟩ ?_
 refine G3 (fun x0=>.one (.ag 9 x0)) (fun x0=>q7 x0 ((p.cross q))) (fun β S w hS hs hw hG=>(kx (Q4 hS hG.1 hG.2 hm hn hmn))) ?_
 intro c
 refine A3 (.one (.tp (p.cross q).None)) rfl (fun β S w hS hs hw hG=>(kx (az1 hS hG.1))) ?_
 refine U9 (p:=(p.cross q).None) (hs0) ?_
 exact a67 (fun β S w hS hs hw hG=>(kx (K5 (aa0 (e:=61)) hw)))
open Classical in
noncomputable def A6 (t : T3) : Int:=if Z6 t.list then 60 else if Z7 t.list then 11 else 0
open Classical in
noncomputable def B4 : List T3 → Int
 | []=>0
 | t :: r=>if A6 t = 0 then B4 r else A6 t
abbrev at5 (x : Value) (t : T3) : Gh:=q7 x t
abbrev ch6 (v : Value) (l : List T3) : Gh:=bt5 true 9 at5 v l
theorem bp5 {base : Bs} {hp : List HE} {β : Nat → Nat} {S : Nat → Prop} {w : World} {x : Value} {t : T3} (i : Nat) (T : TypeId) (hM : Mem base hp β w) (hb : nth hp i = some (.blk T [.ag 9 x])) (h : TripV S w x t) :
  SeqV true 3 U8 (fun k=>S k ∨ some k = Value.ownBlock (.slice (some ⟨β i,0,none⟩) 3 3)) w (.slice (some ⟨β i,0,none⟩) 3 3) t.list:=by
 rw [M1] at hb
 have hB:=(hM.blk i T _ hb).1
 obtain ⟨vs,e1,e2⟩:=h.els
 rw [ab9,e1] at hB
 exact e2.seq (ao2 hB (Nat.zero_le _) (by decide) (by rw [L6 e2.lies,e2.len]; rfl)) rfl
theorem aa1 {t : T3} {n : Nat} (h : tl t n) : ∀ x ∈ t.list,rl x n:=by
 intro x hx
 simp only [T3.list,List.mem_cons,List.not_mem_nil,or_false] at hx
 rcases hx with rfl | rfl | rfl
 ·exact h.1
 ·exact h.2.1
 exact h.2.2
theorem bg8 {t : T3} (h : A6 t = 0) : ¬ Z6 t.list ∧ ¬ Z7 t.list:=by
 unfold A6 at h
 split at h
 ·cases h
 split at h
 ·cases h
 exact ⟨‹_›,‹_›⟩
theorem cd4 {S : Nat → Prop} {w : World} {v : Value} {t : T3} (ht : Tab w) (hS : Up S w) (h : SeqV true 3 U8 S w v t.list) (hl : tl t 1000000) (hb : A6 t ≠ 0) : Pan prog 95 [v] w (H0 (A6 t)):=by
 unfold A6 at hb ⊢
 split
 ·exact bc4 hS h ‹_›
 rw [if_neg ‹_›] at hb
 split
 ·exact bb7 ht hS h (aa1 hl) ‹_› ‹_›
 rw [if_neg ‹_›] at hb
 exact absurd rfl hb
theorem T3.getD_at {l : List T3} {j : Nat} (h : j < l.length) : l[j]? = some (l.getD j ⟨0,0,0⟩):=by rw [List.getD_eq_getElem?_getD,List.getElem?_eq_getElem h]; rfl
theorem R8 {S : Nat → Prop} {w : World} {v : Value} {l : List T3} (ht : Tab w) (hS : Up S w) (h : SeqV true 9 at5 S w v l) (hl : ∀ t ∈ l,tl t 1000000) (hk : ∀ t ∈ l,A6 t = 0) : Gives prog 40 [v] w fun v' w'=>v' = .tuple #[] ∧ Ext w w':=by
 have hmx:=h.len_le
 unfold maxLen at hmx
 refine n7 (E:=env) (S0:=S) (G:=(ch6 v l)) (l:=[.one (.sl v l.length)]) func40 rfl rfl rfl ⟨h.sl,trivial⟩ rfl h ?_
 refine Q6 (ι:=Nat) [(3,3),(6,12)] (fun j=>[(6,.one (.int .i64 (j : Int)))]) (fun _=>[]) (fun j=>(ch6 v l)) (fun j=>j ≤ l.length) (fun j=>l.length - j) (0) (Nat.zero_le _) (fun S w hw hG=>⟨x9 rfl,fun p hp=>by cases hp⟩) (fun S w hw hG=>hG) (fun hso j hj=>?_)
 refine W0 (p:=(j : Int) < (l.length : Int)) (fun hlt=>?_) (fun hlt=>?_)
 ·have hlt' : j < l.length:=by omega
  have hx0:=T3.getD_at hlt'
  have hm:=List.mem_of_getElem? hx0
  refine o5 (at0 v l.length (j : Int) 43 9 (fun u0=>atG true 9 (fun x0=>q7 x0 ((l.getD j ⟨0,0,0⟩))) u0) (by kernel_rfl) ⟨d6,hS,j6⟩ (fun β S w hM hw hG=>hG.el rfl rfl hx0) ?_)
  intro u_1
  refine o5 (a25 u_1 43 9 true (fun x0=>.one (.ag 9 x0)) (fun x0=>q7 x0 ((l.getD j ⟨0,0,0⟩))) (by kernel_rfl) ⟨d6,hS,j6⟩ (fun S w hw hG=>hG.1) (fun _ _ _ h=>⟨h.ok,rfl⟩) ?_)
  intro x
  refine K7 (.und) rfl (fun β S w hS hM hs hw hG=>(kx (ar4 (ht.to hw) (r5 hS) (bp5 0 43 hM (by kernel_rfl) hG.1) (aa1 (hl _ hm)) (bg8 (hk _ hm)).1 (bg8 (hk _ hm)).2))) ?_
  refine aj3 (ps:=[InR .i64 ((j : Int) + 1)]) (by simp only [L5,InR,and_true]; omega) ?_
  exact O5 (j + 1) ⟨d6,hS,j6⟩ hso (by kernel_rfl) (by kernel_rfl) (fun β=>(by kernel_rfl)) (fun β=>(by kernel_rfl)) (by kernel_rfl) (by omega) (by omega) (fun S w hw hG=>⟨x9 rfl,fun p hp=>by cases hp⟩) (fun S w hw hG=>hG.2.2)
 refine S9 ?_
 exact n8 (.tuple #[]) rfl (fun S w hs hw hG=>⟨rfl,hw⟩)
theorem ap5 {S : Nat → Prop} {w : World} {v : Value} {l : List T3} {n : Nat} (ht : Tab w) (hS : Up S w) (h : SeqV true 9 at5 S w v l) (hl : ∀ t ∈ l,tl t 1000000) (hn : n < l.length) (hb : A6 (l.getD n ⟨0,0,0⟩) ≠ 0) (hk : ∀ i,i < n → A6 (l.getD i ⟨0,0,0⟩) = 0) : Pan prog 40 [v] w (H0 (A6 (l.getD n ⟨0,0,0⟩))):=by
 have hmx:=h.len_le
 unfold maxLen at hmx
 refine H2 (E:=env) (S0:=S) (G:=(ch6 v l)) (l:=[.one (.sl v l.length)]) func40 rfl rfl rfl ⟨h.sl,trivial⟩ rfl h ?_
 refine Q6 (ι:=Nat) [(3,3),(6,12)] (fun j=>[(6,.one (.int .i64 (j : Int)))]) (fun _=>[]) (fun j=>(ch6 v l)) (fun j=>j ≤ n) (fun j=>n - j) (0) (Nat.zero_le _) (fun S w hw hG=>⟨x9 rfl,fun p hp=>by cases hp⟩) (fun S w hw hG=>hG) (fun hso j hj=>?_)
 have hlt' : j < l.length:=by omega
 refine U9 (p:=(j : Int) < (l.length : Int)) (by omega) ?_
 have hx0:=T3.getD_at hlt'
 have hm:=List.mem_of_getElem? hx0
 refine o5 (at0 v l.length (j : Int) 43 9 (fun u0=>atG true 9 (fun x0=>q7 x0 ((l.getD j ⟨0,0,0⟩))) u0) (by kernel_rfl) ⟨d6,hS,j6⟩ (fun β S w hM hw hG=>hG.el rfl rfl hx0) ?_)
 intro u_1
 refine o5 (a25 u_1 43 9 true (fun x0=>.one (.ag 9 x0)) (fun x0=>q7 x0 ((l.getD j ⟨0,0,0⟩))) (by kernel_rfl) ⟨d6,hS,j6⟩ (fun S w hw hG=>hG.1) (fun _ _ _ h=>⟨h.ok,rfl⟩) ?_)
 intro x
 by_cases e : j = n
 ·subst e
  exact a66 ⟨d6,hS,j6⟩ (by kernel_rfl) (by kernel_rfl) (fun β S w hS hM hs hw hG=>(kx (bt1 (cd4 (ht.to hw) (r5 hS) (bp5 0 43 hM (by kernel_rfl) hG.1) (hl _ hm) hb) (fun w' hk' ρ=>⟨rfl,hw.trans hk'⟩))))
 have hj0:=bg8 (hk j (by omega))
 refine K7 (.und) rfl (fun β S w hS hM hs hw hG=>(kx (ar4 (ht.to hw) (r5 hS) (bp5 0 43 hM (by kernel_rfl) hG.1) (aa1 (hl _ hm)) hj0.1 hj0.2))) ?_
 refine aj3 (ps:=[InR .i64 ((j : Int) + 1)]) (by simp only [L5,InR,and_true]; omega) ?_
 exact O5 (j + 1) ⟨d6,hS,j6⟩ hso (by kernel_rfl) (by kernel_rfl) (fun β=>(by kernel_rfl)) (fun β=>(by kernel_rfl)) (by kernel_rfl) (by omega) (by omega) (fun S w hw hG=>⟨x9 rfl,fun p hp=>by cases hp⟩) (fun S w hw hG=>hG.2.2)
abbrev B3 (u : Value) (t : T3) : Gh:=atG true 9 (fun x=>q7 x t) u
theorem af7 {β : Nat → Nat} {n : Nat} : ∀ {vs : List Value},f5 β (vs.map (Ch.ag n)) = z7 vs:=by
 intro vs
 induction vs with
 | nil=>rfl
 | cons x r ih=>simp only [f5,z7,List.map_cons,List.flatMap_cons,Ch.cells] at ih ⊢; rw [ih]
theorem D1 {α : Type} {base : Bs} {hp : List HE} {β : Nat → Nat} {g : Bool} {s : Nat} {F : Value → α → Gh} {S : Nat → Prop} {w : World} {l : List α} (i : Nat) (T : TypeId) (vs : List Value) (hM : Mem base hp β w) (hb : nth hp i = some (.blk T (vs.map (Ch.ag s)))) (h : ElsV g s F S w vs l) (hl : l.length ≤ maxLen) :
  SeqV g s F (fun k=>S k ∨ some k = Value.ownBlock (.slice (some ⟨β i,0,none⟩) l.length l.length)) w (.slice (some ⟨β i,0,none⟩) l.length l.length) l:=by
 rw [M1] at hb
 have hB:=(hM.blk i T _ hb).1
 rw [af7] at hB
 exact h.seq (ao2 hB (Nat.zero_le _) hl (by rw [L6 h.lies,h.len])) rfl
theorem TripV.lies {S : Nat → Prop} {w : World} {v : Value} {t : T3} (h : TripV S w v t) : K4 true 9 v := by
  obtain ⟨a, b, c, rfl, h1, h2, h3⟩ := h
  have e := ag2 h1.lies h2.lies h3.lies
  refine ⟨by rw [e, L6 (g := true) (s := 3) (vs := [a, b, c])]; · rfl
             · intro x hx
               simp only [List.mem_cons, List.not_mem_nil, or_false] at hx
               rcases hx with rfl | rfl | rfl
               · exact h1.lies
               · exact h2.lies
               · exact h3.lies, ?_⟩
  simp [as4, SV.den, Value.cells]
theorem c40 {S : Nat → Prop} {w : World} {a b : Value} {p q : T3} (h1 : TripV S w a p) (h2 : TripV S w b q) : ElsV true 9 at5 S w [a,b] [p,q]:=by
 refine ⟨rfl,fun x hx=>?_,fun i t x hq hx=>?_⟩
 ·simp only [List.mem_cons,List.not_mem_nil,or_false] at hx
  rcases hx with rfl | rfl
  ·exact h1.lies
  exact h2.lies
 match i with
 | 0=>simp at hq hx; subst hq hx; exact h1
 | 1=>simp at hq hx; subst hq hx; exact h2
 | i + 2=>simp at hq
theorem bp4 {p q : T3} {P : T3 → Prop} (h1 : P p) (h2 : P q) : ∀ t ∈ [p,q],P t:=by
 intro t ht
 simp only [List.mem_cons,List.not_mem_nil,or_false] at ht
 rcases ht with rfl | rfl
 ·exact h1
 exact h2
theorem cu8 {S : Nat → Prop} {w : World} {u1 u2 : Value} {p q : T3} {m n k : Nat} (ht : Tab w) (hS : Up S w) (o1 : u1.oneCell' = true) (o2 : u2.oneCell' = true) (h1 : (B3 u1 p).p S w) (h2 : (B3 u2 q).p S w) (hm : tl p m) (hn : tl q n) (hmn : 2 * (m + n + 1) + 1 ≤ 3344) (hk : tl (p.cross q).normal k) (hk2 : k ≤ 3344)
  (hp0 : A6 p = 0) (hq0 : A6 q = 0) (hs0 : ¬ T3.Same p q) :
  Gives prog 49 [u1,u2] w fun v' w'=>Ext w w' ∧ TripV S w' v' (p.cross q).normal:=by
 refine n7 (E:=env) (S0:=S) (G:=((B3 u1 p).and (B3 u2 q))) (l:=[.one (.val u1),.one (.val u2)]) func49 rfl rfl rfl ⟨o1,o2,trivial⟩ rfl ⟨h1,h2⟩ ?_
 refine o5 (r6 u1 43 9 true (fun x0=>.one (.ag 9 x0)) (fun x0=>q7 x0 (p)) (fun β S w hM hw hG=>let ⟨y,e1,e2,e3⟩:=hG.1; ⟨S,y,e1,e2,e3⟩) ?_)
 intro x
 refine o5 (r6 u2 43 9 true (fun x0=>.one (.ag 9 x0)) (fun x0=>q7 x0 (q)) (fun β S w hM hw hG=>let ⟨y,e1,e2,e3⟩:=hG.2.2; ⟨S,y,e1,e2,e3⟩) ?_)
 intro y
 refine K7 (.und) rfl (fun β S w hS hM hs hw hG=>(kx (R8 (ht.to hw) (r5 hS) (D1 1 43 [x,y] hM (by kernel_rfl) (c40 hG.2.1 hG.1) (show 2 ≤ maxLen by decide)) (bp4 (G6 hm (by omega)) (G6 hn (by omega))) (bp4 hp0 hq0)))) ?_
 refine o5 (r6 u1 43 9 true (fun x0=>.one (.ag 9 x0)) (fun x0=>q7 x0 (p)) (fun β S w hM hw hG=>let ⟨y,e1,e2,e3⟩:=hG.2.2.1; ⟨S,y,e1,e2,e3⟩) ?_)
 intro x2
 refine o5 (r6 u2 43 9 true (fun x0=>.one (.ag 9 x0)) (fun x0=>q7 x0 (q)) (fun β S w hM hw hG=>let ⟨y,e1,e2,e3⟩:=hG.2.2.2.2; ⟨S,y,e1,e2,e3⟩) ?_)
 intro y2
 refine G3 (fun x0=>.one (.ag 9 x0)) (fun x0=>q7 x0 ((p.cross q).normal)) (fun β S w hS hs hw hG=>(kx (cm9 hS hG.2.1 hG.1 hm hn hmn hk hk2 hs0))) ?_
 intro r
 exact n8 (r) rfl (fun S w hs hw hG=>⟨hw,hG.1.mono fun k _ hk=>hs k hk⟩)
theorem cz1 {S : Nat → Prop} {w : World} {u1 u2 : Value} {p q : T3} {m n : Nat} (ht : Tab w) (hS : Up S w) (o1 : u1.oneCell' = true) (o2 : u2.oneCell' = true) (h1 : (B3 u1 p).p S w) (h2 : (B3 u2 q).p S w) (hm : tl p m) (hn : tl q n) (hmn : 2 * (m + n + 1) + 1 ≤ 3344)
  (hp0 : A6 p = 0) (hq0 : A6 q = 0) (hs0 : T3.Same p q) :
  Pan prog 49 [u1,u2] w (H0 61):=by
 refine H2 (E:=env) (S0:=S) (G:=((B3 u1 p).and (B3 u2 q))) (l:=[.one (.val u1),.one (.val u2)]) func49 rfl rfl rfl ⟨o1,o2,trivial⟩ rfl ⟨h1,h2⟩ ?_
 refine o5 (r6 u1 43 9 true (fun x0=>.one (.ag 9 x0)) (fun x0=>q7 x0 (p)) (fun β S w hM hw hG=>let ⟨y,e1,e2,e3⟩:=hG.1; ⟨S,y,e1,e2,e3⟩) ?_)
 intro x
 refine o5 (r6 u2 43 9 true (fun x0=>.one (.ag 9 x0)) (fun x0=>q7 x0 (q)) (fun β S w hM hw hG=>let ⟨y,e1,e2,e3⟩:=hG.2.2; ⟨S,y,e1,e2,e3⟩) ?_)
 intro y
 refine K7 (.und) rfl (fun β S w hS hM hs hw hG=>(kx (R8 (ht.to hw) (r5 hS) (D1 1 43 [x,y] hM (by kernel_rfl) (c40 hG.2.1 hG.1) (show 2 ≤ maxLen by decide)) (bp4 (G6 hm (by omega)) (G6 hn (by omega))) (bp4 hp0 hq0)))) ?_
 refine o5 (r6 u1 43 9 true (fun x0=>.one (.ag 9 x0)) (fun x0=>q7 x0 (p)) (fun β S w hM hw hG=>let ⟨y,e1,e2,e3⟩:=hG.2.2.1; ⟨S,y,e1,e2,e3⟩) ?_)
 intro x2
 refine o5 (r6 u2 43 9 true (fun x0=>.one (.ag 9 x0)) (fun x0=>q7 x0 (q)) (fun β S w hM hw hG=>let ⟨y,e1,e2,e3⟩:=hG.2.2.2.2; ⟨S,y,e1,e2,e3⟩) ?_)
 intro y2
 exact a67 (fun β S w hS hs hw hG=>(kx (K5 (cr0 hS hG.2.1 hG.1 hm hn hmn hs0) hw)))
noncomputable def M8 (p q : T3) : Int:=if A6 p = 0 then A6 q else A6 p
theorem bc9 {S : Nat → Prop} {w : World} {v : Value} {p q : T3} (ht : Tab w) (hS : Up S w) (h : SeqV true 9 at5 S w v [p,q]) (hm : tl p 1000000) (hn : tl q 1000000) (hb : M8 p q ≠ 0) : Pan prog 40 [v] w (H0 (M8 p q)):=by
 unfold M8 at hb ⊢
 split
 ·rename_i e
  rw [if_pos e] at hb
  exact ap5 (n:=1) ht hS h (bp4 hm hn) (show 1 < 2 by decide) hb (fun i hi=>by
   obtain rfl : i = 0:=by omega
   exact e)
 rename_i e
 exact ap5 (n:=0) ht hS h (bp4 hm hn) (show 0 < 2 by decide) e (fun i hi=>by omega)
theorem ct7 {S : Nat → Prop} {w : World} {u1 u2 : Value} {p q : T3} (ht : Tab w) (hS : Up S w) (o1 : u1.oneCell' = true) (o2 : u2.oneCell' = true) (h1 : (B3 u1 p).p S w) (h2 : (B3 u2 q).p S w) (hm : tl p 1000000) (hn : tl q 1000000) (hb : M8 p q ≠ 0) :
  Pan prog 49 [u1,u2] w (H0 (M8 p q)):=by
 refine H2 (E:=env) (S0:=S) (G:=((B3 u1 p).and (B3 u2 q))) (l:=[.one (.val u1),.one (.val u2)]) func49 rfl rfl rfl ⟨o1,o2,trivial⟩ rfl ⟨h1,h2⟩ ?_
 refine o5 (r6 u1 43 9 true (fun x0=>.one (.ag 9 x0)) (fun x0=>q7 x0 (p)) (fun β S w hM hw hG=>let ⟨y,e1,e2,e3⟩:=hG.1; ⟨S,y,e1,e2,e3⟩) ?_)
 intro x
 refine o5 (r6 u2 43 9 true (fun x0=>.one (.ag 9 x0)) (fun x0=>q7 x0 (q)) (fun β S w hM hw hG=>let ⟨y,e1,e2,e3⟩:=hG.2.2; ⟨S,y,e1,e2,e3⟩) ?_)
 intro y
 exact a66 ⟨d6,hS,j6⟩ (by kernel_rfl) (by kernel_rfl) (fun β S w hS hM hs hw hG=>(kx (K5 (bc9 (ht.to hw) (r5 hS) (D1 1 43 [x,y] hM (by kernel_rfl) (c40 hG.2.1 hG.1) (show 2 ≤ maxLen by decide)) hm hn hb) hw)))
theorem do3 {S : Nat → Prop} {w : World} {u1 u2 : Value} {p q : T3} {m n : Nat} (ht : Tab w) (hS : Up S w) (o1 : u1.oneCell' = true) (o2 : u2.oneCell' = true) (h1 : (B3 u1 p).p S w) (h2 : (B3 u2 q).p S w) (hm : tl p m) (hn : tl q n) (hmn : 3 * (m + n + 1) + 1 ≤ 3344) (hp0 : A6 p = 0) (hq0 : A6 q = 0) :
  Gives prog 52 [u1,u2] w fun v' w'=>v' = .bool (tst (p.dot q = 0)) ∧ Ext w w':=by
 refine n7 (E:=env) (S0:=S) (G:=((B3 u1 p).and (B3 u2 q))) (l:=[.one (.val u1),.one (.val u2)]) func52 rfl rfl rfl ⟨o1,o2,trivial⟩ rfl ⟨h1,h2⟩ ?_
 refine o5 (r6 u1 43 9 true (fun x0=>.one (.ag 9 x0)) (fun x0=>q7 x0 (p)) (fun β S w hM hw hG=>let ⟨y,e1,e2,e3⟩:=hG.1; ⟨S,y,e1,e2,e3⟩) ?_)
 intro x
 refine o5 (r6 u2 43 9 true (fun x0=>.one (.ag 9 x0)) (fun x0=>q7 x0 (q)) (fun β S w hM hw hG=>let ⟨y,e1,e2,e3⟩:=hG.2.2; ⟨S,y,e1,e2,e3⟩) ?_)
 intro y
 refine K7 (.und) rfl (fun β S w hS hM hs hw hG=>(kx (R8 (ht.to hw) (r5 hS) (D1 0 43 [x,y] hM (by kernel_rfl) (c40 hG.2.1 hG.1) (show 2 ≤ maxLen by decide)) (bp4 (G6 hm (by omega)) (G6 hn (by omega))) (bp4 hp0 hq0)))) ?_
 refine o5 (r6 u1 43 9 true (fun x0=>.one (.ag 9 x0)) (fun x0=>q7 x0 (p)) (fun β S w hM hw hG=>let ⟨y,e1,e2,e3⟩:=hG.2.2.1; ⟨S,y,e1,e2,e3⟩) ?_)
 intro x2
 refine o5 (r6 u2 43 9 true (fun x0=>.one (.ag 9 x0)) (fun x0=>q7 x0 (q)) (fun β S w hM hw hG=>let ⟨y,e1,e2,e3⟩:=hG.2.2.2.2; ⟨S,y,e1,e2,e3⟩) ?_)
 intro y2
 refine G3 (fun x0=>.one (.ag 3 x0)) (fun x0=>j8 x0 ((p.dot q))) (fun β S w hS hs hw hG=>(kx (a12 hS hG.2.1 hG.1 hm hn hmn))) ?_
 intro r
 refine A3 (.one (.tp (p.dot q = 0))) rfl (fun β S w hS hs hw hG=>(kx (D6 hS hG.1))) ?_
 exact n8 (.bool (tst (p.dot q = 0))) rfl (fun S w hs hw hG=>⟨rfl,hw⟩)
theorem dp3 {S : Nat → Prop} {w : World} {u1 u2 : Value} {p q : T3} (ht : Tab w) (hS : Up S w) (o1 : u1.oneCell' = true) (o2 : u2.oneCell' = true) (h1 : (B3 u1 p).p S w) (h2 : (B3 u2 q).p S w) (hm : tl p 1000000) (hn : tl q 1000000) (hb : M8 p q ≠ 0) :
  Pan prog 52 [u1,u2] w (H0 (M8 p q)):=by
 refine H2 (E:=env) (S0:=S) (G:=((B3 u1 p).and (B3 u2 q))) (l:=[.one (.val u1),.one (.val u2)]) func52 rfl rfl rfl ⟨o1,o2,trivial⟩ rfl ⟨h1,h2⟩ ?_
 refine o5 (r6 u1 43 9 true (fun x0=>.one (.ag 9 x0)) (fun x0=>q7 x0 (p)) (fun β S w hM hw hG=>let ⟨y,e1,e2,e3⟩:=hG.1; ⟨S,y,e1,e2,e3⟩) ?_)
 intro x
 refine o5 (r6 u2 43 9 true (fun x0=>.one (.ag 9 x0)) (fun x0=>q7 x0 (q)) (fun β S w hM hw hG=>let ⟨y,e1,e2,e3⟩:=hG.2.2; ⟨S,y,e1,e2,e3⟩) ?_)
 intro y
 exact a66 ⟨d6,hS,j6⟩ (by kernel_rfl) (by kernel_rfl) (fun β S w hS hM hs hw hG=>(kx (K5 (bc9 (ht.to hw) (r5 hS) (D1 0 43 [x,y] hM (by kernel_rfl) (c40 hG.2.1 hG.1) (show 2 ≤ maxLen by decide)) hm hn hb) hw)))
def ah0 : List Value:=[.bool false,.slice none 0 0,.slice none 0 0,.bool false,.slice none 0 0,.slice none 0 0,.bool false,.slice none 0 0,.slice none 0 0]
theorem bk6 : ∀ v ∈ ah0,v.oneCell' = true:=by
 intro v hv
 simp only [ah0,List.mem_cons,List.not_mem_nil,or_false] at hv
 rcases hv with rfl | rfl | rfl | rfl | rfl | rfl | rfl | rfl | rfl <;> rfl
theorem bx4 {w : World} {g1 g2 : Nat} : GivesD prog 94 [.pointer (some ⟨g1,0,none⟩),.pointer (some ⟨g2,0,none⟩)] .returning w fun u' w'=>u' = .returning ∧ w' = w:=by
 refine H3 func94 rfl rfl rfl rfl rfl (.inl ⟨rfl,rfl,rfl⟩) ?_
 repeat (first | refine V0 rfl ?_ | refine b6 ?_ | refine b7 ?_ | refine c0 ?_ | refine b8 ?_ | refine c8 ?_ | refine wp_skip ?_ | refine wp_cond_false rfl ?_)
 exact ⟨[],rfl,rfl,rfl⟩
theorem b45 {w : World} {g1 g2 : Nat} {cs1 : List Value} {e : Value} {E : Int} (h1 : Blk w g1 43 cs1) (hl : cs1.length = 9) (h2 : Blk w g2 44 [e]) :
  GivesD prog 94 [.pointer (some ⟨g1,0,none⟩),.pointer (some ⟨g2,0,none⟩)] (.panicking (H0 E)) w fun u' w'=>settle u' = .returning ∧
   Keeps (fun k=>k ≠ g1 ∧ k ≠ g2) w w' ∧ Blk w' g1 43 ah0 ∧ Blk w' g2 44 [.int .i64 E]:=by
 have hne : g1 ≠ g2:=h1.ne h2 (by decide)
 refine H3 func94 rfl rfl rfl rfl rfl (.inr ⟨_,rfl,rfl,rfl⟩) ?_
 repeat (first | refine ae0 rfl ?_ | refine av2 rfl ?_ | refine b6 ?_ | refine b7 ?_ | refine c0 ?_ | refine b8 ?_ | refine c8 ?_ | refine B2 rfl rfl ?_ | refine wp_cond_true rfl ?_)
 refine q8 (cs:=[.int .i64 0]) rfl ?_
 intro w1 g3 k1 hg3 hgs3
 have hl1:=h1.lt
 have hl2:=h2.lt
 refine A9 (us:=[.int .i64 E]) rfl (by conv=>(lhs; whnf)) rfl rfl hg3 rfl (fun v hv=>by rw [List.mem_singleton.1 hv]; rfl) ?_
 intro w2 k2 hg32
 repeat (first | refine av3 rfl ?_ | refine b6 ?_ | refine d8 ?_ | refine b7 ?_ | refine c0 ?_ | refine b9 ?_ | refine b8 ?_ | refine c8 ?_ | refine wp_skip ?_ | refine wp_cond_false rfl ?_)
 refine q8 (cs:=ah0) rfl ?_
 intro w3 g5 k3 hg5 hgs5
 have k : Ext w w3:=(Keeps.past k1 k2 hgs3).trans k3
 have hg33:=hg32.to k3
 have hl3:=hg32.lt
 repeat (first | refine b8 ?_ | refine c8 ?_)
 refine ap2 (R:=OneW g1 43 cs1 ah0) 4 OneW.trans OneW.drew (by kernel_rfl) (by kernel_rfl) ?_
 apply F7
 ·intro x w1 k1 hd
  refine o9 rfl (hg5.wr k1.1 (by omega)) rfl ?_
  refine b8 ?_
  exact R5 OneW.refl
 apply F7
 ·intro x w1 k1 hd
  refine j5 rfl ?_
  refine b8 ?_
  exact R5 OneW.refl
 apply F7
 ·intro x w1 k1 hd
  refine i1 rfl (hg33.wr k1.1 (by omega)) rfl ?_
  refine b8 ?_
  exact R5 OneW.refl
 refine F7 (e:=EntR.of (fun v w=>Blk w g1 43 ah0) (fun v w w' h k=>k.2.2 h)) ?_ ?_
 ·intro x w1 k1 hd
  rcases k1.2.1 (.inl (h1.to k)) with hgx | hgx
  ·refine A9 (us:=ah0) rfl (by conv=>(lhs; whnf)) rfl rfl hgx hl bk6 ?_
   intro w12 k12 hg12
   exact b8 (Y5 (OneW.wrote k12 hg12) hg12)
  refine A9 (us:=ah0) rfl (by conv=>(lhs; whnf)) rfl rfl hgx rfl bk6 ?_
  intro w12 k12 hg12
  exact b8 (Y5 (OneW.wrote k12 hg12) hg12)
 refine a71 (a92 ?_)
 intro x w12 k12 hall
 have h14 : Blk w12 g1 43 ah0:=hall.1
 refine J4 (u:=.int .i64 E) rfl rfl ((h2.to k).wr k12.1 (fun e=>hne e.symm)) (show 0 < 1 by decide) rfl ?_
 intro w5 k5 h25
 repeat (first | refine b8 ?_)
 refine ⟨[],rfl,rfl,?_,h14.wr k5 hne,h25⟩
 exact ((Keeps.of k).trans (k12.1.mono fun i hi=>hi.1)).trans (k5.mono fun i hi=>hi.2)
theorem as6 {S : Nat → Prop} {w : World} {F : FuncId} [ci : CallI prog F] {cap : List Value} {t : T3} {E : Int} {Y Z : Prop} (hS : Up S w)
  (h : ∀ S' w',Up S' w' → Ext w w' → (∀ k,S' k → S k) → (∀ k,k < w.heap.size → S k → S' k) → GivesE prog F cap w' (fun v w''=>Ext w' w'' ∧ TripV S' w'' v t ∧ Y) fun ch w''=>ch = H0 E ∧ Ext w' w'' ∧ Z) :
  Gives prog 38 [.func (.func F) #[] cap.toArray] w fun v' w'=>Ext w w' ∧ ((∃ x,v' = .tuple #[x,.int .i64 0] ∧ TripV S w' x t ∧ Y) ∨ (v' = .tuple #[.agg ah0.toArray,.int .i64 E] ∧ Z)):=by
 refine W4 func38 rfl rfl rfl ?_
 refine a90 ?_
 repeat (first | refine b7 ?_)
 refine q8 (cs:=ah0) rfl ?_
 intro w1 g1 k1 hg1 hgs1
 skip
 refine q8 (cs:=[.int .i64 0]) rfl ?_
 intro w2 g2 k2 hg2 hgs2
 have hgl:=hg1.lt
 have hgl2:=hg2.lt
 replace hg1:=hg1.to k2
 have k:=k1.trans k2
 have hk1:=k1.size
 have hk2:=k2.size
 have hS2 : Up (fun k=>S k ∧ k ≠ g1 ∧ k ≠ g2) w2:=fun i hi=>⟨hS i (by omega),by omega,by omega⟩
 have hc:=h (fun k=>S k ∧ k ≠ g1 ∧ k ≠ g2) w2 hS2 k (fun _ h=>h.1) (fun i hi hs=>⟨hs,by omega,by omega⟩)
 repeat (first | refine b8 ?_ | refine c8 ?_)
 refine Y1 ?_
 refine a86 ?_ (fun e a ρ w hm hq=>aw2 hm hq)
 repeat (first | refine b6 ?_ | refine b7 ?_ | refine c0 ?_)
 refine av9 (first:=[]) (cap:=cap) rfl hc rfl ?_ ?_
 ·rintro v3 w3 ⟨k3,hf,hy⟩
  obtain ⟨us,hv,hul,hu1⟩:=hf.ok
  skip
  refine A9 (us:=us) rfl (by conv=>(lhs; whnf)) (by rw [hv]; rfl) hul (hg1.to k3) rfl hu1 ?_
  intro w4 k4 hg4
  have hg24:=(hg2.to k3).wr k4 (by omega)
  refine J4 (u:=.int .i64 0) rfl rfl hg24 (show 0 < 1 by decide) rfl ?_
  intro w5 k5 hg5
  have hg45:=hg4.wr k5 (by omega)
  repeat (first | refine b8 ?_ | refine c8 ?_ | refine wp_ret ?_)
  refine bx4.mono ?_
  rintro u' w' ⟨rfl,rfl⟩
  refine ⟨rfl,[.agg us.toArray,.int .i64 0],⟨_,_,n6 hg45 hul,⟨_,_,Q0 (by conv=>(lhs; whnf)) hg5,rfl,rfl⟩,rfl⟩,?_⟩
  refine ⟨((Keeps.past (k.trans k3) k4 (by omega)).past k5 (by omega)),.inl ⟨_,rfl,?_,hy⟩⟩
  rw [← hv]
  exact ((hf.keep (k4.mono fun i hi=>hi.2.1)).keep (k5.mono fun i hi=>hi.2.2)).mono fun i _ hi=>hi.1
 rintro ch w3 ⟨rfl,k3,hf⟩
 refine M0 ?_
 refine (b45 (hg1.to k3) rfl (hg2.to k3)).mono ?_
 rintro u' w' ⟨hu,k4,h1,h2⟩
 refine ⟨hu,[.agg ah0.toArray,.int .i64 E],⟨_,_,n6 h1 rfl,⟨_,_,Q0 (by conv=>(lhs; whnf)) h2,rfl,rfl⟩,rfl⟩,?_⟩
 exact ⟨Keeps.later (k.trans k3) k4 (fun i hi _=>⟨by omega,by omega⟩),.inr ⟨rfl,hf⟩⟩
theorem Gives.toE {P : Program} {f : FuncId} {args : List Value} {w : World} {Ψ : Value → World → Prop} {Φ : List PanicEntry → World → Prop} (h : Gives P f args w Ψ) : GivesE P f args w Ψ Φ:=
 Calls.mono h fun e w' ⟨v,he,hv⟩=>by subst he; exact hv
abbrev O9 (v : Value) (t : T3) (e : Int) : Gh:=⟨fun S w=>v = .tuple #[J8 v,.int .i64 e] ∧ TripV S w (J8 v) t,fun h k=>⟨h.1,h.2.keep k⟩,fun h k=>⟨h.1,h.2.mono k⟩⟩
theorem ag4 {v : Value} {t : T3} {e : Int} {S : Nat → Prop} {w : World} (h : (O9 v t e).p S w) : (pr (.ag 9 (J8 v)) (.int .i64 e)).Ok 0 ∧ (pr (.ag 9 (J8 v)) (.int .i64 e)).den (fun _=>0) = v:=⟨cg7 h.2.ok trivial,h.1.symm⟩
theorem bu3 {S : Nat → Prop} {w : World} : TripV S w (.agg ah0.toArray) ⟨0,0,0⟩:=⟨_,_,_,rfl,I9,I9,I9⟩
theorem Q1 {S : Nat → Prop} {w : World} {u v : Value} {t : T3} {T : TypeId} (h : (co5 u T (f5 (fun _=>0) [.ag 9 v])).p S w) (hv : TripV S w v t) : (B3 u t).p S w:=by
 obtain ⟨b,rfl,hs,hB⟩:=h
 rw [ab9] at hB
 exact ⟨v,hv.lies,⟨b,0,v.cells.toList.toArray,T,(0,0),rfl,hs,hB,by simp,by rw [List.drop_zero]; exact List.take_of_length_le (Nat.le_refl _)⟩,hv⟩
theorem I0 {S : Nat → Prop} {w : World} {u : Value} {T : TypeId} {cs : List Value} (h : (co5 u T cs).p S w) : u.oneCell' = true:=by
 obtain ⟨b,rfl,_⟩:=h
 rfl
noncomputable def M2 (p q : T3) : Int:=if M8 p q = 0 then (if T3.Same p q then 61 else 0) else M8 p q
noncomputable def ac4 (p q : T3) : T3:=if M2 p q = 0 then (p.cross q).normal else ⟨0,0,0⟩
theorem ck2 {p q : T3} (h : M8 p q = 0) : A6 p = 0 ∧ A6 q = 0:=by
 unfold M8 at h
 split at h
 ·exact ⟨‹_›,h⟩
 exact absurd h ‹_›
theorem c55 {S : Nat → Prop} {w : World} {u1 u2 : Value} {p q : T3} {m n k : Nat} (ht : Tab w) (hS : Up S w) (o1 : u1.oneCell' = true) (o2 : u2.oneCell' = true) (h1 : (B3 u1 p).p S w) (h2 : (B3 u2 q).p S w) (hm : tl p m) (hn : tl q n) (hmn : 2 * (m + n + 1) + 1 ≤ 3344) (hk : tl (p.cross q).normal k) (hk2 : k ≤ 3344) :
  Gives prog 38 [.func (.func 49) #[] #[u1,u2]] w fun v' w'=>Ext w w' ∧ (O9 v' (ac4 p q) (M2 p q)).p S w':=by
 have key : ∀ S' w',Up S' w' → Ext w w' → (∀ k,S' k → S k) → (∀ k,k < w.heap.size → S k → S' k) → GivesE prog 49 [u1,u2] w' (fun v w''=>Ext w' w'' ∧ TripV S' w'' v (ac4 p q) ∧ M2 p q = 0) fun ch w''=>ch = H0 (M2 p q) ∧ Ext w' w'' ∧ ¬ M2 p q = 0:=by
  intro S' w' hS' k' _ hs'
  have g1:=(B3 u1 p).keep ((B3 u1 p).mono h1 hs') (.of k')
  have g2:=(B3 u2 q).keep ((B3 u2 q).mono h2 hs') (.of k')
  by_cases hb : M8 p q = 0
  ·obtain ⟨b1,b2⟩:=ck2 hb
   by_cases hs : T3.Same p q
   ·have e : M2 p q = 61:=by unfold M2; rw [if_pos hb,if_pos hs]
    exact (cz1 (ht.to k') hS' o1 o2 g1 g2 hm hn hmn b1 b2 hs).mono (fun _ _ h=>h.elim) fun ch w'' h=>⟨by rw [e]; exact h.1,h.2,by rw [e]; decide⟩
   have e : M2 p q = 0:=by unfold M2; rw [if_pos hb,if_neg hs]
   have e2 : ac4 p q = (p.cross q).normal:=by unfold ac4; rw [if_pos e]
   exact Gives.toE ((cu8 (ht.to k') hS' o1 o2 g1 g2 hm hn hmn hk hk2 b1 b2 hs).mono fun v w'' h=>⟨h.1,by rw [e2]; exact h.2,e⟩)
  have e : M2 p q = M8 p q:=by unfold M2; rw [if_neg hb]
  exact (ct7 (ht.to k') hS' o1 o2 g1 g2 (G6 hm (by omega)) (G6 hn (by omega)) hb).mono (fun _ _ h=>h.elim) fun ch w'' h=>⟨by rw [e]; exact h.1,h.2,by rw [e]; exact hb⟩
 refine (as6 (F:=49) (cap:=[u1,u2]) hS key).mono ?_
 rintro v' w' ⟨k',⟨x,rfl,h,e⟩ | ⟨rfl,e⟩⟩
 ·exact ⟨k',by rw [e]; rfl,h⟩
 exact ⟨k',rfl,by unfold ac4; rw [if_neg e]; exact bu3⟩
theorem cf6 {S : Nat → Prop} {w : World} {vp vq : Value} {p q : T3} {m n k : Nat} (ht : Tab w) (hS : Up S w) (hp : TripV S w vp p) (hq : TripV S w vq q) (hm : tl p m) (hn : tl q n) (hmn : 2 * (m + n + 1) + 1 ≤ 3344) (hk : tl (p.cross q).normal k) (hk2 : k ≤ 3344) :
  Gives prog 11 [vp,vq] w fun v' w'=>Ext w w' ∧ (O9 v' (ac4 p q) (M2 p q)).p S w':=by
 refine n7 (E:=env) (S0:=S) (G:=((q7 vp (p)).and (q7 vq (q)))) (l:=[.one (.ag 9 vp),.one (.ag 9 vq)]) func11 rfl rfl rfl ⟨hp.ok,hq.ok,trivial⟩ rfl ⟨hp,hq⟩ ?_
 refine o5 (L4 0 43 ([.ag 9 vp]) (fun u1=>?_))
 refine o5 (L4 1 43 ([.ag 9 vq]) (fun u2=>?_))
 refine S4 (fun x0=>pr (.ag 9 (J8 x0)) (.int .i64 ((M2 p q)))) (fun x0=>O9 x0 ((ac4 p q)) ((M2 p q))) (fun _ _ _ h=>ag4 h) (fun β S w hS hs hw hG=>(kx (c55 (ht.to hw) hS (I0 hG.2.1) (I0 hG.1) (Q1 hG.2.1 hG.2.2.1) (Q1 hG.1 hG.2.2.2) hm hn hmn hk hk2))) ?_
 intro r
 exact n8 (.tuple #[J8 r,.int .i64 (M2 p q)]) rfl (fun S w hs hw hG=>⟨hw,rfl,hG.1.2.mono fun k _ hk=>hs k hk⟩)
theorem bx7 {w : World} {g1 g2 : Nat} : GivesD prog 108 [.pointer (some ⟨g1,0,none⟩),.pointer (some ⟨g2,0,none⟩)] .returning w fun u' w'=>u' = .returning ∧ w' = w:=by
 refine H3 func108 rfl rfl rfl rfl rfl (.inl ⟨rfl,rfl,rfl⟩) ?_
 repeat (first | refine V0 rfl ?_ | refine b6 ?_ | refine b7 ?_ | refine c0 ?_ | refine b8 ?_ | refine c8 ?_ | refine wp_skip ?_ | refine wp_cond_false rfl ?_)
 exact ⟨[],rfl,rfl,rfl⟩
theorem b39 {w : World} {g1 g2 : Nat} {e1 e : Value} {E : Int} (h1 : Blk w g1 4 [e1]) (h2 : Blk w g2 44 [e]) :
  GivesD prog 108 [.pointer (some ⟨g1,0,none⟩),.pointer (some ⟨g2,0,none⟩)] (.panicking (H0 E)) w fun u' w'=>settle u' = .returning ∧
   Keeps (fun k=>k ≠ g1 ∧ k ≠ g2) w w' ∧ Blk w' g1 4 [.bool false] ∧ Blk w' g2 44 [.int .i64 E]:=by
 have hne : g1 ≠ g2:=h1.ne h2 (by decide)
 refine H3 func108 rfl rfl rfl rfl rfl (.inr ⟨_,rfl,rfl,rfl⟩) ?_
 repeat (first | refine ae0 rfl ?_ | refine av2 rfl ?_ | refine b6 ?_ | refine b7 ?_ | refine c0 ?_ | refine b8 ?_ | refine c8 ?_ | refine B2 rfl rfl ?_ | refine wp_cond_true rfl ?_)
 refine q8 (cs:=[.int .i64 0]) rfl ?_
 intro w1 g3 k1 hg3 hgs3
 have hl1:=h1.lt
 have hl2:=h2.lt
 refine A9 (us:=[.int .i64 E]) rfl (by conv=>(lhs; whnf)) rfl rfl hg3 rfl (fun v hv=>by rw [List.mem_singleton.1 hv]; rfl) ?_
 intro w2 k2 hg32
 have k : Ext w w2:=Keeps.past k1 k2 hgs3
 have hg33:=hg32
 repeat (first | refine av3 rfl ?_ | refine b6 ?_ | refine d8 ?_ | refine b7 ?_ | refine c0 ?_ | refine b9 ?_ | refine b8 ?_ | refine c8 ?_ | refine wp_skip ?_ | refine wp_cond_false rfl ?_)
 have hl3:=hg32.lt
 refine ap2 (R:=OneW g1 4 [e1] [.bool false]) 4 OneW.trans OneW.drew (by kernel_rfl) (by kernel_rfl) ?_
 apply F7
 ·intro x w1 k1 hd
  refine cc8 rfl ?_
  refine b8 ?_
  exact R5 OneW.refl
 apply F7
 ·intro x w1 k1 hd
  refine j5 rfl ?_
  refine b8 ?_
  exact R5 OneW.refl
 apply F7
 ·intro x w1 k1 hd
  refine i1 rfl (hg33.wr k1.1 (by omega)) rfl ?_
  refine b8 ?_
  exact R5 OneW.refl
 refine F7 (e:=EntR.of (fun v w=>Blk w g1 4 [.bool false]) (fun v w w' h k=>k.2.2 h)) ?_ ?_
 ·intro x w1 k1 hd
  rcases k1.2.1 (.inl (h1.to k)) with hgx | hgx
  ·refine J4 (u:=.bool false) rfl rfl hgx (show 0 < 1 by decide) rfl ?_
   intro w12 k12 hg12
   exact b8 (Y5 (OneW.wrote k12 hg12) hg12)
  refine J4 (u:=.bool false) rfl rfl hgx (show 0 < 1 by decide) rfl ?_
  intro w12 k12 hg12
  exact b8 (Y5 (OneW.wrote k12 hg12) hg12)
 refine a71 (a92 ?_)
 intro x w12 k12 hall
 have h14 : Blk w12 g1 4 [.bool false]:=hall.1
 refine J4 (u:=.int .i64 E) rfl rfl ((h2.to k).wr k12.1 (fun e=>hne e.symm)) (show 0 < 1 by decide) rfl ?_
 intro w5 k5 h25
 repeat (first | refine b8 ?_)
 refine ⟨[],rfl,rfl,?_,h14.wr k5 hne,h25⟩
 exact ((Keeps.of k).trans (k12.1.mono fun i hi=>hi.1)).trans (k5.mono fun i hi=>hi.2)
theorem au0 {S : Nat → Prop} {w : World} {F : FuncId} [ci : CallI prog F] {cap : List Value} {b : Bool} {E : Int} {Y Z : Prop} (hS : Up S w)
  (h : ∀ S' w',Up S' w' → Ext w w' → (∀ k,S' k → S k) → (∀ k,k < w.heap.size → S k → S' k) → GivesE prog F cap w' (fun v w''=>Ext w' w'' ∧ v = .bool b ∧ Y) fun ch w''=>ch = H0 E ∧ Ext w' w'' ∧ Z) :
  Gives prog 51 [.func (.func F) #[] cap.toArray] w fun v' w'=>Ext w w' ∧ ((v' = .tuple #[.bool b,.int .i64 0] ∧ Y) ∨ (v' = .tuple #[.bool false,.int .i64 E] ∧ Z)):=by
 refine W4 func51 rfl rfl rfl ?_
 refine a90 ?_
 repeat (first | refine b7 ?_)
 refine q8 (cs:=[.bool false]) rfl ?_
 intro w1 g1 k1 hg1 hgs1
 skip
 refine q8 (cs:=[.int .i64 0]) rfl ?_
 intro w2 g2 k2 hg2 hgs2
 have hgl:=hg1.lt
 have hgl2:=hg2.lt
 replace hg1:=hg1.to k2
 have k:=k1.trans k2
 have hk1:=k1.size
 have hk2:=k2.size
 have hS2 : Up (fun k=>S k ∧ k ≠ g1 ∧ k ≠ g2) w2:=fun i hi=>⟨hS i (by omega),by omega,by omega⟩
 have hc:=h (fun k=>S k ∧ k ≠ g1 ∧ k ≠ g2) w2 hS2 k (fun _ h=>h.1) (fun i hi hs=>⟨hs,by omega,by omega⟩)
 repeat (first | refine b8 ?_ | refine c8 ?_)
 refine Y1 ?_
 refine a86 ?_ (fun e a ρ w hm hq=>aw2 hm hq)
 repeat (first | refine b6 ?_ | refine b7 ?_ | refine c0 ?_)
 refine av9 (first:=[]) (cap:=cap) rfl hc rfl ?_ ?_
 ·rintro v3 w3 ⟨k3,rfl,hy⟩
  skip
  refine J4 (u:=.bool b) rfl rfl (hg1.to k3) (show 0 < 1 by decide) rfl ?_
  intro w4 k4 hg4
  have hg24:=(hg2.to k3).wr k4 (by omega)
  refine J4 (u:=.int .i64 0) rfl rfl hg24 (show 0 < 1 by decide) rfl ?_
  intro w5 k5 hg5
  have hg45:=hg4.wr k5 (by omega)
  repeat (first | refine b8 ?_ | refine c8 ?_ | refine wp_ret ?_)
  refine bx7.mono ?_
  rintro u' w' ⟨rfl,rfl⟩
  refine ⟨rfl,[.bool b,.int .i64 0],⟨_,_,Q0 (by conv=>(lhs; whnf)) hg45,⟨_,_,Q0 (by conv=>(lhs; whnf)) hg5,rfl,rfl⟩,rfl⟩,?_⟩
  exact ⟨((Keeps.past (k.trans k3) k4 (by omega)).past k5 (by omega)),.inl ⟨rfl,hy⟩⟩
 rintro ch w3 ⟨rfl,k3,hf⟩
 refine M0 ?_
 refine (b39 (hg1.to k3) (hg2.to k3)).mono ?_
 rintro u' w' ⟨hu,k4,h1,h2⟩
 refine ⟨hu,[.bool false,.int .i64 E],⟨_,_,Q0 (by conv=>(lhs; whnf)) h1,⟨_,_,Q0 (by conv=>(lhs; whnf)) h2,rfl,rfl⟩,rfl⟩,?_⟩
 exact ⟨Keeps.later (k.trans k3) k4 (fun i hi _=>⟨by omega,by omega⟩),.inr ⟨rfl,hf⟩⟩
def OnP (p q : T3) : Prop:=M8 p q = 0 ∧ p.dot q = 0
theorem du1 {S : Nat → Prop} {w : World} {u1 u2 : Value} {p q : T3} {m n : Nat} (ht : Tab w) (hS : Up S w) (o1 : u1.oneCell' = true) (o2 : u2.oneCell' = true) (h1 : (B3 u1 p).p S w) (h2 : (B3 u2 q).p S w) (hm : tl p m) (hn : tl q n) (hmn : 3 * (m + n + 1) + 1 ≤ 3344) :
  Gives prog 51 [.func (.func 52) #[] #[u1,u2]] w fun v' w'=>Ext w w' ∧ v' = .tuple #[.bool (tst (OnP p q)),.int .i64 (M8 p q)]:=by
 have key : ∀ S' w',Up S' w' → Ext w w' → (∀ k,S' k → S k) → (∀ k,k < w.heap.size → S k → S' k) → GivesE prog 52 [u1,u2] w' (fun v w''=>Ext w' w'' ∧ v = .bool (tst (OnP p q)) ∧ M8 p q = 0) fun ch w''=>ch = H0 (M8 p q) ∧ Ext w' w'' ∧ ¬ M8 p q = 0:=by
  intro S' w' hS' k' _ hs'
  have g1:=(B3 u1 p).keep ((B3 u1 p).mono h1 hs') (.of k')
  have g2:=(B3 u2 q).keep ((B3 u2 q).mono h2 hs') (.of k')
  by_cases hb : M8 p q = 0
  ·obtain ⟨b1,b2⟩:=ck2 hb
   exact Gives.toE ((do3 (ht.to k') hS' o1 o2 g1 g2 hm hn hmn b1 b2).mono fun v w'' h=>⟨h.2,by rw [h.1]; congr 1; exact congrArg tst (propext ⟨fun e=>⟨hb,e⟩,fun e=>e.2⟩),hb⟩)
  exact (dp3 (ht.to k') hS' o1 o2 g1 g2 (G6 hm (by omega)) (G6 hn (by omega)) hb).mono (fun _ _ h=>h.elim) fun ch w'' h=>⟨h.1,h.2,hb⟩
 refine (au0 (F:=52) (cap:=[u1,u2]) hS key).mono ?_
 rintro v' w' ⟨k',⟨rfl,e⟩ | ⟨rfl,e⟩⟩
 ·exact ⟨k',by rw [e]⟩
 exact ⟨k',by rw [l6 fun h : OnP p q=>e h.1]⟩
theorem dl5 {S : Nat → Prop} {w : World} {vp vq : Value} {p q : T3} {m n : Nat} (ht : Tab w) (hS : Up S w) (hp : TripV S w vp p) (hq : TripV S w vq q) (hm : tl p m) (hn : tl q n) (hmn : 3 * (m + n + 1) + 1 ≤ 3344) :
  Gives prog 12 [vp,vq] w fun v' w'=>v' = .tuple #[.bool (tst (OnP p q)),.int .i64 (M8 p q)] ∧ Ext w w':=by
 refine n7 (E:=env) (S0:=S) (G:=((q7 vp (p)).and (q7 vq (q)))) (l:=[.one (.ag 9 vp),.one (.ag 9 vq)]) func12 rfl rfl rfl ⟨hp.ok,hq.ok,trivial⟩ rfl ⟨hp,hq⟩ ?_
 refine o5 (L4 0 43 ([.ag 9 vp]) (fun u1=>?_))
 refine o5 (L4 1 43 ([.ag 9 vq]) (fun u2=>?_))
 refine A3 (pr (.tp (OnP p q)) (.int .i64 (M8 p q))) rfl (fun β S w hS hs hw hG=>(kx ((du1 (ht.to hw) hS (I0 hG.2.1) (I0 hG.1) (Q1 hG.2.1 hG.2.2.1) (Q1 hG.1 hG.2.2.2) hm hn hmn).mono fun _ _ h=>⟨h.2,h.1⟩))) ?_
 exact n8 (.tuple #[.bool (tst (OnP p q)),.int .i64 (M8 p q)]) rfl (fun S w hs hw hG=>⟨rfl,hw⟩)
def T3.at (l : List T3) (i : Nat) : T3:=l.getD i ⟨0,0,0⟩
theorem bm2 {l : List T3} (h : B4 l = 0) : ∀ t ∈ l,A6 t = 0:=by
 induction l with
 | nil=>intro t ht; cases ht
 | cons a r ih=>
  unfold B4 at h
  split at h
  ·intro t ht
   rcases List.mem_cons.1 ht with rfl | ht
   ·assumption
   exact ih h t ht
  exact absurd h ‹_›
theorem b98 {l : List T3} (h : ¬ B4 l = 0) : ∃ n,n < l.length ∧ A6 (l.getD n ⟨0,0,0⟩) = B4 l ∧ ∀ i,i < n → A6 (l.getD i ⟨0,0,0⟩) = 0:=by
 induction l with
 | nil=>exact absurd rfl h
 | cons a r ih=>
  unfold B4 at h ⊢
  split
  ·rename_i e
   rw [if_pos e] at h
   obtain ⟨n,h1,h2,h3⟩:=ih h
   refine ⟨n + 1,by simpa using h1,by simpa using h2,fun i hi=>?_⟩
   cases i with
   | zero=>simpa using e
   | succ i=>simpa using h3 i (by omega)
  exact ⟨0,by simp,by simp,fun i hi=>absurd hi (Nat.not_lt_zero _)⟩
theorem b66 {S : Nat → Prop} {w : World} {v : Value} {l : List T3} (ht : Tab w) (hS : Up S w) (h : SeqV true 9 at5 S w v l) (hl : ∀ t ∈ l,tl t 1000000) (hk : ¬ B4 l = 0) : Pan prog 40 [v] w (H0 (B4 l)):=by
 obtain ⟨n,h1,h2,h3⟩:=b98 hk
 rw [← h2]
 exact ap5 ht hS h hl h1 (by rw [h2]; exact hk) h3
theorem b35 {S : Nat → Prop} {w : World} {vp vq vr : Value} {p q r : T3} {m : Nat} (hS : Up S w) (hp : TripV S w vp p) (hq : TripV S w vq q) (hr : TripV S w vr r) (hm : tl p m) (hn : tl q m) (hk : tl r m) (hmm : 3 * (2 * (m + m) + 1 + m + 1) + 1 ≤ 3344)
  (h1 : ¬ T3.Same p q) (h2 : ¬ T3.Same p r) (h3 : ¬ T3.Same q r) (h4 : T3.Flat p q r) :
  Gives prog 57 [vp,vq,vr] w fun v' w'=>v' = .tuple #[] ∧ Ext w w':=by
 refine n7 (E:=env) (S0:=S) (G:=((q7 vp (p)).and ((q7 vq (q)).and (q7 vr (r))))) (l:=[.one (.ag 9 vp),.one (.ag 9 vq),.one (.ag 9 vr)]) func57 rfl rfl rfl ⟨hp.ok,hq.ok,hr.ok,trivial⟩ rfl ⟨hp,hq,hr⟩ ?_
 refine A3 (.one (.tp (T3.Same p q))) rfl (fun β S w hS hs hw hG=>(kx (ap0 hS hG.1 hG.2.1 hm hn (by omega)))) ?_
 refine F6 (p:=T3.Same p q) 9 (h1) ?_
 refine A3 (.one (.tp (T3.Same p r))) rfl (fun β S w hS hs hw hG=>(kx (ap0 hS hG.1 hG.2.2 hm hk (by omega)))) ?_
 refine F6 (p:=T3.Same p r) 14 (h2) ?_
 refine A3 (.one (.tp (T3.Same q r))) rfl (fun β S w hS hs hw hG=>(kx (ap0 hS hG.2.1 hG.2.2 hn hk (by omega)))) ?_
 refine F6 (p:=T3.Same q r) 19 (h3) ?_
 refine A3 (.one (.tp (T3.Flat p q r))) rfl (fun β S w hS hs hw hG=>(kx (a95 hS hG.1 hG.2.1 hG.2.2 hm hn hk hmm))) ?_
 refine Z8 (p:=¬ T3.Flat p q r) (fun h=>h h4) ?_
 exact n8 (.tuple #[]) rfl (fun S w hs hw hG=>⟨rfl,hw⟩)
theorem c18 {S : Nat → Prop} {w : World} {vp vq vr : Value} {p q r : T3} {m : Nat} (hS : Up S w) (hp : TripV S w vp p) (hq : TripV S w vq q) (hr : TripV S w vr r) (hm : tl p m) (hn : tl q m) (hk : tl r m) (hmm : 3 * (2 * (m + m) + 1 + m + 1) + 1 ≤ 3344)
  (hx : T3.Same p q ∨ T3.Same p r ∨ T3.Same q r ∨ ¬ T3.Flat p q r) :
  Pan prog 57 [vp,vq,vr] w (H0 61):=by
 refine H2 (E:=env) (S0:=S) (G:=((q7 vp (p)).and ((q7 vq (q)).and (q7 vr (r))))) (l:=[.one (.ag 9 vp),.one (.ag 9 vq),.one (.ag 9 vr)]) func57 rfl rfl rfl ⟨hp.ok,hq.ok,hr.ok,trivial⟩ rfl ⟨hp,hq,hr⟩ ?_
 refine A3 (.one (.tp (T3.Same p q))) rfl (fun β S w hS hs hw hG=>(kx (ap0 hS hG.1 hG.2.1 hm hn (by omega)))) ?_
 refine al8 (p:=T3.Same p q) 9 ⟨d6,hS,j6⟩ (by kernel_rfl) (by kernel_rfl) (fun g1=>?_) (fun g1=>?_)
 ·exact a67 (fun β S w hS hs hw hG=>(kx (K5 (aa0 (e:=61)) hw)))
 refine A3 (.one (.tp (T3.Same p r))) rfl (fun β S w hS hs hw hG=>(kx (ap0 hS hG.1 hG.2.2 hm hk (by omega)))) ?_
 refine al8 (p:=T3.Same p r) 14 ⟨d6,hS,j6⟩ (by kernel_rfl) (by kernel_rfl) (fun g2=>?_) (fun g2=>?_)
 ·exact a67 (fun β S w hS hs hw hG=>(kx (K5 (aa0 (e:=61)) hw)))
 refine A3 (.one (.tp (T3.Same q r))) rfl (fun β S w hS hs hw hG=>(kx (ap0 hS hG.2.1 hG.2.2 hn hk (by omega)))) ?_
 refine al8 (p:=T3.Same q r) 19 ⟨d6,hS,j6⟩ (by kernel_rfl) (by kernel_rfl) (fun g3=>?_) (fun g3=>?_)
 ·exact a67 (fun β S w hS hs hw hG=>(kx (K5 (aa0 (e:=61)) hw)))
 refine A3 (.one (.tp (T3.Flat p q r))) rfl (fun β S w hS hs hw hG=>(kx (a95 hS hG.1 hG.2.1 hG.2.2 hm hn hk hmm))) ?_
 refine U9 (p:=¬ T3.Flat p q r) (hx.resolve_left g1 |>.resolve_left g2 |>.resolve_left g3) ?_
 exact a67 (fun β S w hS hs hw hG=>(kx (K5 (aa0 (e:=61)) hw)))
theorem b71 {S : Nat → Prop} {w : World} {u : Value} {p : T3} {m k : Nat} (ht : Tab w) (hS : Up S w) (o : u.oneCell' = true) (h : (B3 u p).p S w) (hm : tl p m) (hmm : m ≤ 1000000) (hk : tl p.normal k) (hk2 : k ≤ 3344) (hp0 : A6 p = 0) (hnn : ¬ p.None) :
  Gives prog 39 [u] w fun v' w'=>Ext w w' ∧ TripV S w' v' p.normal:=by
 refine n7 (E:=env) (S0:=S) (G:=(B3 u p)) (l:=[.one (.val u)]) func39 rfl rfl rfl ⟨o,trivial⟩ rfl h ?_
 refine o5 (r6 u 43 9 true (fun x0=>.one (.ag 9 x0)) (fun x0=>q7 x0 (p)) (fun β S w hM hw hG=>let ⟨y,e1,e2,e3⟩:=hG; ⟨S,y,e1,e2,e3⟩) ?_)
 intro x
 refine K7 (.und) rfl (fun β S w hS hM hs hw hG=>(kx (R8 (ht.to hw) (r5 hS) (D1 (l:=[p]) 1 43 [x] hM (by kernel_rfl) ⟨rfl,fun y hy=>by rw [List.mem_singleton.1 hy]; exact hG.1.lies,fun i t y h1 h2=>by cases i with | zero=>(simp at h1 h2; subst h1 h2; exact hG.1) | succ i=>simp at h1⟩ (show 1 ≤ maxLen by decide)) (fun t ht=>by rw [List.mem_singleton.1 ht]; exact G6 hm hmm) (fun t ht=>by rw [List.mem_singleton.1 ht]; exact hp0)))) ?_
 refine o5 (r6 u 43 9 true (fun x0=>.one (.ag 9 x0)) (fun x0=>q7 x0 (p)) (fun β S w hM hw hG=>let ⟨y,e1,e2,e3⟩:=hG.2; ⟨S,y,e1,e2,e3⟩) ?_)
 intro y
 refine G3 (fun x0=>.one (.ag 9 x0)) (fun x0=>q7 x0 (p.normal)) (fun β S w hS hs hw hG=>(kx (a02 hS hG.1 hnn (G6 hm (by omega)) (bp1 hk hk2)))) ?_
 intro r
 exact n8 (r) rfl (fun S w hs hw hG=>⟨hw,hG.1.mono fun k _ hk=>hs k hk⟩)
theorem bq7 {v : Value} {q : Rat} {S : Nat → Prop} {w : World} (h : (bG (fun x=>qG x q) true v).p S w) : (pr (.ag 4 (K3 v 0)) (.bb true)).Ok 0 ∧ (pr (.ag 4 (K3 v 0)) (.bb true)).den (fun _=>0) = v:=⟨cg7 h.2.ok trivial,h.1.symm⟩
theorem QV.lies {S : Nat → Prop} {w : World} {v : Value} {q : Rat} (h : QV S w v q) : K4 true 4 v:=by
 obtain ⟨m,b,rfl,_⟩:=h
 exact ak0 [_,_,_,_]
abbrev qF (x : Value) (q : Rat) : Gh:=qG x q
abbrev qsG (v : Value) (l : List Rat) : Gh:=bt5 true 4 qF v l
theorem getD_at {l : List Rat} {j : Nat} (h : j < l.length) : l[j]? = some (l.getD j 0):=by rw [List.getD_eq_getElem?_getD,List.getElem?_eq_getElem h]; rfl
theorem ai8 {q : Rat} : q.num.sign = 0 ↔ q = 0:=by rw [Int.sign_eq_zero_iff_zero]; exact Rat.num_eq_zero
theorem b32 {S : Nat → Prop} {w : World} {v : Value} {l : List Rat} {p : Nat} (hS : Up S w) (h : SeqV true 4 qF S w v l) (hp : O4 al1 l 0 = (p : Int)) (hpl : p < l.length) (hp0 : al1 (l.getD p 0)) :
  Gives prog 43 [v] w fun v' w'=>Ext w w' ∧ (bG (fun x=>qG x (l.getD p 0)) true v').p S w':=by
 have hmx:=h.len_le
 unfold maxLen at hmx
 refine n7 (E:=env) (S0:=S) (G:=(qsG v l)) (l:=[.one (.sl v l.length)]) func43 rfl rfl rfl ⟨h.sl,trivial⟩ rfl h ?_
 refine Q6 (ι:=Nat) [(3,20)] (fun j=>[(4,.one (.int .i64 (j : Int)))]) (fun _=>[]) (fun j=>(qsG v l)) (fun j=>j ≤ p ∧ O4 al1 (l.drop j) j = (p : Int)) (fun j=>p - j) (0) (⟨Nat.zero_le _,hp⟩) (fun S w hw hG=>⟨x9 rfl,fun p hp=>by cases hp⟩) (fun S w hw hG=>hG) (fun hso j hj=>?_)
 have hlt' : j < l.length:=by omega
 have hx0:=getD_at hlt'
 obtain ⟨d1,d2⟩:=bk9 (p:=al1) hlt'
 refine U9 (p:=(j : Int) < (l.length : Int)) (by omega) ?_
 refine o5 (at0 v l.length (j : Int) 31 4 (fun u0=>atG true 4 (fun x0=>qG x0 ((l.getD j 0))) u0) (by kernel_rfl) ⟨d6,hS,j6⟩ (fun β S w hM hw hG=>hG.el rfl rfl hx0) ?_)
 intro u_1
 refine o5 (a25 u_1 31 4 true (fun x0=>.one (.ag 4 x0)) (fun x0=>qG x0 ((l.getD j 0))) (by kernel_rfl) ⟨d6,hS,j6⟩ (fun S w hw hG=>hG.1) (fun _ _ _ h=>⟨h.ok,rfl⟩) ?_)
 intro x
 refine A3 (.one (.int .i64 (l.getD j 0).num.sign)) rfl (fun β S w hS hs hw hG=>(kx (az5 hG.1))) ?_
 refine W0 (p:=¬ (l.getD j 0).num.sign = 0) (fun hs=>?_) (fun hs=>?_)
 ·have hn : al1 (l.getD j 0):=fun e=>hs (ai8.2 e)
  have e : j = p:=by have:=d1 hn; rw [hj.2] at this; omega
  subst e
  refine o5 (at0 v l.length (j : Int) 31 4 (fun u0=>atG true 4 (fun x0=>qG x0 ((l.getD j 0))) u0) (by kernel_rfl) ⟨d6,hS,j6⟩ (fun β S w hM hw hG=>hG.2.2.el rfl rfl hx0) ?_)
  intro u_2
  refine o5 (a25 u_2 31 4 true (fun x0=>.one (.ag 4 x0)) (fun x0=>qG x0 ((l.getD j 0))) (by kernel_rfl) ⟨d6,hS,j6⟩ (fun S w hw hG=>hG.1) (fun _ _ _ h=>⟨h.ok,rfl⟩) ?_)
  intro y
  refine S9 ?_
  exact n8 (.tuple #[y,.bool true]) rfl (fun S w hs hw hG=>⟨hw,rfl,hG.1.mono fun k _ hk=>hs k hk⟩)
 have hn : ¬ al1 (l.getD j 0):=fun e=>e (ai8.1 (Classical.not_not.1 hs))
 have e : ¬ j = p:=fun e=>hn (by rw [e]; exact hp0)
 refine aj3 (ps:=[InR .i64 ((j : Int) + 1)]) (by simp only [L5,InR,and_true]; omega) ?_
 exact O5 (j + 1) ⟨d6,hS,j6⟩ hso (by kernel_rfl) (by kernel_rfl) (fun β=>(by kernel_rfl)) (fun β=>(by kernel_rfl)) (by kernel_rfl) (⟨by omega,by rw [← d2 hn]; exact hj.2⟩) (by omega) (fun S w hw hG=>⟨x9 rfl,fun p hp=>by cases hp⟩) (fun S w hw hG=>hG.2.2)
def b20 : Value:=.agg #[.bool false,.slice none 0 0,.bool false,.slice none 0 0]
theorem by2 {S : Nat → Prop} {w : World} {v : Value} {l : List Rat} (hS : Up S w) (h : SeqV true 4 qF S w v l) (hn : Z6 l) :
  Gives prog 43 [v] w fun v' w'=>v' = .tuple #[b20,.bool false] ∧ Ext w w':=by
 have hmx:=h.len_le
 unfold maxLen at hmx
 refine n7 (E:=env) (S0:=S) (G:=(qsG v l)) (l:=[.one (.sl v l.length)]) func43 rfl rfl rfl ⟨h.sl,trivial⟩ rfl h ?_
 refine Q6 (ι:=Nat) [(3,20)] (fun j=>[(4,.one (.int .i64 (j : Int)))]) (fun _=>[]) (fun j=>(qsG v l)) (fun j=>j ≤ l.length) (fun j=>l.length - j) (0) (Nat.zero_le _) (fun S w hw hG=>⟨x9 rfl,fun p hp=>by cases hp⟩) (fun S w hw hG=>hG) (fun hso j hj=>?_)
 refine W0 (p:=(j : Int) < (l.length : Int)) (fun hlt=>?_) (fun hlt=>?_)
 ·have hlt' : j < l.length:=by omega
  have hx0:=getD_at hlt'
  refine o5 (at0 v l.length (j : Int) 31 4 (fun u0=>atG true 4 (fun x0=>qG x0 ((l.getD j 0))) u0) (by kernel_rfl) ⟨d6,hS,j6⟩ (fun β S w hM hw hG=>hG.el rfl rfl hx0) ?_)
  intro u_1
  refine o5 (a25 u_1 31 4 true (fun x0=>.one (.ag 4 x0)) (fun x0=>qG x0 ((l.getD j 0))) (by kernel_rfl) ⟨d6,hS,j6⟩ (fun S w hw hG=>hG.1) (fun _ _ _ h=>⟨h.ok,rfl⟩) ?_)
  intro x
  refine A3 (.one (.int .i64 (l.getD j 0).num.sign)) rfl (fun β S w hS hs hw hG=>(kx (az5 hG.1))) ?_
  refine Z8 (p:=¬ (l.getD j 0).num.sign = 0) (fun e=>hn ⟨l.getD j 0,List.mem_of_getElem? hx0,fun g=>e (ai8.2 g)⟩) ?_
  refine aj3 (ps:=[InR .i64 ((j : Int) + 1)]) (by simp only [L5,InR,and_true]; omega) ?_
  exact O5 (j + 1) ⟨d6,hS,j6⟩ hso (by kernel_rfl) (by kernel_rfl) (fun β=>(by kernel_rfl)) (fun β=>(by kernel_rfl)) (by kernel_rfl) (by omega) (by omega) (fun S w hw hG=>⟨x9 rfl,fun p hp=>by cases hp⟩) (fun S w hw hG=>hG.2.2)
 refine S9 ?_
 exact n8 (.tuple #[b20,.bool false]) rfl (fun S w hs hw hG=>⟨rfl,hw⟩)
abbrev nzG (v : Value) (n : Nat) : Gh:=⟨fun S w=>s4 S 3 .i64 w v n,fun h k=>h.keep k,fun h k=>h.mono k⟩
theorem cl2 {S : Nat → Prop} {w : World} {v : Value} {q : Rat} (hS : Up S w) (h : QV S w v q) (hl : rl q 1000000) :
  Gives prog 99 [v,.int .i64 40] w fun v' w'=>v' = .bool (tst (W9 q)) ∧ Ext w w':=by
 obtain ⟨m,b,rfl,hm,hb⟩:=h
 refine n7 (E:=env) (S0:=S) (G:=((nzG m q.num.natAbs).and (nzG b q.den))) (l:=[.agg [.tp (q.num < 0),.val m,.tp ((q.den : Int) < 0),.val b],.one (.lit .i64 40)]) func99 rfl rfl rfl ⟨F0 ⟨trivial,hm.one,trivial,hb.one,trivial⟩,trivial,trivial⟩ rfl ⟨hm,hb⟩ ?_
 refine A3 (.one (.int .i64 (Lib.nDigits q.num.natAbs : Nat))) rfl (fun β S w hS hs hw hG=>(kx (cx3 hG.1 (Nat.le_trans hl.1 (by decide))))) ?_
 refine al8 (p:=(40 : Int) < ((Lib.nDigits q.num.natAbs : Nat) : Int)) 11 ⟨d6,hS,j6⟩ (by kernel_rfl) (by kernel_rfl) (fun h4=>?_) (fun h4=>?_)
 ·exact n8 (.bool true) rfl (fun S w hs hw hG=>⟨by rw [l9 (show W9 q from .inl (by omega))],hw⟩)
 refine A3 (.one (.int .i64 (Lib.nDigits q.den : Nat))) rfl (fun β S w hS hs hw hG=>(kx (cx3 hG.2 (Nat.le_trans (show dl q.den ≤ 1000000 from hl.2) (by decide))))) ?_
 exact n8 (.bool (tst ((40 : Int) < ((Lib.nDigits q.den : Nat) : Int)))) rfl (fun S w hs hw hG=>⟨by rw [show W9 q = ((40 : Int) < ((Lib.nDigits q.den : Nat) : Int)) from propext ⟨fun h=>by rcases h with h | h <;> omega,fun h=>.inr (by omega)⟩],hw⟩)
theorem au7 {S : Nat → Prop} {w : World} {v : Value} {l : List Rat} (hS : Up S w) (h : SeqV true 4 qF S w v l) (hl : ∀ x ∈ l,rl x 1000000) :
  Gives prog 44 [v] w fun v' w'=>v' = .bool (tst (Z7 l)) ∧ Ext w w':=by
 have hmx:=h.len_le
 unfold maxLen at hmx
 refine n7 (E:=env) (S0:=S) (G:=(qsG v l)) (l:=[.one (.sl v l.length)]) func44 rfl rfl rfl ⟨h.sl,trivial⟩ rfl h ?_
 refine Q6 (ι:=Nat) [(2,14)] (fun j=>[(3,.one (.int .i64 (j : Int)))]) (fun _=>[]) (fun j=>(qsG v l)) (fun j=>j ≤ l.length ∧ ∀ i,i < j → ¬ W9 (l.getD i 0)) (fun j=>l.length - j) (0) (⟨Nat.zero_le _,fun _ h=>absurd h (Nat.not_lt_zero _)⟩) (fun S w hw hG=>⟨x9 rfl,fun p hp=>by cases hp⟩) (fun S w hw hG=>hG) (fun hso j hj=>?_)
 refine W0 (p:=(j : Int) < (l.length : Int)) (fun hlt=>?_) (fun hlt=>?_)
 ·have hlt' : j < l.length:=by omega
  have hx0:=getD_at hlt'
  have hm:=List.mem_of_getElem? hx0
  refine o5 (at0 v l.length (j : Int) 31 4 (fun u0=>atG true 4 (fun x0=>qG x0 ((l.getD j 0))) u0) (by kernel_rfl) ⟨d6,hS,j6⟩ (fun β S w hM hw hG=>hG.el rfl rfl hx0) ?_)
  intro u_1
  refine o5 (a25 u_1 31 4 true (fun x0=>.one (.ag 4 x0)) (fun x0=>qG x0 ((l.getD j 0))) (by kernel_rfl) ⟨d6,hS,j6⟩ (fun S w hw hG=>hG.1) (fun _ _ _ h=>⟨h.ok,rfl⟩) ?_)
  intro x
  refine A3 (.one (.tp (W9 (l.getD j 0)))) rfl (fun β S w hS hs hw hG=>(kx (cl2 hS hG.1 (hl _ hm)))) ?_
  refine W0 (p:=W9 (l.getD j 0)) (fun hlr=>?_) (fun hlr=>?_)
  ·refine S9 ?_
   exact n8 (.bool true) rfl (fun S w hs hw hG=>⟨by rw [l9 (show Z7 l from ⟨_,hm,hlr⟩)],hw⟩)
  refine aj3 (ps:=[InR .i64 ((j : Int) + 1)]) (by simp only [L5,InR,and_true]; omega) ?_
  exact O5 (j + 1) ⟨d6,hS,j6⟩ hso (by kernel_rfl) (by kernel_rfl) (fun β=>(by kernel_rfl)) (fun β=>(by kernel_rfl)) (by kernel_rfl) (⟨by omega,fun i hi=>(Nat.lt_or_ge i j).elim (fun h=>hj.2 i h) fun h=>(by have e : i = j:=(by omega); rw [e]; exact hlr)⟩) (by omega) (fun S w hw hG=>⟨x9 rfl,fun p hp=>by cases hp⟩) (fun S w hw hG=>hG.2.2)
 refine S9 ?_
 exact n8 (.bool false) rfl (fun S w hs hw hG=>⟨by rw [l6 fun g : Z7 l=>(let ⟨x,hx,hr⟩:=g; (by obtain ⟨i,hi,rfl⟩:=List.mem_iff_getElem.1 hx; exact hj.2 i (by omega) (by rw [List.getD_eq_getElem?_getD,List.getElem?_eq_getElem hi]; exact hr)))],hw⟩)
theorem bg1 {a b c : Value} : (bc1 a b c).cells.toList = z7 [a,b,c]:=by
 simp [bc1,SV.den,f5,Ch.cells,Value.cells,z7]
theorem QTripV.els {S : Nat → Prop} {w : World} {v : Value} {t : T3} (h : QTripV S w v t) : ∃ vs,v.cells.toList = z7 vs ∧ ElsV true 4 qF S w vs t.list:=by
 obtain ⟨a,b,c,rfl,h1,h2,h3⟩:=h
 refine ⟨[a,b,c],bg1,rfl,fun x hx=>?_,fun i q x hq hx=>?_⟩
 ·simp only [List.mem_cons,List.not_mem_nil,or_false] at hx
  rcases hx with rfl | rfl | rfl
  ·exact h1.lies
  ·exact h2.lies
  exact h3.lies
 match i with
 | 0=>simp [T3.list] at hq hx; subst hq hx; exact h1
 | 1=>simp [T3.list] at hq hx; subst hq hx; exact h2
 | 2=>simp [T3.list] at hq hx; subst hq hx; exact h3
 | i + 3=>simp [T3.list] at hq
theorem dm7 {α : Type} {g : Bool} {s : Nat} {F : Value → α → Gh} {S : Nat → Prop} {w : World} {vs : List Value} {l : List α} {u : Value} (h : ElsV g s F S w vs l) (hu : At S w u (z7 vs)) (hm : l.length ≤ maxLen) :
  ∃ b k,u = .pointer (some ⟨b,k,none⟩) ∧ SeqV g s F S w (.slice (some ⟨b,k,none⟩) l.length l.length) l:=by
 obtain ⟨b,o,arr,T,fr,h1,h2,h3,h4,h5⟩:=hu
 have hl:=L6 h.lies
 rw [h.len] at hl
 rw [hl] at h4 h5
 exact ⟨b,o,h1,⟨T,vs,h.len,h.lies,⟨hl,.inr ⟨b,o,l.length,arr,fr,rfl,Nat.le_refl _,hm,h2,h3,h4,h5⟩⟩,h.el⟩⟩
theorem bu7 {S : Nat → Prop} {w : World} {u : Value} {t : T3} (h : (atG true 12 (fun x=>o6 x t) u).p S w) : ∃ b k,u = .pointer (some ⟨b,k,none⟩) ∧ (qsG (.slice (some ⟨b,k,none⟩) 3 3) t.list).p S w:=by
 obtain ⟨x,_,h2,h3⟩:=h
 obtain ⟨vs,e1,e2⟩:=h3.els
 rw [e1] at h2
 exact dm7 e2 h2 (show 3 ≤ maxLen by decide)
abbrev aq1 (x : Value) (t : T3) : Gh:=o6 x t
abbrev c28 (v : Value) (l : List T3) : Gh:=bt5 true 12 aq1 v l
theorem b69 {l : List T3} {j : Nat} (h : j < l.length) : (A6 (l.getD j ⟨0,0,0⟩) = 0 → B4 (l.drop j) = B4 (l.drop (j + 1))) ∧ (¬ A6 (l.getD j ⟨0,0,0⟩) = 0 → B4 (l.drop j) = A6 (l.getD j ⟨0,0,0⟩)):=by
 have e : l.drop j = l.getD j ⟨0,0,0⟩ :: l.drop (j + 1):=by
  rw [List.drop_eq_getElem_cons h,List.getD_eq_getElem?_getD,List.getElem?_eq_getElem h]
  rfl
 rw [e]
 exact ⟨fun h=>by conv=>lhs; unfold B4; rw [if_pos h],fun h=>by conv=>lhs; unfold B4; rw [if_neg h]⟩
theorem am4 {S : Nat → Prop} {w : World} {v : Value} {l : List T3} (hS : Up S w) (h : SeqV true 12 aq1 S w v l) (hl : ∀ t ∈ l,tl t 1000000) :
  Gives prog 8 [v] w fun v' w'=>v' = .int .i64 (B4 l) ∧ Ext w w':=by
 have hmx:=h.len_le
 unfold maxLen at hmx
 refine n7 (E:=env) (S0:=S) (G:=(c28 v l)) (l:=[.one (.sl v l.length)]) func8 rfl rfl rfl ⟨h.sl,trivial⟩ rfl h ?_
 refine Q6 (ι:=Nat) [(2,26)] (fun j=>[(3,.one (.int .i64 (j : Int)))]) (fun _=>[]) (fun j=>(c28 v l)) (fun j=>j ≤ l.length ∧ B4 (l.drop j) = B4 l) (fun j=>l.length - j) (0) (⟨Nat.zero_le _,rfl⟩) (fun S w hw hG=>⟨x9 rfl,fun p hp=>by cases hp⟩) (fun S w hw hG=>hG) (fun hso j hj=>?_)
 refine W0 (p:=(j : Int) < (l.length : Int)) (fun hlt=>?_) (fun hlt=>?_)
 ·have hlt' : j < l.length:=by omega
  have hx0:=T3.getD_at hlt'
  have hm:=List.mem_of_getElem? hx0
  obtain ⟨d1,d2⟩:=b69 hlt'
  refine o5 (at0 v l.length (j : Int) 33 12 (fun u0=>atG true 12 (fun x0=>o6 x0 ((l.getD j ⟨0,0,0⟩))) u0) (by kernel_rfl) ⟨d6,hS,j6⟩ (fun β S w hM hw hG=>hG.el rfl rfl hx0) ?_)
  intro u
  refine o5 (ct8 u 3 (fun x0=>qsG x0 (T3.list (l.getD j ⟨0,0,0⟩))) (by kernel_rfl) ⟨d6,hS,j6⟩ (fun β S w hM hw hG=>bu7 hG.1) ?_)
  intro v1
  by_cases hn : Z6 (T3.list (l.getD j ⟨0,0,0⟩))
  ·have hb : A6 (l.getD j ⟨0,0,0⟩) = 60:=by unfold A6; rw [if_pos hn]
   refine A3 (.tup [(true,[.bb false,.sl (.slice none 0 0) 0,.bb false,.sl (.slice none 0 0) 0]),(false,[.bb false])]) rfl (fun β S w hS hs hw hG=>(kx (by2 hS hG.1 hn))) ?_
   refine S9 ?_
   exact n8 (.int .i64 60) rfl (fun S w hs hw hG=>⟨by rw [← hj.2,d2 (by rw [hb]; decide),hb],hw⟩)
  obtain ⟨p,hp,hpl,hp0⟩:=bg5 (af2.1 (Classical.not_not.1 hn) : 0 ≤ O4 al1 (T3.list (l.getD j ⟨0,0,0⟩)) 0)
  rw [Nat.zero_add] at hp
  refine S4 (fun x0=>pr (.ag 4 (K3 x0 0)) (.bb true)) (fun x0=>bG (fun x1=>qG x1 (((T3.list (l.getD j ⟨0,0,0⟩)).getD p 0))) true x0) (fun _ _ _ h=>bq7 h) (fun β S w hS hs hw hG=>(kx (b32 hS hG.1 hp hpl hp0))) ?_
  intro y
  refine o5 (at0 v l.length (j : Int) 33 12 (fun u0=>atG true 12 (fun x0=>o6 x0 ((l.getD j ⟨0,0,0⟩))) u0) (by kernel_rfl) ⟨d6,hS,j6⟩ (fun β S w hM hw hG=>hG.2.2.2.el rfl rfl hx0) ?_)
  intro u2
  refine o5 (ct8 u2 3 (fun x0=>qsG x0 (T3.list (l.getD j ⟨0,0,0⟩))) (by kernel_rfl) ⟨d6,hS,j6⟩ (fun β S w hM hw hG=>bu7 hG.1) ?_)
  intro v2
  refine A3 (.one (.tp (Z7 (T3.list (l.getD j ⟨0,0,0⟩))))) rfl (fun β S w hS hs hw hG=>(kx (au7 hS hG.1 (aa1 (hl _ hm))))) ?_
  refine W0 (p:=Z7 (T3.list (l.getD j ⟨0,0,0⟩))) (fun hlo=>?_) (fun hlo=>?_)
  ·have hb : A6 (l.getD j ⟨0,0,0⟩) = 11:=by unfold A6; rw [if_neg hn,if_pos hlo]
   refine S9 ?_
   exact n8 (.int .i64 11) rfl (fun S w hs hw hG=>⟨by rw [← hj.2,d2 (by rw [hb]; decide),hb],hw⟩)
  have hb : A6 (l.getD j ⟨0,0,0⟩) = 0:=by unfold A6; rw [if_neg hn,if_neg hlo]
  refine aj3 (ps:=[InR .i64 ((j : Int) + 1)]) (by simp only [L5,InR,and_true]; omega) ?_
  exact O5 (j + 1) ⟨d6,hS,j6⟩ hso (by kernel_rfl) (by kernel_rfl) (fun β=>(by kernel_rfl)) (fun β=>(by kernel_rfl)) (by kernel_rfl) (⟨by omega,by rw [← d1 hb]; exact hj.2⟩) (by omega) (fun S w hw hG=>⟨x9 rfl,fun p hp=>by cases hp⟩) (fun S w hw hG=>hG.2.2.2.2.2)
 refine S9 ?_
 exact n8 (.int .i64 0) rfl (fun S w hs hw hG=>⟨by rw [← hj.2,List.drop_of_length_le (by omega)]; rfl,hw⟩)
theorem QV.okc {S : Nat → Prop} {w : World} {v : Value} {q : Rat} {m : Nat} (h : QV S w v q) : (Ch.ag 4 v).Ok m:=h.ok
theorem mkRat_one (a : Int) : mkRat (a * (1 : Int).sign) (1 : Int).natAbs = (a : Rat):=by
 rw [show (1 : Int).sign = 1 from rfl,Int.mul_one,show (1 : Int).natAbs = 1 from rfl]
 rw [Rat.mkRat_one]
theorem N1 {S : Nat → Prop} {w : World} {a : Int} (hS : Up S w) (h0 : -9223372036854775808 ≤ a) (h1 : a ≤ 9223372036854775807) :
  Gives prog 14 [.int .i64 a,.int .i64 1] w fun v' w'=>Ext w w' ∧ QV S w' v' (a : Rat):=by
 have h:=cj6 (b:=1) hS h0 h1 (by decide) (by decide) (by decide) (K8 (k:=3) (by omega)) (K8 (k:=3) (by decide))
 rwa [mkRat_one] at h
theorem b22 {S : Nat → Prop} {w : World} (hS : Up S w) : Gives prog 14 [.int .i64 0,.int .i64 1] w fun v' w'=>Ext w w' ∧ QV S w' v' (0 : Rat):=N1 (a:=0) hS (by decide) (by decide)
theorem dr0 (n : Nat) : rl (0 : Rat) (n + 1):=⟨Nat.le_trans (K8 (k:=0) (show 0 < 1000000000 ^ 0 by decide)) (Nat.zero_le _),Nat.le_trans (K8 (k:=1) (show 1 < 1000000000 ^ 1 by decide)) (by omega)⟩
theorem d61 (p q : T3) : 0 + p.x * q.x + p.y * q.y + p.z * q.z = p.dot q:=by unfold T3.dot; grind
theorem bn2 {S : Nat → Prop} {w : World} {vp vq : Value} {p q : T3} {m n : Nat} (hS : Up S w) (hp : QTripV S w vp p) (hq : QTripV S w vq q) (hm : tl p m) (hn : tl q n) (hmn : m + n ≤ 1000000) :
  Gives prog 73 [vp,vq] w fun v' w'=>Ext w w' ∧ QV S w' v' (p.dot q):=by
 obtain ⟨a1,b1,c1,rfl,ha1,hb1,hc1⟩:=hp
 obtain ⟨a2,b2,c2,rfl,ha2,hb2,hc2⟩:=hq
 refine n7 (E:=env) (S0:=S) (G:=((qG a1 p.x).and ((qG b1 p.y).and ((qG c1 p.z).and ((qG a2 q.x).and ((qG b2 q.y).and (qG c2 q.z))))))) (l:=[.agg [.ag 4 a1,.ag 4 b1,.ag 4 c1],.agg [.ag 4 a2,.ag 4 b2,.ag 4 c2]]) func73 rfl rfl rfl ⟨F0 ⟨ha1.okc,hb1.okc,hc1.okc,trivial⟩,F0 ⟨ha2.okc,hb2.okc,hc2.okc,trivial⟩,trivial⟩ rfl ⟨ha1,hb1,hc1,ha2,hb2,hc2⟩ ?_
 refine G3 (fun x0=>.one (.ag 4 x0)) (fun x0=>qG x0 ((0 : Rat))) (fun β S w hS hs hw hG=>(kx (b22 hS))) ?_
 intro z
 refine r4 ?_
 refine n9 9 ?_
 refine d7 7 ?_
 refine q6 (fun x0=>.one (.ag 4 x0)) (fun x0=>qG x0 ((p.x * q.x))) (fun β η S w hS hs hw hG hd=>(kx (D7 hS hG.2.1 hG.2.2.2.2.1 (j7 hm.1) (j7 hn.1)))) ?_
 refine q6 (fun x0=>.one (.ag 4 x0)) (fun x0=>qG x0 ((0 + p.x * q.x))) (fun β η S w hS hs hw hG hd=>(kx (aa6 hS hG.1 (p8 hd 7 : (qG (η 7) ((p.x * q.x))).p S w) (H9 (dr0 1) (by decide)) (j7 (r7 hm.1 hn.1))))) ?_
 refine n5 [true,false] ((qG b1 p.y).and ((qG c1 p.z).and ((qG b2 q.y).and ((qG c2 q.z).and (Gh.nil))))) (by exact fun _ _ h=>⟨h.2.2.1,h.2.2.2.1,h.2.2.2.2.2.1,h.2.2.2.2.2.2,trivial⟩) (fun g η=>(qG (η 8) ((0 + p.x * q.x))).and g) (fun g η=>(by kernel_rfl)) ?_
 intro η_1
 refine n9 9 ?_
 refine d7 7 ?_
 refine q6 (fun x0=>.one (.ag 4 x0)) (fun x0=>qG x0 ((p.y * q.y))) (fun β η S w hS hs hw hG hd=>(kx (D7 hS hG.2.1 hG.2.2.2.1 (j7 hm.2.1) (j7 hn.2.1)))) ?_
 refine q6 (fun x0=>.one (.ag 4 x0)) (fun x0=>qG x0 ((0 + p.x * q.x + p.y * q.y))) (fun β η S w hS hs hw hG hd=>(kx (aa6 hS hG.1 (p8 hd 7 : (qG (η 7) ((p.y * q.y))).p S w) (j7 (ab8 (dr0 1) (r7 hm.1 hn.1))) (j7 (r7 hm.2.1 hn.2.1))))) ?_
 refine n5 [true,false] ((qG c1 p.z).and ((qG c2 q.z).and (Gh.nil))) (by exact fun _ _ h=>⟨h.2.2.1,h.2.2.2.2.1,trivial⟩) (fun g η=>(qG (η 8) ((0 + p.x * q.x + p.y * q.y))).and g) (fun g η=>(by kernel_rfl)) ?_
 intro η_2
 refine n9 9 ?_
 refine d7 7 ?_
 refine q6 (fun x0=>.one (.ag 4 x0)) (fun x0=>qG x0 ((p.z * q.z))) (fun β η S w hS hs hw hG hd=>(kx (D7 hS hG.2.1 hG.2.2.1 (j7 hm.2.2) (j7 hn.2.2)))) ?_
 refine q6 (fun x0=>.one (.ag 4 x0)) (fun x0=>qG x0 ((0 + p.x * q.x + p.y * q.y + p.z * q.z))) (fun β η S w hS hs hw hG hd=>(kx (aa6 hS hG.1 (p8 hd 7 : (qG (η 7) ((p.z * q.z))).p S w) (j7 (ab8 (ab8 (dr0 1) (r7 hm.1 hn.1)) (r7 hm.2.1 hn.2.1))) (j7 (r7 hm.2.2 hn.2.2))))) ?_
 refine n5 [true,false] (Gh.nil) (by exact fun _ _ h=>trivial) (fun g η=>(qG (η 8) ((0 + p.x * q.x + p.y * q.y + p.z * q.z))).and g) (fun g η=>(by kernel_rfl)) ?_
 intro η_3
 exact n8 ((η_3 8)) rfl (fun S w hs hw hG=>⟨hw,by rw [← d61]; exact hG.1.mono fun k _ hk=>hs k hk⟩)
theorem c20 {S : Nat → Prop} {w : World} {vp vq : Value} {p q : T3} {m n : Nat} (hS : Up S w) (hp : QTripV S w vp p) (hq : QTripV S w vq q) (hm : tl p m) (hn : tl q n) (hmn : m + n ≤ 1000000) :
  Gives prog 80 [vp,vq] w fun v' w'=>Ext w w' ∧ QTripV S w' v' (p.cross q):=by
 obtain ⟨a1,b1,c1,rfl,ha1,hb1,hc1⟩:=hp
 obtain ⟨a2,b2,c2,rfl,ha2,hb2,hc2⟩:=hq
 refine n7 (E:=env) (S0:=S) (G:=((qG a1 p.x).and ((qG b1 p.y).and ((qG c1 p.z).and ((qG a2 q.x).and ((qG b2 q.y).and (qG c2 q.z))))))) (l:=[.agg [.ag 4 a1,.ag 4 b1,.ag 4 c1],.agg [.ag 4 a2,.ag 4 b2,.ag 4 c2]]) func80 rfl rfl rfl ⟨F0 ⟨ha1.okc,hb1.okc,hc1.okc,trivial⟩,F0 ⟨ha2.okc,hb2.okc,hc2.okc,trivial⟩,trivial⟩ rfl ⟨ha1,hb1,hc1,ha2,hb2,hc2⟩ ?_
 refine r4 ?_
 refine n9 17 ?_
 refine d7 7 ?_
 refine q6 (fun x0=>.one (.ag 4 x0)) (fun x0=>qG x0 ((p.y * q.z))) (fun β η S w hS hs hw hG hd=>(kx (D7 hS hG.2.1 hG.2.2.2.2.2 (j7 hm.2.1) (j7 hn.2.2)))) ?_
 refine d7 6 ?_
 refine q6 (fun x0=>.one (.ag 4 x0)) (fun x0=>qG x0 ((p.z * q.y))) (fun β η S w hS hs hw hG hd=>(kx (D7 hS hG.2.2.1 hG.2.2.2.2.1 (j7 hm.2.2) (j7 hn.2.1)))) ?_
 refine q6 (fun x0=>.one (.ag 4 x0)) (fun x0=>qG x0 ((p.y * q.z - p.z * q.y))) (fun β η S w hS hs hw hG hd=>(kx (bb3 hS (p8 hd 7 : (qG (η 7) ((p.y * q.z))).p S w) (p8 hd 14 : (qG (η 14) ((p.z * q.y))).p S w) (j7 (r7 hm.2.1 hn.2.2)) (j7 (r7 hm.2.2 hn.2.1))))) ?_
 refine d7 1 ?_
 refine n5 [true,false,false] ((qG a1 p.x).and ((qG b1 p.y).and ((qG c1 p.z).and ((qG a2 q.x).and ((qG b2 q.y).and ((qG c2 q.z).and (Gh.nil))))))) (by exact fun _ _ h=>⟨h.1,h.2.1,h.2.2.1,h.2.2.2.1,h.2.2.2.2.1,h.2.2.2.2.2,trivial⟩) (fun g η=>(qG (η 15) ((p.y * q.z - p.z * q.y))).and g) (fun g η=>(by kernel_rfl)) ?_
 intro η_1
 refine n9 17 ?_
 refine d7 7 ?_
 refine q6 (fun x0=>.one (.ag 4 x0)) (fun x0=>qG x0 ((p.z * q.x))) (fun β η S w hS hs hw hG hd=>(kx (D7 hS hG.2.2.2.1 hG.2.2.2.2.1 (j7 hm.2.2) (j7 hn.1)))) ?_
 refine d7 6 ?_
 refine q6 (fun x0=>.one (.ag 4 x0)) (fun x0=>qG x0 ((p.x * q.z))) (fun β η S w hS hs hw hG hd=>(kx (D7 hS hG.2.1 hG.2.2.2.2.2.2.1 (j7 hm.1) (j7 hn.2.2)))) ?_
 refine q6 (fun x0=>.one (.ag 4 x0)) (fun x0=>qG x0 ((p.z * q.x - p.x * q.z))) (fun β η S w hS hs hw hG hd=>(kx (bb3 hS (p8 hd 7 : (qG (η 7) ((p.z * q.x))).p S w) (p8 hd 14 : (qG (η 14) ((p.x * q.z))).p S w) (j7 (r7 hm.2.2 hn.1)) (j7 (r7 hm.1 hn.2.2))))) ?_
 refine d7 1 ?_
 refine n5 [true,false,false] ((qG (η_1 15) ((p.y * q.z - p.z * q.y))).and ((qG a1 p.x).and ((qG b1 p.y).and ((qG a2 q.x).and ((qG b2 q.y).and (Gh.nil)))))) (by exact fun _ _ h=>⟨h.1,h.2.1,h.2.2.1,h.2.2.2.2.1,h.2.2.2.2.2.1,trivial⟩) (fun g η=>(qG (η 15) ((p.z * q.x - p.x * q.z))).and g) (fun g η=>(by kernel_rfl)) ?_
 intro η_2
 refine n9 17 ?_
 refine d7 7 ?_
 refine q6 (fun x0=>.one (.ag 4 x0)) (fun x0=>qG x0 ((p.x * q.y))) (fun β η S w hS hs hw hG hd=>(kx (D7 hS hG.2.2.1 hG.2.2.2.2.2.1 (j7 hm.1) (j7 hn.2.1)))) ?_
 refine d7 6 ?_
 refine q6 (fun x0=>.one (.ag 4 x0)) (fun x0=>qG x0 ((p.y * q.x))) (fun β η S w hS hs hw hG hd=>(kx (D7 hS hG.2.2.2.1 hG.2.2.2.2.1 (j7 hm.2.1) (j7 hn.1)))) ?_
 refine q6 (fun x0=>.one (.ag 4 x0)) (fun x0=>qG x0 ((p.x * q.y - p.y * q.x))) (fun β η S w hS hs hw hG hd=>(kx (bb3 hS (p8 hd 7 : (qG (η 7) ((p.x * q.y))).p S w) (p8 hd 14 : (qG (η 14) ((p.y * q.x))).p S w) (j7 (r7 hm.1 hn.2.1)) (j7 (r7 hm.2.1 hn.1))))) ?_
 refine d7 1 ?_
 refine n5 [true,false,false] ((qG (η_2 15) ((p.z * q.x - p.x * q.z))).and ((qG (η_1 15) ((p.y * q.z - p.z * q.y))).and (Gh.nil))) (by exact fun _ _ h=>⟨h.1,h.2.1,trivial⟩) (fun g η=>(qG (η 15) ((p.x * q.y - p.y * q.x))).and g) (fun g η=>(by kernel_rfl)) ?_
 intro η_3
 exact n8 (bc1 (η_1 15) (η_2 15) (η_3 15)) rfl (fun S w hs hw hG=>⟨hw,_,_,_,rfl,hG.2.2.1.mono fun k _ hk=>hs k hk,hG.2.1.mono fun k _ hk=>hs k hk,hG.1.mono fun k _ hk=>hs k hk⟩)
abbrev qvG (x : Value) (a : Value × Rat) : Gh:=(G9 (x = a.1)).and (qG x a.2)
abbrev qvF (x : Value) (a : Value × Rat) : Gh:=qvG x a
theorem ce8 {l : List (Value × Rat)} {j : Nat} (h : j < l.length) : l[j]? = some (l.getD j (undef,0)):=by rw [List.getD_eq_getElem?_getD,List.getElem?_eq_getElem h]; rfl
theorem bf5 {S : Nat → Prop} {w : World} {v : Value} {l : List (Value × Rat)} {p : Nat} (hS : Up S w) (h : SeqV true 4 qvF S w v l) (hpl : p < l.length) (hp0 : (l.getD p (undef,0)).2 ≠ 0) (hlow : ∀ j,j < p → (l.getD j (undef,0)).2 = 0) :
  Gives prog 43 [v] w fun v' w'=>v' = .tuple #[(l.getD p (undef,0)).1,.bool true] ∧ Ext w w':=by
 have hmx:=h.len_le
 unfold maxLen at hmx
 refine n7 (E:=env) (S0:=S) (G:=(bt5 true 4 qvF v l)) (l:=[.one (.sl v l.length)]) func43 rfl rfl rfl ⟨h.sl,trivial⟩ rfl h ?_
 refine Q6 (ι:=Nat) [(3,20)] (fun j=>[(4,.one (.int .i64 (j : Int)))]) (fun _=>[]) (fun j=>(bt5 true 4 qvF v l)) (fun j=>j ≤ p) (fun j=>p - j) (0) (Nat.zero_le _) (fun S w hw hG=>⟨x9 rfl,fun p hp=>by cases hp⟩) (fun S w hw hG=>hG) (fun hso j hj=>?_)
 have hlt' : j < l.length:=by omega
 have hx0:=ce8 hlt'
 refine U9 (p:=(j : Int) < (l.length : Int)) (by omega) ?_
 refine o5 (at0 v l.length (j : Int) 31 4 (fun u0=>atG true 4 (fun x0=>qvG x0 ((l.getD j (undef,0)))) u0) (by kernel_rfl) ⟨d6,hS,j6⟩ (fun β S w hM hw hG=>hG.el rfl rfl hx0) ?_)
 intro u_1
 refine o5 (a25 u_1 31 4 true (fun x0=>.one (.ag 4 x0)) (fun x0=>qvG x0 ((l.getD j (undef,0)))) (by kernel_rfl) ⟨d6,hS,j6⟩ (fun S w hw hG=>hG.1) (fun _ _ _ h=>⟨h.2.ok,rfl⟩) ?_)
 intro x
 refine A3 (.one (.int .i64 (l.getD j (undef,0)).2.num.sign)) rfl (fun β S w hS hs hw hG=>(kx (az5 hG.1.2))) ?_
 by_cases e : j = p
 ·subst e
  refine U9 (p:=¬ (l.getD j (undef,0)).2.num.sign = 0) (fun g=>hp0 (ai8.1 g)) ?_
  refine o5 (at0 v l.length (j : Int) 31 4 (fun u0=>atG true 4 (fun x0=>qvG x0 ((l.getD j (undef,0)))) u0) (by kernel_rfl) ⟨d6,hS,j6⟩ (fun β S w hM hw hG=>hG.2.2.el rfl rfl hx0) ?_)
  intro u_2
  refine o5 (a25 u_2 31 4 true (fun x0=>.one (.ag 4 x0)) (fun x0=>qvG x0 ((l.getD j (undef,0)))) (by kernel_rfl) ⟨d6,hS,j6⟩ (fun S w hw hG=>hG.1) (fun _ _ _ h=>⟨h.2.ok,rfl⟩) ?_)
  intro y
  refine S9 ?_
  exact n8 (.tuple #[y,.bool true]) rfl (fun S w hs hw hG=>⟨by rw [hG.1.1],hw⟩)
 refine Z8 (p:=¬ (l.getD j (undef,0)).2.num.sign = 0) (fun g=>g (ai8.2 (hlow j (by omega)))) ?_
 refine aj3 (ps:=[InR .i64 ((j : Int) + 1)]) (by simp only [L5,InR,and_true]; omega) ?_
 exact O5 (j + 1) ⟨d6,hS,j6⟩ hso (by kernel_rfl) (by kernel_rfl) (fun β=>(by kernel_rfl)) (fun β=>(by kernel_rfl)) (by kernel_rfl) (by omega) (by omega) (fun S w hw hG=>⟨x9 rfl,fun p hp=>by cases hp⟩) (fun S w hw hG=>hG.2.2)
theorem c96 {S : Nat → Prop} {w : World} {v : Value} {l : List (Value × Rat)} (hS : Up S w) (h : SeqV true 4 qvF S w v l) (h0 : ∀ j,j < l.length → (l.getD j (undef,0)).2 = 0) :
  Gives prog 43 [v] w fun v' w'=>v' = .tuple #[b20,.bool false] ∧ Ext w w':=by
 have hmx:=h.len_le
 unfold maxLen at hmx
 refine n7 (E:=env) (S0:=S) (G:=(bt5 true 4 qvF v l)) (l:=[.one (.sl v l.length)]) func43 rfl rfl rfl ⟨h.sl,trivial⟩ rfl h ?_
 refine Q6 (ι:=Nat) [(3,20)] (fun j=>[(4,.one (.int .i64 (j : Int)))]) (fun _=>[]) (fun j=>(bt5 true 4 qvF v l)) (fun j=>j ≤ l.length) (fun j=>l.length - j) (0) (Nat.zero_le _) (fun S w hw hG=>⟨x9 rfl,fun p hp=>by cases hp⟩) (fun S w hw hG=>hG) (fun hso j hj=>?_)
 refine W0 (p:=(j : Int) < (l.length : Int)) (fun hlt=>?_) (fun hlt=>?_)
 ·have hlt' : j < l.length:=by omega
  have hx0:=ce8 hlt'
  refine o5 (at0 v l.length (j : Int) 31 4 (fun u0=>atG true 4 (fun x0=>qvG x0 ((l.getD j (undef,0)))) u0) (by kernel_rfl) ⟨d6,hS,j6⟩ (fun β S w hM hw hG=>hG.el rfl rfl hx0) ?_)
  intro u_1
  refine o5 (a25 u_1 31 4 true (fun x0=>.one (.ag 4 x0)) (fun x0=>qvG x0 ((l.getD j (undef,0)))) (by kernel_rfl) ⟨d6,hS,j6⟩ (fun S w hw hG=>hG.1) (fun _ _ _ h=>⟨h.2.ok,rfl⟩) ?_)
  intro x
  refine A3 (.one (.int .i64 (l.getD j (undef,0)).2.num.sign)) rfl (fun β S w hS hs hw hG=>(kx (az5 hG.1.2))) ?_
  refine Z8 (p:=¬ (l.getD j (undef,0)).2.num.sign = 0) (fun g=>g (ai8.2 (h0 j hlt'))) ?_
  refine aj3 (ps:=[InR .i64 ((j : Int) + 1)]) (by simp only [L5,InR,and_true]; omega) ?_
  exact O5 (j + 1) ⟨d6,hS,j6⟩ hso (by kernel_rfl) (by kernel_rfl) (fun β=>(by kernel_rfl)) (fun β=>(by kernel_rfl)) (by kernel_rfl) (by omega) (by omega) (fun S w hw hG=>⟨x9 rfl,fun p hp=>by cases hp⟩) (fun S w hw hG=>hG.2.2)
 refine S9 ?_
 exact n8 (.tuple #[b20,.bool false]) rfl (fun S w hs hw hG=>⟨rfl,hw⟩)
theorem qv3 {S : Nat → Prop} {w : World} {a b c : Value} {t : T3} (h1 : QV S w a t.x) (h2 : QV S w b t.y) (h3 : QV S w c t.z) : ElsV true 4 qvF S w [a,b,c] [(a,t.x),(b,t.y),(c,t.z)]:=by
 refine ⟨rfl,fun x hx=>?_,fun i q x hq hx=>?_⟩
 ·simp only [List.mem_cons,List.not_mem_nil,or_false] at hx
  rcases hx with rfl | rfl | rfl
  ·exact h1.lies
  ·exact h2.lies
  exact h3.lies
 match i with
 | 0=>simp at hq hx; subst hq hx; exact ⟨rfl,h1⟩
 | 1=>simp at hq hx; subst hq hx; exact ⟨rfl,h2⟩
 | 2=>simp at hq hx; subst hq hx; exact ⟨rfl,h3⟩
 | i + 3=>simp at hq
noncomputable def ch0 (t : T3) (a b c : Value) : Value:=if t.x ≠ 0 then a else if t.y ≠ 0 then b else c
theorem c87 {S : Nat → Prop} {w : World} {a b c : Value} {t : T3} (h1 : QV S w a t.x) (h2 : QV S w b t.y) (h3 : QV S w c t.z) : QV S w (ch0 t a b c) t.lead:=by
 unfold ch0 T3.lead
 split
 ·exact h1
 split
 ·exact h2
 exact h3
theorem cj7 {S : Nat → Prop} {w : World} {v a b c : Value} {t : T3} (hS : Up S w) (h : SeqV true 4 qvF S w v [(a,t.x),(b,t.y),(c,t.z)]) (hn : ¬ t.None) :
  Gives prog 43 [v] w fun v' w'=>v' = .tuple #[ch0 t a b c,.bool true] ∧ Ext w w':=by
 unfold ch0
 by_cases hx : t.x = 0
 ·by_cases hy : t.y = 0
  ·have hz : t.z ≠ 0:=fun hz=>hn ⟨hx,hy,hz⟩
   rw [if_neg (fun h=>h hx),if_neg (fun h=>h hy)]
   exact bf5 (p:=2) hS h (by simp) hz fun j hj=>by
    match j,hj with
    | 0,_=>exact hx
    | 1,_=>exact hy
  rw [if_neg (fun h=>h hx),if_pos hy]
  exact bf5 (p:=1) hS h (by simp) hy fun j hj=>by
   match j,hj with
   | 0,_=>exact hx
 rw [if_pos hx]
 exact bf5 (p:=0) hS h (by simp) hx fun j hj=>absurd hj (Nat.not_lt_zero _)
theorem c76 {S : Nat → Prop} {w : World} {v a b c : Value} {t : T3} (hS : Up S w) (h : SeqV true 4 qvF S w v [(a,t.x),(b,t.y),(c,t.z)]) (hn : t.None) :
  Gives prog 43 [v] w fun v' w'=>v' = .tuple #[b20,.bool false] ∧ Ext w w':=
 c96 hS h fun j hj=>by
  match j,hj with
  | 0,_=>exact hn.1
  | 1,_=>exact hn.2.1
  | 2,_=>exact hn.2.2
theorem ad2 {S : Nat → Prop} {w : World} {vp : Value} {p : T3} (hS : Up S w) (hp : QTripV S w vp p) :
  Gives prog 66 [vp] w fun v' w'=>v' = .bool (tst p.None) ∧ Ext w w':=by
 obtain ⟨a,b,c,rfl,ha,hb,hc⟩:=hp
 refine n7 (E:=env) (S0:=S) (G:=((qG a p.x).and ((qG b p.y).and (qG c p.z)))) (l:=[.agg [.ag 4 a,.ag 4 b,.ag 4 c]]) func66 rfl rfl rfl ⟨F0 ⟨ha.okc,hb.okc,hc.okc,trivial⟩,trivial⟩ rfl ⟨ha,hb,hc⟩ ?_
 by_cases hn : p.None
 ·refine K7 (.tup [(true,[.bb false,.sl (.slice none 0 0) 0,.bb false,.sl (.slice none 0 0) 0]),(false,[.bb false])]) rfl (fun β S w hS hM hs hw hG=>(kx (c76 (r5 hS) (D1 (F:=qvF) (l:=[(a,p.x),(b,p.y),(c,p.z)]) 0 33 [a,b,c] hM (by kernel_rfl) (qv3 hG.1 hG.2.1 hG.2.2) (show 3 ≤ maxLen by decide)) hn))) ?_
  exact n8 (.bool true) rfl (fun S w hs hw hG=>⟨by rw [l9 hn],hw⟩)
 refine dp6 (fun x0=>pr (.ag 4 (K3 x0 0)) (.bb true)) (fun x0=>bG (fun x1=>qG x1 (p.lead)) true x0) ⟨d6,hS,j6⟩ (by kernel_rfl) (by kernel_rfl) (fun _ _ _ h=>bq7 h) (fun β S w hS hM hs hw hG=>(kx ((cj7 (r5 hS) (D1 (F:=qvF) (l:=[(a,p.x),(b,p.y),(c,p.z)]) 0 33 [a,b,c] hM (by kernel_rfl) (qv3 hG.1 hG.2.1 hG.2.2) (show 3 ≤ maxLen by decide)) hn).mono fun v' w' h=>⟨h.2,by rw [h.1]; rfl,by rw [h.1]; exact (c87 hG.1 hG.2.1 hG.2.2).to h.2⟩))) ?_
 intro y
 exact n8 (.bool false) rfl (fun S w hs hw hG=>⟨by rw [l6 hn],hw⟩)
theorem K0 {q : Rat} (h : q ≠ 0) : q.num ≠ 0:=fun e=>h (Rat.num_eq_zero.1 e)
theorem ao7 {t : T3} {n : Nat} (h : tl t n) : rl t.lead n:=by
 unfold T3.lead
 split
 ·exact h.1
 split
 ·exact h.2.1
 exact h.2.2
theorem co6 {S : Nat → Prop} {w : World} {vp : Value} {p : T3} {m : Nat} (hS : Up S w) (hp : QTripV S w vp p) (hm : tl p m) (hmm : m ≤ 1000000) (hnn : ¬ p.None) :
  Gives prog 46 [vp] w fun v' w'=>Ext w w' ∧ QTripV S w' v' p.normal:=by
 have hl0:=T3.lead_ne hnn
 obtain ⟨a,b,c,rfl,ha,hb,hc⟩:=hp
 refine n7 (E:=env) (S0:=S) (G:=((qG a p.x).and ((qG b p.y).and (qG c p.z)))) (l:=[.agg [.ag 4 a,.ag 4 b,.ag 4 c]]) func46 rfl rfl rfl ⟨F0 ⟨ha.okc,hb.okc,hc.okc,trivial⟩,trivial⟩ rfl ⟨ha,hb,hc⟩ ?_
 refine dp6 (fun x0=>pr (.ag 4 (K3 x0 0)) (.bb true)) (fun x0=>bG (fun x1=>qG x1 (p.lead)) true x0) ⟨d6,hS,j6⟩ (by kernel_rfl) (by kernel_rfl) (fun _ _ _ h=>bq7 h) (fun β S w hS hM hs hw hG=>(kx ((cj7 (r5 hS) (D1 (F:=qvF) (l:=[(a,p.x),(b,p.y),(c,p.z)]) 0 33 [a,b,c] hM (by kernel_rfl) (qv3 hG.1 hG.2.1 hG.2.2) (show 3 ≤ maxLen by decide)) hnn).mono fun v' w' h=>⟨h.2,by rw [h.1]; rfl,by rw [h.1]; exact (c87 hG.1 hG.2.1 hG.2.2).to h.2⟩))) ?_
 intro y
 refine r4 ?_
 refine n9 7 ?_
 refine d7 5 ?_
 refine q6 (fun x0=>.one (.ag 4 x0)) (fun x0=>qG x0 ((p.x / p.lead))) (fun β η S w hS hs hw hG hd=>(kx (bn8 hS hG.2.1 hG.1.2 (j7 hm.1) (j7 (ao7 hm)) (K0 hl0)))) ?_
 refine d7 1 ?_
 refine n5 [true] ((bG (fun x1=>qG x1 (p.lead)) true y).and ((qG b p.y).and ((qG c p.z).and (Gh.nil)))) (by exact fun _ _ h=>⟨h.1,h.2.2.1,h.2.2.2,trivial⟩) (fun g η=>(qG (η 5) ((p.x / p.lead))).and g) (fun g η=>(by kernel_rfl)) ?_
 intro η_1
 refine n9 7 ?_
 refine d7 5 ?_
 refine q6 (fun x0=>.one (.ag 4 x0)) (fun x0=>qG x0 ((p.y / p.lead))) (fun β η S w hS hs hw hG hd=>(kx (bn8 hS hG.2.2.1 hG.2.1.2 (j7 hm.2.1) (j7 (ao7 hm)) (K0 hl0)))) ?_
 refine d7 1 ?_
 refine n5 [true] ((qG (η_1 5) ((p.x / p.lead))).and ((bG (fun x1=>qG x1 (p.lead)) true y).and ((qG c p.z).and (Gh.nil)))) (by exact fun _ _ h=>⟨h.1,h.2.1,h.2.2.2.1,trivial⟩) (fun g η=>(qG (η 5) ((p.y / p.lead))).and g) (fun g η=>(by kernel_rfl)) ?_
 intro η_2
 refine n9 7 ?_
 refine d7 5 ?_
 refine q6 (fun x0=>.one (.ag 4 x0)) (fun x0=>qG x0 ((p.z / p.lead))) (fun β η S w hS hs hw hG hd=>(kx (bn8 hS hG.2.2.2.1 hG.2.2.1.2 (j7 hm.2.2) (j7 (ao7 hm)) (K0 hl0)))) ?_
 refine d7 1 ?_
 refine n5 [true] ((qG (η_2 5) ((p.y / p.lead))).and ((qG (η_1 5) ((p.x / p.lead))).and (Gh.nil))) (by exact fun _ _ h=>⟨h.1,h.2.1,trivial⟩) (fun g η=>(qG (η 5) ((p.z / p.lead))).and g) (fun g η=>(by kernel_rfl)) ?_
 intro η_3
 exact n8 (bc1 (η_1 5) (η_2 5) (η_3 5)) rfl (fun S w hs hw hG=>⟨hw,_,_,_,rfl,hG.2.2.1.mono fun k _ hk=>hs k hk,hG.2.1.mono fun k _ hk=>hs k hk,hG.1.mono fun k _ hk=>hs k hk⟩)
section
variable {c : Cx} {st : St} {G : Gh} {all : List Oper} {K : List HRec → Prop} {acc : List HRec} {ops : List Oper}
noncomputable def hpS (c : Cx) (st : St) (acc : List HRec) (ops : List Oper) (η : Nat → Value) : SV:=match b91 c.E st.hp (frH st acc η) (opH ops) with | some (s,_)=>s | none=>.und
theorem ce2 (p : Value → SV) (Δ : Value → Gh) (hc : c.Ok) (hok : ∀ η,aq7 all st acc ops η = true) (hv : ∀ η,b91 c.E st.hp (frH st acc η) (opH ops) = some (hpS c st acc ops η,[]))
  (h : ∀ β η S w,Up S w → Mem c.bs st.hp β w → (∀ k,S k → c.S0 k) → Keeps c.K c.w0 w → G.p S w → depsH acc (opH ops).after.toList η S w → ∃ v,(hpS c st acc ops η).den β = v ∧ v = (p v).den (fun _=>0) ∧ (p v).Ok 0 ∧ (Δ v).p S w)
  (k : Hd c st G all K (.spec ((opH ops).dst.getD 0) p Δ :: acc) (ops.drop 1)) : Hd c st G all K acc ops:=by
 refine bb4 p Δ hok (fun β η S w F m ty hkn hup hM hS hw hG hd=>?_) k
 obtain ⟨v,h1,h2,h3,h4⟩:=h β η S w hup hM hS hw hG hd
 have hkn2 : ab4 β (max m st.hp.length) (frH st acc η) (ev F) (opH ops).op:=fun x hx s hs=>by
  obtain ⟨e1,e2⟩:=hkn x hx s hs
  exact ⟨e1,e2.le (Nat.le_max_left _ _)⟩
 have he:=hv η
 generalize hpS c st acc ops η = s at he h1
 unfold b91 at he
 split at he <;> first | (cases he; done) | skip
 rename_i s' vc' hp
 simp only [Option.some.injEq,Prod.mk.injEq] at he
 obtain ⟨rfl,rfl⟩:=he
 have h5:=(bp8 (P:=c.P) (ty:=ty) (Nat.le_max_right m st.hp.length) hc.env hM hkn2 (ab0 hp).1 trivial).1
 exact ⟨v,h1 ▸ h5,h2,h3,h4⟩
end
def cel (v : Value) (o n : Nat) : Value:=.agg ((v.cells.toList.drop o).take n).toArray
theorem R6 {g : Bool} {n : Nat} {v : Value} {vs : List Value} (h : v.cells.toList = z7 vs) (hl : ∀ x ∈ vs,K4 true n x) {i : Nat} {x : Value} (hx : vs[i]? = some x) : cel v (i * n) n = x:=by
 unfold cel
 rw [h]
 unfold z7
 rw [aj1 hl hx]
 have h2:=(hl x (List.mem_of_getElem? hx)).2
 simp only [cond_true] at h2
 rw [h2]
 simp [Value.cells]
abbrev S5 (v : Value) (t : T3) : Gh:=⟨fun S w=>v = (SV.agg [.ag 3 (cel v 0 3),.ag 3 (cel v 3 3),.ag 3 (cel v 6 3)]).den (fun _=>0) ∧ RatV S w (cel v 0 3) t.x ∧ RatV S w (cel v 3 3) t.y ∧ RatV S w (cel v 6 3) t.z,fun h k=>⟨h.1,h.2.1.keep k,h.2.2.1.keep k,h.2.2.2.keep k⟩,fun h k=>⟨h.1,h.2.1.mono k,h.2.2.1.mono k,h.2.2.2.mono k⟩⟩
abbrev be7 (v : Value) (t : T3) : Gh:=⟨fun S w=>v = (SV.agg [.ag 4 (cel v 0 4),.ag 4 (cel v 4 4),.ag 4 (cel v 8 4)]).den (fun _=>0) ∧ QV S w (cel v 0 4) t.x ∧ QV S w (cel v 4 4) t.y ∧ QV S w (cel v 8 4) t.z,fun h k=>⟨h.1,h.2.1.keep k,h.2.2.1.keep k,h.2.2.2.keep k⟩,fun h k=>⟨h.1,h.2.1.mono k,h.2.2.1.mono k,h.2.2.2.mono k⟩⟩
section
variable {S : Nat → Prop} {w : World} {v : Value} {t : T3}
theorem P5 (h : (S5 v t).p S w) : (SV.agg [.ag 3 (cel v 0 3),.ag 3 (cel v 3 3),.ag 3 (cel v 6 3)]).Ok 0 ∧ (SV.agg [.ag 3 (cel v 0 3),.ag 3 (cel v 3 3),.ag 3 (cel v 6 3)]).den (fun _=>0) = v:=
 ⟨F0 ⟨h.2.1.okc,h.2.2.1.okc,h.2.2.2.okc,trivial⟩,h.1.symm⟩
theorem cs6 (h : (be7 v t).p S w) : (SV.agg [.ag 4 (cel v 0 4),.ag 4 (cel v 4 4),.ag 4 (cel v 8 4)]).Ok 0 ∧ (SV.agg [.ag 4 (cel v 0 4),.ag 4 (cel v 4 4),.ag 4 (cel v 8 4)]).den (fun _=>0) = v:=
 ⟨F0 ⟨h.2.1.okc,h.2.2.1.okc,h.2.2.2.okc,trivial⟩,h.1.symm⟩
theorem bi4 (h : TripV S w v t) : (S5 v t).p S w:=by
 obtain ⟨a,b,c,hv,h1,h2,h3⟩:=h
 have hl : ∀ x ∈ [a,b,c],K4 true 3 x:=by
  intro x hx
  simp only [List.mem_cons,List.not_mem_nil,or_false] at hx
  rcases hx with rfl | rfl | rfl
  ·exact h1.lies
  ·exact h2.lies
  exact h3.lies
 have hc : v.cells.toList = z7 [a,b,c]:=by rw [hv]; exact ag2 h1.lies h2.lies h3.lies
 have e1 : cel v 0 3 = a:=R6 (g:=true) (i:=0) hc hl rfl
 have e2 : cel v 3 3 = b:=R6 (g:=true) (i:=1) hc hl rfl
 have e3 : cel v 6 3 = c:=R6 (g:=true) (i:=2) hc hl rfl
 show v = _ ∧ _
 rw [e1,e2,e3]
 exact ⟨hv,h1,h2,h3⟩
theorem dy0 (h : QTripV S w v t) : (be7 v t).p S w:=by
 obtain ⟨a,b,c,hv,h1,h2,h3⟩:=h
 have hl : ∀ x ∈ [a,b,c],K4 true 4 x:=by
  intro x hx
  simp only [List.mem_cons,List.not_mem_nil,or_false] at hx
  rcases hx with rfl | rfl | rfl
  ·exact h1.lies
  ·exact h2.lies
  exact h3.lies
 have hc : v.cells.toList = z7 [a,b,c]:=by rw [hv]; exact bg1
 have e1 : cel v 0 4 = a:=R6 (g:=true) (i:=0) hc hl rfl
 have e2 : cel v 4 4 = b:=R6 (g:=true) (i:=1) hc hl rfl
 have e3 : cel v 8 4 = c:=R6 (g:=true) (i:=2) hc hl rfl
 show v = _ ∧ _
 rw [e1,e2,e3]
 exact ⟨hv,h1,h2,h3⟩
end
section
variable {c : Cx} {o : Out} {G : Gh}
end
theorem QTripV.lies {S : Nat → Prop} {w : World} {v : Value} {t : T3} (h : QTripV S w v t) : K4 true 12 v:=by
 obtain ⟨us,rfl,h2,_⟩:=h.ok
 have:=ak0 us
 rwa [h2] at this
theorem ElsV.snoc {α : Type} {g : Bool} {s : Nat} {F : Value → α → Gh} {S : Nat → Prop} {w : World} {vs : List Value} {l : List α} {y : Value} {a : α} (h : ElsV g s F S w vs l) (hy : K4 g s y) (hF : (F y a).p S w) : ElsV g s F S w (vs ++ [y]) (l ++ [a]):=by
 refine ⟨by simp [h.len],fun x hx=>?_,fun i b x h1 h2=>?_⟩
 ·rcases List.mem_append.1 hx with hx | hx
  ·exact h.lies x hx
  rw [List.mem_singleton.1 hx]; exact hy
 rcases Nat.lt_trichotomy i l.length with hi | hi | hi
 ·rw [List.getElem?_append_left hi] at h1
  rw [List.getElem?_append_left (by rw [h.len]; exact hi)] at h2
  exact h.el i b x h1 h2
 ·rw [List.getElem?_append_right (by omega),hi,Nat.sub_self] at h1
  rw [List.getElem?_append_right (by rw [h.len]; omega),h.len,hi,Nat.sub_self] at h2
  simp at h1 h2
  subst h1 h2
  exact hF
 rw [List.getElem?_eq_none (by simp; omega)] at h1
 cases h1
theorem df3 {α : Type} {g : Bool} {s : Nat} {F : Value → α → Gh} {S : Nat → Prop} {w : World} : ElsV g s F S w [] ([] : List α):=⟨rfl,fun _ h=>(by cases h),fun i a x h=>(by simp at h)⟩
theorem ElsV.take {α : Type} {g : Bool} {s : Nat} {F : Value → α → Gh} {S : Nat → Prop} {w : World} {vs : List Value} {l : List α} (h : ElsV g s F S w vs l) (n : Nat) : ElsV g s F S w (vs.take n) (l.take n):=by
 refine ⟨by simp [h.len],fun x hx=>h.lies x (List.mem_of_mem_take hx),fun i a x h1 h2=>?_⟩
 rw [List.getElem?_take] at h1 h2
 split at h1
 ·rename_i hi
  rw [if_pos hi] at h2
  exact h.el i a x h1 h2
 cases h1
theorem ElsV.ofRow {α : Type} {g : Bool} {s : Nat} {F : Value → α → Gh} {S : Nat → Prop} {T : TypeId} {w : World} {vs : List Value} {l : List α} {v : Value} {n : Nat} (h : ElsV g s F S w vs l) (hr : Row S T s w v n (z7 vs)) (hn : n = l.length) : SeqV g s F S w v l:=by
 subst hn
 exact ⟨T,vs,h.len,h.lies,hr,h.el⟩
theorem bm1 {g : Bool} {s : Nat} {vs : List Value} (h : ∀ x ∈ vs,K4 g s x) (n : Nat) : (z7 vs).take (n * s) = z7 (vs.take n):=by
 induction n generalizing vs with
 | zero=>simp [z7]
 | succ n ih=>
  cases vs with
  | nil=>simp [z7]
  | cons x r=>
   have h1:=(h x (List.mem_cons_self ..)).1
   have h2:=ih (vs:=r) fun y hy=>h y (List.mem_cons_of_mem _ hy)
   unfold z7 at h2 ⊢
   rw [List.flatMap_cons,List.take_succ_cons,List.flatMap_cons,Nat.add_mul,Nat.one_mul,Nat.add_comm,← h1,List.take_length_add_append,h1,h2]
def dz2 (a : Nat → Int) : Value:=.agg #[.int .i64 (a 0),.int .i64 (a 1),.int .i64 (a 2),.int .i64 (a 3),.int .i64 (a 4),.int .i64 (a 5)]
def Six (a : Nat → Int) : Prop:=∀ i,i < 6 → -9223372036854775808 ≤ a i ∧ a i ≤ 9223372036854775807
end Go.Proofs.YtmjbiocildkhnaaGreatDoor
end

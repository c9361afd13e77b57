/- Part 5. -/
import Derived.Test.YtmjbiocildkhnaaGreatDoorKeepsA4
import Derived.Test.YtmjbiocildkhnaaGreatDoorKeepsA1
import Derived.Test.YtmjbiocildkhnaaGreatDoorKeepsA3
import Derived.Test.YtmjbiocildkhnaaGreatDoorKeepsA2
import Derived.Deep.Slices
set_option linter.unusedSimpArgs false
set_option linter.unusedVariables false
set_option maxRecDepth 100000
set_option maxHeartbeats 8000000
section
namespace Go.Proofs.YtmjbiocildkhnaaGreatDoor
open Go Go.RowKit Tryz
def bb5 (o : Out) : Option (Nat × Op):=match o.cur with | .ops _ (o1 :: _)=>(match o1.guard,o1.dst with | none,some d=>some (d,o1.op) | _,_=>none) | _=>none
def do7 (o : Out) : Option Op:=match o.cur with | .ops _ (o1 :: _)=>(match o1.guard,o1.dst with | none,none=>some o1.op | _,_=>none) | _=>none
def W4 (o : Out) (s : SV) (hp : List HE) : Out:=match o.cur with | .ops all (o1 :: r)=>⟨.ops all r,o.k,⟨(o1.dst.getD 0,s) :: o.st.fr,hp⟩,[]⟩ | _=>o
def cm9 (o : Out) (hp : List HE) : Out:=match o.cur with | .ops all (o1 :: r)=>⟨.ops all r,o.k,⟨o.st.fr,hp⟩,[]⟩ | _=>o
section
variable {c : Cx} {o : Out} {G : Gh}
theorem bx4 [Rd] {α : Type} {d : Nat} {op : Op} (pat : α → SV) (Δ : α → Gh) (hop : bb5 o = some (d,op))
  (h : ∀ β S w F ty,ab6 β o.st.hp.length o.st.fr (ev F) op → Mem c.bs o.st.hp β w → Up S w → (∀ k,S k → c.S0 k) → Keeps c.K c.w0 w → G.p S w → ∃ a w',Ext w w' ∧ (pat a).Ok o.st.hp.length ∧ (Δ a).p S w' ∧ af0 c.P (ev F) op ty w ((pat a).den β) ∧ w' = w)
  (hc : c.Ok) (hn : ∀ a,Run c (W4 o (pat a) o.st.hp) ((Δ a).and G)) : Run c o G:=by
 refine ⟨fun β ρ w hS hw hG=>?_⟩
 unfold bb5 at hop
 cases hcur : o.cur with
 | code x=>rw [hcur] at hop; cases hop
 | ex e=>rw [hcur] at hop; cases hop
 | ops all l=>
  cases l with
  | nil=>rw [hcur] at hop; cases hop
  | cons o1 r=>
   rw [hcur] at hop
   obtain ⟨dst,op',ty,pos,aft,g⟩:=o1
   simp only at hop
   cases g with
   | some x=>cases hop
   | none=>
    cases dst with
    | none=>cases hop
    | some d'=>
     simp only [Option.some.injEq,Prod.mk.injEq] at hop
     obtain ⟨rfl,rfl⟩:=hop
     obtain ⟨a,w',hk,hok,hΔ,hr,rfl⟩:=h β _ w ρ ty (hS.ops _) hS.mem (Sof.up (hc.up.to hw) hS.mem) (fun k hk=>hk.1) hw hG
     refine am2 rfl ?_
     unfold Stp
     rw [hr]
     have h1:=(hn a).run
     unfold W4 at h1
     rw [hcur] at h1
     exact h1 β _ w' (hS.put rfl hok) hw ⟨hΔ,hG⟩
def ds1 (E : Env) (o : Out) : Option (Value × Nat × Int × TypeId × Nat):=
 match bb5 o with
 | some (_,.indexAddr t x ix)=>match opd o.st.fr x,opd o.st.fr ix,D1 E t with
  | some (.one (.sl v n)),some (.one (.int _ i)),.slice e=>(E.get e).map fun te=>(v,n,i,e,te.size)
  | some (.one (.sl v n)),some (.one (.lit _ i)),.slice e=>(E.get e).map fun te=>(v,n,i,e,te.size)
  | _,_,_=>none
 | _=>none
theorem c25 [Rd] (v : Value) (n : Nat) (i : Int) (e : TypeId) (sz : Nat) (hq : ds1 c.E o = some (v,n,i,e,sz)) (hc : c.Ok) (h0 : 0 ≤ i) (h1 : i < n) (hrow : ∀ β S w,Mem c.bs o.st.hp β w → Keeps c.K c.w0 w → G.p S w → ∃ S' T' cs,Row S' T' sz w v n cs)
  (hn : Run c (W4 o (.one (.val (.pointer (some (adr v (i.toNat * sz)))))) o.st.hp) G) : Run c o G:=by
 unfold ds1 at hq
 split at hq <;> first | (cases hq; done) | skip
 rename_i d t x ix hop
 have key : ∀ (ch : Ch) (kk : IntKind),(∀ β,ch.den β = .int kk i) → opd o.st.fr x = some (.one (.sl v n)) → opd o.st.fr ix = some (.one ch) → D1 c.E t = .slice e → ∀ te,c.E.get e = some te → te.size = sz → Run c o G:=by
  intro ch kk hch hx hi hk te hte hsz
  subst hsz
  refine bx4 (α:=Unit) (fun _=>.one (.val (.pointer (some (adr v (i.toNat * te.size)))))) (fun _=>.nil) hop (fun β S w F ty hkn hM hup hS hw hG=>⟨(),w,.refl,rfl,trivial,?_,rfl⟩) hc fun _=>at8 (fun S w _ h=>h.2) hn
  obtain ⟨S',T',cs,hr⟩:=hrow β S w hM hw hG
  have g1:=(hkn x (by simp [Op.operands]) _ hx).1
  have g2:=(hkn ix (by simp [Op.operands]) _ hi).1
  have hkd:=D8 (t:=t) hc.env
  rw [hk] at hkd
  have hkd' : c.P.underlying t = some (.slice e):=hkd
  obtain ⟨z,hty,_⟩:=(hc.env.get hte).ty
  intro d pos aft g
  rcases hr.2 with ⟨_,h2⟩ | ⟨gg,off,cap,arr,fr,hv2,_⟩
  ·omega
  have g1' : ev F x = .slice (some ⟨gg,off,none⟩) n cap:=by rw [g1]; exact hv2
  have g2' : ev F ix = .int kk i:=by rw [g2]; exact hch β
  simp [execOp,g1',g2',Instr.indexAt,asIntOf,run_underlying hkd',h0,h1,hty.runSize w,adr,hv2,R4,SV.den,Ch.den]
 split at hq <;> first | (cases hq; done) | skip
 ·rename_i v' n' kk i' e' hx hi hk
  cases hte : c.E.get e' with
  | none=>rw [hte] at hq; cases hq
  | some te=>
   rw [hte] at hq
   simp only [Option.map_some,Option.some.injEq,Prod.mk.injEq] at hq
   obtain ⟨rfl,rfl,rfl,rfl,hsz⟩:=hq
   exact key _ kk (fun β=>rfl) hx hi hk te hte hsz
 rename_i v' n' kk i' e' hx hi hk
 cases hte : c.E.get e' with
 | none=>rw [hte] at hq; cases hq
 | some te=>
  rw [hte] at hq
  simp only [Option.map_some,Option.some.injEq,Prod.mk.injEq] at hq
  obtain ⟨rfl,rfl,rfl,rfl,hsz⟩:=hq
  exact key _ kk (fun β=>rfl) hx hi hk te hte hsz
def ldQ (E : Env) (o : Out) : Option (Value × TypeId × Nat × Bool):=
 match bb5 o with
 | some (_,.load T x)=>match opd o.st.fr x with
  | some (.one (.val p))=>(E.get T).map fun te=>(p,T,te.size,te.agg)
  | _=>none
 | _=>none
end
section
variable {base : Bs} {st : St} {β : Nat → Nat} {ρ : Fr} {w w' : World} {d : Nat} {T : TypeId} {s n : Nat} {v : Value} {cs : List Value}
theorem bn6 {bb : Nat} (h : Own bb T s w v n cs) : ∃ a cap,v = .slice a n cap ∧ n ≤ cap:=by
 rcases h.2 with ⟨h1,h2⟩ | ⟨g,cap,cur,rfl,_,_,h3,_⟩
 ·subst h2; exact ⟨none,0,h1,Nat.le_refl _⟩
 exact ⟨_,cap,rfl,h3⟩
theorem ax0 {hp : List HE} {i k : Nat} : m9 β (hp ++ [.row T s v n cs]) i k ↔ (i = hp.length ∧ v.ownBlock = some k) ∨ (i ≠ hp.length ∧ m9 β hp i k):=by
 by_cases e : i = hp.length
 ·subst e
  rw [P8 (e:=.row T s v n cs) (by simp)]
  simp [HE.mine]
 by_cases hl : i < hp.length
 ·unfold m9
  rw [List.getElem?_append_left hl]
  simp [e]
 have h1 : ¬ m9 β hp i k:=af8 (List.getElem?_eq_none (by omega))
 have h2 : ¬ m9 β (hp ++ [.row T s v n cs]) i k:=af8 (List.getElem?_eq_none (by simp; omega))
 simp [e,h1,h2]
theorem Sat.newRow (h : Sat base st β ρ w) (k : Ext w w') (hown : Own 0 T s w' v n cs) (hb : base.n ≤ w.heap.size) (hnew : ∀ g,v.ownBlock = some g → w.heap.size ≤ g) :
  Sat base ⟨st.fr,st.hp ++ [.row T s v n cs]⟩ β ρ w':=by
 have hlen : (st.hp ++ [HE.row T s v n cs]).length = st.hp.length + 1:=by simp
 have h2:=h.to k
 have inv : ∀ {i : Nat} {x : HE},(st.hp ++ [HE.row T s v n cs])[i]? = some x → (i < st.hp.length ∧ st.hp[i]? = some x) ∨ (i = st.hp.length ∧ x = .row T s v n cs):=by
  intro i x hi
  have h3:=(List.getElem?_eq_some_iff.1 hi).1
  rw [hlen] at h3
  rcases Nat.lt_or_ge i st.hp.length with h4 | h4
  ·rw [List.getElem?_append_left h4] at hi; exact .inl ⟨h4,hi⟩
  obtain rfl : i = st.hp.length:=by omega
  simp at hi
  exact .inr ⟨rfl,hi.symm⟩
 refine ⟨fun i s' hs=>?_,⟨?_,?_,?_,?_,?_⟩,by rw [hlen]; exact Nat.le_succ_of_le h.agr.1,h.agr.2⟩
 ·rw [hlen]
  obtain ⟨e1,e2⟩:=h.fr i s' hs
  exact ⟨e1,e2.le (Nat.le_succ _)⟩
 ·intro i T' l hi
  rw [hlen]
  rcases inv hi with ⟨_,h4⟩ | ⟨_,h4⟩
  ·obtain ⟨e1,e2⟩:=h2.mem.blk i T' l h4
   exact ⟨e1,fun c hc=>(e2 c hc).le (Nat.le_succ _)⟩
  cases h4
 ·intro i T' s' v' n' cs' hi
  rcases inv hi with ⟨_,h4⟩ | ⟨_,h4⟩
  ·exact h2.mem.row i T' s' v' n' cs' h4
  cases h4; exact hown
 ·intro i A hi
  rcases inv hi with ⟨_,h4⟩ | ⟨_,h4⟩
  ·exact h2.mem.abs i A h4
  cases h4
 ·intro i k' hk
  rw [ax0] at hk
  rcases hk with ⟨_,hk⟩ | ⟨_,hk⟩
  ·exact ⟨.inl (Nat.le_trans hb (hnew k' hk)),(hown.lt k' hk).2⟩
  exact h2.mem.low i k' hk
 intro i j k' hi hj
 rw [ax0] at hi hj
 rcases hi with ⟨e1,hi⟩ | ⟨e1,hi⟩ <;> rcases hj with ⟨e2,hj⟩ | ⟨e2,hj⟩
 ·omega
 ·have:=(h.mem.low j k' hj).2
  have:=hnew k' hi
  omega
 ·have:=(h.mem.low i k' hi).2
  have:=hnew k' hj
  omega
 exact h.mem.apart i j k' hi hj
theorem do4 {S0 : Nat → Prop} {hp : List HE} (hnew : ∀ g,v.ownBlock = some g → w.heap.size ≤ g) : ∀ k,k < w.heap.size → Sof S0 β hp k → Sof S0 β (hp ++ [.row T s v n cs]) k:=by
 intro k hk ⟨h1,h2⟩
 refine ⟨h1,fun i hi=>?_⟩
 rw [ax0] at hi
 rcases hi with ⟨_,hi⟩ | ⟨_,hi⟩
 ·have:=hnew k hi; omega
 exact h2 i hi
theorem ag3 {hp : List HE} {b : Nat} {T' : TypeId} {s' n' : Nat} {v' : Value} {cs' : List Value} (hb : b < hp.length) (i k : Nat) : m9 β (hp.set b (.row T' s' v' n' cs')) i k ↔ (b = i ∧ v'.ownBlock = some k) ∨ (b ≠ i ∧ m9 β hp i k):=by
 by_cases e : b = i
 ·subst e
  rw [P8 (List.getElem?_set_self hb)]
  simp [HE.mine]
 unfold m9
 rw [List.getElem?_set_ne e]
 simp [e]
theorem Sat.setRow {b : Nat} {n' : Nat} {v' : Value} {cs' : List Value} (h : Sat base st β ρ w) (hb : st.hp[b]? = some (.row T s v n cs)) (k : Keeps (fun i=>some i ≠ v.ownBlock) w w') (hown : Own 0 T s w' v' n' cs')
  (hbs : base.n ≤ w.heap.size) (hnew : v'.ownBlock = v.ownBlock ∨ ∀ g,v'.ownBlock = some g → w.heap.size ≤ g) : Sat base ⟨st.fr,st.hp.set b (.row T s v' n' cs')⟩ β ρ w':=by
 have hlen : (st.hp.set b (.row T s v' n' cs')).length = st.hp.length:=by simp
 have hbl:=(List.getElem?_eq_some_iff.1 hb).1
 have hmb : ∀ k',m9 β st.hp b k' ↔ v.ownBlock = some k':=fun k'=>P8 hb
 have oth : ∀ {i : Nat} {k' : Nat},b ≠ i → m9 β st.hp i k' → some k' ≠ v.ownBlock ∧ k' < w.heap.size:=fun {i k'} e hi=>⟨fun e2=>e (h.mem.apart b i k' ((hmb k').2 e2.symm) hi),(h.mem.low i k' hi).2⟩
 refine ⟨fun d=>by rw [hlen]; exact h.fr d,⟨?_,?_,?_,?_,?_⟩,by rw [hlen]; exact h.agr.1,h.agr.2⟩
 ·intro i T' l2 hi
  rw [hlen]
  by_cases e : b = i
  ·subst e
   rw [List.getElem?_set_self hbl] at hi
   cases hi
  rw [List.getElem?_set_ne e] at hi
  obtain ⟨e1,e2⟩:=h.mem.blk i T' l2 hi
  obtain ⟨e3,e4⟩:=oth e (k':=β i) ⟨_,hi,rfl⟩
  exact ⟨(k.block (β i) e4 e3).trans e1,e2⟩
 ·intro i T' s' v2 n2 cs2 hi
  by_cases e : b = i
  ·subst e
   rw [List.getElem?_set_self hbl] at hi
   simp only [Option.some.injEq,HE.row.injEq] at hi
   obtain ⟨rfl,rfl,rfl,rfl,rfl⟩:=hi
   exact hown
  rw [List.getElem?_set_ne e] at hi
  exact aa8 (h.mem.row i T' s' v2 n2 cs2 hi) k fun g hg=>(oth e (k':=g) ⟨_,hi,hg⟩).1
 ·intro i A hi
  by_cases e : b = i
  ·subst e
   rw [List.getElem?_set_self hbl] at hi
   cases hi
  rw [List.getElem?_set_ne e] at hi
  exact A.keep (h.mem.abs i A hi) (fun g hg=>(oth e (k':=g) ⟨_,hi,hg⟩).2) k fun g hg=>(oth e (k':=g) ⟨_,hi,hg⟩).1
 ·intro i k' hk
  rw [ag3 hbl] at hk
  rcases hk with ⟨_,hk⟩ | ⟨_,hk⟩
  ·refine ⟨?_,(hown.lt k' hk).2⟩
   rcases hnew with e5 | e5
   ·exact (h.mem.low b k' ((hmb k').2 (e5.symm.trans hk))).1
   exact .inl (Nat.le_trans hbs (e5 k' hk))
  obtain ⟨e1,e2⟩:=h.mem.low i k' hk
  exact ⟨e1,Nat.lt_of_lt_of_le e2 k.size⟩
 intro i j k' hi hj
 rw [ag3 hbl] at hi hj
 rcases hi with ⟨e1,hi⟩ | ⟨e1,hi⟩ <;> rcases hj with ⟨e2,hj⟩ | ⟨e2,hj⟩
 ·omega
 ·obtain ⟨e3,e4⟩:=oth e2 hj
  rcases hnew with e5 | e5
  ·exact absurd (hi.symm.trans e5) e3
  have:=e5 k' hi; omega
 ·obtain ⟨e3,e4⟩:=oth e1 hi
  rcases hnew with e5 | e5
  ·exact absurd (hj.symm.trans e5) e3
  have:=e5 k' hj; omega
 exact h.mem.apart i j k' hi hj
theorem bf3 {S0 : Nat → Prop} {hp : List HE} {b n' : Nat} {v' : Value} {cs' : List Value} (hb : hp[b]? = some (.row T s v n cs)) (hnew : v'.ownBlock = v.ownBlock ∨ ∀ g,v'.ownBlock = some g → w.heap.size ≤ g) :
  ∀ k,k < w.heap.size → Sof S0 β hp k → Sof S0 β (hp.set b (.row T s v' n' cs')) k:=by
 intro k hk ⟨h1,h2⟩
 have hbl:=(List.getElem?_eq_some_iff.1 hb).1
 refine ⟨h1,fun i hi=>?_⟩
 rw [ag3 hbl] at hi
 rcases hi with ⟨_,hi⟩ | ⟨_,hi⟩
 ·rcases hnew with e | e
  ·exact h2 b ⟨_,hb,e.symm.trans hi⟩
  have:=e k hi; omega
 exact h2 i hi
end
section
variable {c : Cx} {o : Out} {G : Gh}
def mkQ (E : Env) (o : Out) : Option (Int × Int × TypeId × Nat × Nat × List Ch):=
 match bb5 o with
 | some (_,.makeSlice t x y)=>match opd o.st.fr x,opd o.st.fr y,D1 E t with
  | some (.one (.int .i64 i)),some (.one (.int .i64 j)),.slice e=>(E.get e).map fun te=>(i,j,e,te.size,te.bytes,te.zero)
  | some (.one (.lit .i64 i)),some (.one (.lit .i64 j)),.slice e=>(E.get e).map fun te=>(i,j,e,te.size,te.bytes,te.zero)
  | some (.one (.lit .i64 i)),some (.one (.int .i64 j)),.slice e=>(E.get e).map fun te=>(i,j,e,te.size,te.bytes,te.zero)
  | _,_,_=>none
 | _=>none
theorem ce7 {β : Nat → Nat} {w : World} {b : Nat} {T : TypeId} {s n : Nat} {v : Value} {cs : List Value} (hb : nth o.st.hp b = some (.row T s v n cs)) (hM : Mem c.bs o.st.hp β w) : Own 0 T s w v n cs:=by
 rw [M5] at hb
 exact hM.row b T s v n cs hb
def stQ (E : Env) (o : Out) : Option (Value × Nat × List Ch):=
 match do7 o with
 | some (.store T x y)=>match opd o.st.fr x,(opd o.st.fr y).bind SV.chunks,E.get T with
  | some (.one (.val p)),some l,some te=>bif Nat.beq (Y2 l) te.size then some (p,te.size,l) else none
  | _,_,_=>none
 | _=>none
theorem dk1 {base : Nat} {T : TypeId} {s n k m : Nat} {w : World} {g cap : Nat} {cur : Array Value} {cs new : List Value} (hcs : (cur.toList.take (n * s)) = cs) (hk : k + m ≤ n * s) (hcur : n * s ≤ cur.size) (hl : new.length = m) :
  ((cur.toList.take k ++ new ++ cur.toList.drop (k + m)).take (n * s)) = cs.take k ++ new ++ cs.drop (k + m):=by
 subst hcs
 have e1 : (cur.toList.take k).length = k:=by rw [List.length_take,Array.length_toList]; omega
 rw [List.take_append,List.take_of_length_le (l:=cur.toList.take k ++ new) (by simp; omega),List.length_append,e1,hl,List.take_take,Nat.min_eq_left (by omega : k ≤ n * s),List.drop_take,List.take_drop]
theorem d79 [Rd] {T : TypeId} {s n : Nat} {cs : List Value} (b k : Nat) (v : Value) (sz : Nat) (l : List Ch) (cs' : List Value) (hq : stQ c.E o = some (.pointer (some (adr v k)),sz,l)) (hb : nth o.st.hp b = some (.row T s v n cs)) (hc : c.Ok) (h0 : 0 < sz)
  (hk : k + sz ≤ n * s) (hcs : ∀ β S w,Keeps c.K c.w0 w → G.p S w → cs.take k ++ d6 β l ++ cs.drop (k + sz) = cs')
  (hn : Run c (cm9 o (Y1 o.st.hp b (.row T s v n cs'))) G) : Run c o G:=by
 refine ⟨fun β ρ w hS hw hG=>?_⟩
 unfold stQ at hq
 split at hq <;> first | (cases hq; done) | skip
 rename_i T' x y hop
 split at hq <;> first | (cases hq; done) | skip
 rename_i p l' te' hx hy hte
 cases hsz : Nat.beq (Y2 l') te'.size with
 | false=>rw [hsz] at hq; cases hq
 | true=>
  rw [hsz] at hq
  simp only [cond_true,Option.some.injEq,Prod.mk.injEq] at hq
  obtain ⟨rfl,rfl,rfl⟩:=hq
  have hsz:=Nat.eq_of_beq_eq_true hsz
  unfold do7 at hop
  cases hcur : o.cur with
  | code x=>rw [hcur] at hop; cases hop
  | ex e=>rw [hcur] at hop; cases hop
  | ops all ll=>
   cases ll with
   | nil=>rw [hcur] at hop; cases hop
   | cons o1 r=>
    rw [hcur] at hop
    obtain ⟨dst,op',ty,pos,aft,g⟩:=o1
    simp only at hop
    cases g with
    | some x=>cases hop
    | none=>
     cases dst with
     | some d'=>cases hop
     | none=>
      simp only [Option.some.injEq] at hop
      subst hop
      have hkn:=hS.ops (.store T' x y)
      have g1 : ev ρ x = .pointer (some (adr v k)):=((hkn x (by simp [Op.operands])) _ hx).1
      cases hyo : opd o.st.fr y with
      | none=>rw [hyo] at hy; cases hy
      | some yv=>
       rw [hyo] at hy
       simp only [Option.bind_some] at hy
       have g2:=(hkn y (by simp [Op.operands])) _ hyo
       obtain ⟨g3,g4⟩:=SV.chunks_ok (β:=β) hy g2.2
       have hlen:=O0 (β:=β) g4
       obtain ⟨z,hty,_⟩:=(hc.env.get hte).ty
       have hown:=ce7 hb hS.mem
       rw [M5] at hb
       rcases hown.2 with ⟨_,h2⟩ | ⟨gb,cap,cur,hv,hbg,hg,hnc,hcm,hcz,htk⟩
       ·subst h2; omega
       have hle : n * s ≤ cap * s:=Nat.mul_le_mul_right _ hnc
       have hst:=run_storeCells_at c.P gb k T (d6 β l') 0 cur w hg (by omega) (S9 g4)
       have hcs2:=hcs β _ w hw hG
       have ha : adr v k = ⟨gb,k,none⟩:=by rw [hv]; simp [adr]
       have hrun : ∀ d pos aft g,(execOp (ev ρ) ⟨d,.store T' x y,ty,pos,aft,g⟩).run c.P w = .ok .skip (w.setRow gb (cur.toList.take (k + 0) ++ d6 β l' ++ cur.toList.drop (k + 0 + (d6 β l').length)).toArray):=by
        intro d pos aft g
        have e10 : (d6 β l').length = te'.size:=by omega
        simp only [Nat.add_zero,e10] at hst ⊢
        simp [execOp,g1,g2.1,Instr.storeAt,Instr.sureAddr,storeVar,hty.runSize w,g3,e10,ha,hst]
       have k1 : Keeps (fun i=>some i ≠ v.ownBlock) w (w.setRow gb (cur.toList.take (k + 0) ++ d6 β l' ++ cur.toList.drop (k + 0 + (d6 β l').length)).toArray):=
        ⟨rfl,rfl,rfl,by simp [World.setRow],fun i _ hi=>setRow_other w _ i _ (fun e=>hi (by rw [hv,e]; rfl))⟩
       have hown2 : Own 0 T s (w.setRow gb (cur.toList.take (k + 0) ++ d6 β l' ++ cur.toList.drop (k + 0 + (d6 β l').length)).toArray) v n cs':=by
        refine ⟨?_,.inr ⟨gb,cap,_,hv,hbg,setRow_heap w gb cur _ T (0,0) hg,hnc,hcm,?_,?_⟩⟩
        ·rw [← hcs2]
         have:=hown.1
         simp [hlen,hsz]
         omega
        ·simp [hlen,hsz]; omega
        rw [← hcs2,Nat.add_zero]
        have:=dk1 (base:=0) (T:=T) (w:=w) (g:=gb) (cap:=cap) (new:=d6 β l') (m:=te'.size) htk hk (by omega) (by omega)
        rw [hlen,hsz]
        exact this
       have hS2:=hS.setRow hb k1 hown2 hw.size (.inl rfl)
       refine am2 rfl ?_
       unfold Stp
       rw [hrun]
       have h1:=hn.run
       unfold cm9 at h1
       rw [hcur,M4] at h1
       have hmb : ∀ i,some i = v.ownBlock → m9 β o.st.hp b i:=fun i hi=>⟨_,hb,hi.symm⟩
       refine h1 β _ _ hS2 ?_ ?_
       ·exact hS.mem.grow hw k1 b fun i hi=>hmb i (Classical.byContradiction hi)
       exact G.mono (G.keep hG (k1.mono fun i hi e=>hi.2 b (hmb i e))) fun i hi hk=>bf3 (w:=w) hb (.inl rfl) i (by simpa [World.setRow] using hi) hk
def fa7 (E : Env) (o : Out) : Option (Value × Nat):=
 match bb5 o with
 | some (_,.convert t t2 x)=>match opd o.st.fr x,D1 E t,D1 E t2 with
  | some (.one (.sl v n)),.slice e,.str=>match D1 E e with
   | .int .u8=>some (v,n)
   | _=>none
  | _,_,_=>none
 | _=>none
theorem bd3 {base : Nat} {T : TypeId} {s n : Nat} {w : World} {v : Value} {cs : List Value} (h : Own base T s w v n cs) : ∃ S',Row S' T s w v n cs:=⟨All,Row.of_own h fun _ _=>trivial⟩
theorem cb5 {P : Program} {w : World} (base : Nat) (t ty e : TypeId) (i : TypeInfo) (z : Value) (size bytes : Nat) (ht : P.underlying t = some (.slice e)) (hi : P.info? e = some i) (hz : i.zero = some z) (hsize : i.size = size) (hby : i.bytes = bytes) (hzs : z.cells.size = size) (hsz : 0 < size)
  (v : Value) (n : Nat) (xs : List Value) (hown : Own base e size w v n xs) (a : Addr) (m c : Nat) (news : List Value) (hl : news.length = m * size) (hnews : ∀ j u,news[j]? = some u → w.cell? (a.add j) = some u) (h1 : ∀ u ∈ news,u.oneCell' = true)
  (h63 : n + m ≤ maxLen) (hbytes : (n + m) * bytes ≤ 140737488355328) (hbase : base ≤ w.heap.size) :
  ∃ v' w',(Builtin.append_ #[t,t] ty #[v,.slice (some a) m c]).run P w = .ok v' w' ∧ Own base e size w' v' (n + m) (xs ++ news) ∧ Keeps (fun i=>some i ≠ v.ownBlock) w w' ∧ (v'.ownBlock = v.ownBlock ∨ ∀ g,v'.ownBlock = some g → w.heap.size ≤ g):=by
 obtain ⟨v',w',hr,h2,h3,h4⟩:=run_append_own (P:=P) w base t ty e i z size bytes ht hi hz hsize hby hzs hsz v n xs hown a m c news hl hnews h1 h63 hbytes hbase
 refine ⟨v',w',hr,h2,.of_grown h3,?_⟩
 rcases hown.2 with ⟨rfl,rfl⟩ | ⟨g,cap,cur,rfl,hbg,hg,hnc,hcm,hcs,htake⟩
 ·have hx : xs = []:=List.eq_nil_of_length_eq_zero (by simpa using hown.1)
  subst hx
  obtain ⟨v2,w2,hr2,h5,_⟩:=run_append_own (P:=P) w w.heap.size t ty e i z size bytes ht hi hz hsize hby hzs hsz (.slice none 0 0) 0 [] ac0 a m c news hl hnews h1 h63 hbytes (Nat.le_refl _)
  rw [hr] at hr2
  simp only [Result.ok.injEq] at hr2
  obtain ⟨rfl,rfl⟩:=hr2
  exact .inr fun g hg=>(h5.lt g hg).1
 subst hsize hby
 by_cases hroom : n + m ≤ cap
 ·have hfit : n * i.size + news.length ≤ cur.size:=by rw [hl,hcs,← Nat.add_mul]; exact Nat.mul_le_mul_right _ hroom
  have hr2:=run_append_room (P:=P) w t ty e i ht hi g n cap cur hg a m c news hl hnews h1 hroom hfit
  rw [hr] at hr2
  simp only [Result.ok.injEq] at hr2
  rw [hr2.1]
  exact .inl rfl
 have hr2:=run_append_grow (P:=P) w t ty e i z ht hi hz ⟨g,0,none⟩ n cap xs hown.1 (World.ownsRow.cells hown (g:=g) rfl) a m c news hl hnews (by omega) (by unfold maxLen at h63; omega) (growslice_fits (by omega) hbytes)
 rw [hr] at hr2
 simp only [Result.ok.injEq] at hr2
 rw [hr2.1]
 exact .inr fun g hg=>by simp [Value.ownBlock] at hg; omega
def d09 (E : Env) (o : Out) : Option (Value × Nat × Ch × TypeId × Nat × Nat):=
 match bb5 o with
 | some (_,.call ⟨.builtin .append,args,ts⟩)=>match args.toList,ts.toList with
  | [x,y],[t,t']=>match opd o.st.fr x,opd o.st.fr y,D1 E t with
   | some (.one (.sl v n)),some (.one a),.slice e=>(E.get e).bind fun te=>bif Nat.beq t t' then some (v,n,a,e,te.size,te.bytes) else none
   | _,_,_=>none
  | _,_=>none
 | _=>none
theorem a62 [Rd] {cs : List Value} (b : Nat) (v : Value) (n : Nat) (y : Ch) (e : TypeId) (sz bytes m : Nat) (news : List Value) (hq : d09 c.E o = some (v,n,y,e,sz,bytes)) (hb : nth o.st.hp b = some (.row e sz v n cs)) (hc : c.Ok) (h0 : 0 < sz) (hm : n + m ≤ maxLen) (hby : (n + m) * bytes ≤ 140737488355328)
  (h : ∀ β S w,Mem c.bs o.st.hp β w → Keeps c.K c.w0 w → G.p S w → ∃ S' T',Row S' T' sz w (y.den β) m news ∧ ∀ u ∈ news,u.oneCell' = true)
  (hn : ∀ v',Run c (W4 o (.one (.sl v' (n + m))) (Y1 o.st.hp b (.row e sz v' (n + m) (cs ++ news)))) G) : Run c o G:=by
 refine ⟨fun β ρ w hS hw hG=>?_⟩
 unfold d09 at hq
 split at hq <;> first | (cases hq; done) | skip
 rename_i d args ts hop
 split at hq <;> first | (cases hq; done) | skip
 rename_i x yo t t' hargs hts
 obtain rfl : args = #[x,yo]:=by rw [← Array.toArray_toList (xs:=args),hargs]
 obtain rfl : ts = #[t,t']:=by rw [← Array.toArray_toList (xs:=ts),hts]
 split at hq <;> first | (cases hq; done) | skip
 rename_i v' n' a e' hx hy hk
 cases hte : c.E.get e' with
 | none=>rw [hte] at hq; cases hq
 | some te'=>
  rw [hte] at hq
  simp only [Option.bind_some] at hq
  cases htt : Nat.beq t t' with
  | false=>rw [htt] at hq; cases hq
  | true=>
   rw [htt] at hq
   obtain rfl:=Nat.eq_of_beq_eq_true htt
   simp only [cond_true,Option.some.injEq,Prod.mk.injEq] at hq
   obtain ⟨rfl,rfl,rfl,rfl,rfl,rfl⟩:=hq
   unfold bb5 at hop
   cases hcur : o.cur with
   | code x=>rw [hcur] at hop; cases hop
   | ex e=>rw [hcur] at hop; cases hop
   | ops all ll=>
    cases ll with
    | nil=>rw [hcur] at hop; cases hop
    | cons o1 r=>
     rw [hcur] at hop
     obtain ⟨dst,op',ty,pos,aft,g⟩:=o1
     simp only at hop
     cases g with
     | some x=>cases hop
     | none=>
      cases dst with
      | none=>cases hop
      | some d'=>
       simp only [Option.some.injEq,Prod.mk.injEq] at hop
       obtain ⟨rfl,rfl⟩:=hop
       have hkn:=hS.ops (.call ⟨.builtin .append,#[x,yo],#[t,t]⟩)
       have g1 : ev ρ x = v':=((hkn x (by simp [Op.operands,Call.operands])) _ hx).1
       have g2 : ev ρ yo = a.den β:=((hkn yo (by simp [Op.operands,Call.operands])) _ hy).1
       have hkd:=D8 (t:=t) hc.env
       rw [hk] at hkd
       have hkd' : c.P.underlying t = some (.slice e'):=hkd
       obtain ⟨z,hty,_⟩:=(hc.env.get hte).ty
       obtain ⟨ti,hi,e1,e2,e3⟩:=hty.ex
       have hown:=ce7 hb hS.mem
       rw [M5] at hb
       obtain ⟨S',T',hrow,hones⟩:=h β _ w hS.mem hw hG
       have fin : ∃ v2 w2,(Builtin.append_ #[t,t] ty #[v',a.den β]).run c.P w = .ok v2 w2 ∧ Own 0 e' te'.size w2 v2 (n' + m) (cs ++ news) ∧ Keeps (fun i=>some i ≠ v'.ownBlock) w w2 ∧ (v2.ownBlock = v'.ownBlock ∨ ∀ g,v2.ownBlock = some g → w.heap.size ≤ g):=by
        rcases hrow.2 with ⟨h2,h3⟩ | ⟨gg,off,cap,arr,fr,hv,_⟩
        ·have hl:=hrow.1
         subst h3
         obtain rfl : news = []:=List.eq_nil_of_length_eq_zero (by simpa using hl)
         rw [h2]
         exact ⟨v',w,run_append_owned_none (P:=c.P) (w:=w) 0 t ty e' ti te'.size hkd' hi v' n' cs hown,by simpa using hown,.refl,.inl rfl⟩
        rw [hv]
        refine cb5 0 t ty e' ti z te'.size te'.bytes hkd' hi e3 e1 e2 hty.zsize h0 v' n' cs hown ⟨gg,off,none⟩ m cap news hrow.1 (fun j u hu=>?_) hones hm hby (Nat.zero_le _)
        have h5:=hrow.cell hu
        rw [hv] at h5
        rw [R4]
        exact h5
       obtain ⟨v2,w2,hr,hown2,k1,hnew⟩:=fin
       refine am2 rfl ?_
       unfold Stp
       have hrun : (execOp (ev ρ) ⟨some d',.call ⟨.builtin .append,#[x,yo],#[t,t]⟩,ty,pos,aft,none⟩).run c.P w = .ok (.value v2) w2:=by
        simp [execOp,resolve,invoke,builtin,g1,g2,hr]
       rw [hrun]
       have hS2:=hS.setRow hb k1 hown2 hw.size hnew
       have h1:=(hn v2).run
       unfold W4 at h1
       rw [hcur,M4] at h1
       have hmb : ∀ i,some i = v'.ownBlock → m9 β o.st.hp b i:=fun i hi=>⟨_,hb,hi.symm⟩
       refine h1 β _ w2 (hS2.put (d:=d') (s:=.one (.sl v2 (n' + m))) rfl (bn6 hown2)) ?_ ?_
       ·exact hS.mem.grow hw k1 b fun i hi=>hmb i (Classical.byContradiction hi)
       exact G.mono (G.keep (G.mono (S':=fun k=>Sof c.S0 β o.st.hp k ∧ k < w.heap.size) hG fun k hk h=>⟨h,hk⟩) (k1.mono fun i hi e=>hi.1.2 b (hmb i e))) fun k _ hk=>bf3 hb hnew k hk.2 hk.1
theorem dq0 [Rd] {T : TypeId} {s : Nat} (hn : Run c ⟨o.cur,o.k,⟨o.st.fr,o.st.hp ++ [.row T s (.slice none 0 0) 0 []]⟩,[]⟩ G) : Run c o G:=
 ⟨fun β ρ w hS hw hG=>hn.run β ρ w (hS.newRow .refl ac0 hw.size (fun g h=>by simp [Value.ownBlock] at h)) hw (G.mono hG (do4 (w:=w) (fun g h=>by simp [Value.ownBlock] at h)))⟩
def Q9 : Nat → List Kt → List Kt
 | 0,k=>k
 | n + 1,.code (.seq a b) :: k=>.code a :: Q9 n (.code b :: k)
 | _ + 1,k=>k
def ay3 : List Kt → Bool
 | []=>true
 | .code _ :: k=>ay3 k
 | .blk _ :: k=>ay3 k
 | _=>false
theorem c34 [Rd] {P : Program} {n : Nat} {Q : F1} : ∀ {m : Nat} {k : List Kt} {e : Exit} {ρ : Fr} {w : World},kQ P n Q (Q9 m k) e ρ w → kQ P n Q k e ρ w:=by
 intro m
 induction m with
 | zero=>intro k e ρ w h; exact h
 | succ m ih=>
  intro k e ρ w h
  have key : ∀ {a b : Code} {k' : List Kt},kQ P n Q (.code a :: Q9 m (.code b :: k')) e ρ w → kQ P n Q (.code (.seq a b) :: k') e ρ w:=by
   intro a b k' h
   cases e with
   | normal=>exact c48 (bc7 (Q:=kQ P n Q (Q9 m (.code b :: k'))) h fun e ρ w h=>ih h)
   | _=>exact ih (k:=.code b :: k') (e:=_) h
  cases k with
  | nil=>exact h
  | cons x r=>
   cases x with
   | blk i=>exact h
   | lp a=>exact h
   | code c=>
    cases c <;> first | exact key h | exact h
theorem dy5 [Rd] {P : Program} {n : Nat} {Q Q' : F1} {k2 : List Kt} (hq : ∀ e ρ w,Q' e ρ w → kQ P n Q k2 e ρ w) : ∀ {k1 : List Kt},ay3 k1 = true → ∀ {e : Exit} {ρ : Fr} {w : World},kQ P n Q' k1 e ρ w → kQ P n Q (k1 ++ k2) e ρ w:=by
 intro k1
 induction k1 with
 | nil=>intro _ e ρ w h; exact hq e ρ w h
 | cons x r ih=>
  intro hk e ρ w h
  cases x with
  | code a=>
   cases e with
   | normal=>exact bc7 (Q:=kQ P n Q' r) h fun e ρ w h=>ih hk h
   | _=>exact ih (e:=_) hk h
  | blk i=>
   have h' : I3 i (kQ P n Q' r) e ρ w:=h
   show I3 i (kQ P n Q (r ++ k2)) e ρ w
   unfold I3 at h' ⊢
   cases e with
   | exit j=>
    simp only at h' ⊢
    cases hj : Nat.beq j i with
    | true=>rw [hj] at h'; exact ih hk h'
    | false=>rw [hj] at h'; exact ih hk h'
   | _=>exact ih (e:=_) hk h'
  | lp a=>cases hk
theorem dq9 [Rd] {ι : Type} (m j : Nat) (st' : ι → St) (GI : ι → Gh) (pre : ι → Prop) (hl : ∀ i,o.st.hp.length ≤ (st' i).hp.length) (hk : ay3 ((Q9 m o.k).take j) = true) (h1 : Run (c.sub (ao2 c st' GI pre) ((Q9 m o.k).drop j)) ⟨o.cur,(Q9 m o.k).take j,o.st,[]⟩ G)
  (h2 : ∀ i,pre i → Run c ⟨.ex .normal,(Q9 m o.k).drop j,st' i,[]⟩ (GI i)) : Run c o G:=by
 refine ⟨fun β ρ w hS hw hG=>?_⟩
 refine a88 (Q:=kQ c.P c.n c.Q (Q9 m o.k)) (fun e ρ w h=>c34 h) ?_
 refine a88 ?_ (h1.run β ρ w hS hw hG)
 intro e ρ' w' hq
 have e1 : (Q9 m o.k).take j ++ (Q9 m o.k).drop j = Q9 m o.k:=List.take_append_drop ..
 rw [← e1]
 refine dy5 ?_ hk hq
 intro e ρ' w' hq
 cases e with
 | normal=>
  obtain ⟨i,hp,hr⟩:=hq
  obtain ⟨β',hS',hw',hG'⟩:=hr.sat (Nat.le_trans hS.agr.1 (hl i))
  exact (h2 i hp).run β' ρ' w' hS' hw' hG'
 | _=>exact hq
theorem b91 [Rd] {ι : Type} (m j : Nat) (W : List (Nat × Nat)) (ov : ι → List (Nat × SV)) (oh : ι → List (Nat × HE)) (GI : ι → Gh) (pre : ι → Prop) (hc : c.Ok) (hv : (ex c o).vc = []) (hk : ay3 ((Q9 m (ex c o).k).take j) = true)
  (h1 : an2 (ex c o).st → Run (c.sub (ao2 c (fun i=>stM (ex c o).st W (ov i) (oh i)) GI pre) ((Q9 m (ex c o).k).drop j)) ⟨(ex c o).cur,(Q9 m (ex c o).k).take j,(ex c o).st,[]⟩ G)
  (h2 : ∀ i,pre i → Run c ⟨.ex .normal,(Q9 m (ex c o).k).drop j,stM (ex c o).st W (ov i) (oh i),[]⟩ (GI i)) : Run c o G:=by
 refine aa3 hc hv ⟨fun β ρ w hS hw hG=>?_⟩
 exact (dq9 m j _ GI pre (fun _=>Nat.le_of_eq ag2.symm) hk (h1 hS.stOk) h2).run β ρ w hS hw hG
end
theorem H0 : ∀ {m : Nat} {l : List Ch},(l.foldr (fun c p=>c.Ok m ∧ p) True) → (SV.agg l).Ok m:=by
 intro m l
 induction l with
 | nil=>intro _ c hc; cases hc
 | cons a r ih=>
  intro h c hc
  rcases List.mem_cons.1 hc with rfl | hc
  ·exact h.1
  exact ih h.2 c hc
def At (S : Nat → Prop) (w : World) (u : Value) (cs : List Value) : Prop:=
 ∃ b o arr T fr,u = .pointer (some ⟨b,o,none⟩) ∧ S b ∧ w.heap[b]? = some (.cells arr T fr) ∧ o + cs.length ≤ arr.size ∧ (arr.toList.drop o).take cs.length = cs
theorem At.keep {S : Nat → Prop} {w w' : World} {u : Value} {cs : List Value} (h : At S w u cs) (k : Keeps S w w') : At S w' u cs:=by
 obtain ⟨b,o,arr,T,fr,h1,h2,h3,h4,h5⟩:=h
 exact ⟨b,o,arr,T,fr,h1,h2,(k.block b (Array.getElem?_eq_some_iff.1 h3).1 h2).trans h3,h4,h5⟩
theorem At.mono {S S' : Nat → Prop} {w : World} {u : Value} {cs : List Value} (h : At S w u cs) (hs : ∀ k,k < w.heap.size → S k → S' k) : At S' w u cs:=by
 obtain ⟨b,o,arr,T,fr,h1,h2,h3,h4,h5⟩:=h
 exact ⟨b,o,arr,T,fr,h1,hs b (Array.getElem?_eq_some_iff.1 h3).1 h2,h3,h4,h5⟩
theorem At.of_row {S : Nat → Prop} {T : TypeId} {s : Nat} {w : World} {v : Value} {n i : Nat} {cs : List Value} (h : Row S T s w v n cs) (hi : i < n) : At S w (.pointer (some (adr v (i * s)))) ((cs.drop (i * s)).take s):=by
 have h1 : (i + 1) * s ≤ n * s:=Nat.mul_le_mul_right _ hi
 rw [Nat.add_mul,Nat.one_mul] at h1
 have hl : ((cs.drop (i * s)).take s).length = s:=by rw [List.length_take,List.length_drop,h.1]; omega
 rcases h.2 with ⟨_,h2⟩ | ⟨b,off,cap,arr,fr,hv,h2,h3,h4,h5,h6,h7⟩
 ·omega
 subst hv
 have h8 : n * s ≤ cap * s:=Nat.mul_le_mul_right _ h2
 refine ⟨b,off + i * s,arr,T,fr,rfl,h4,h5,by rw [hl]; omega,?_⟩
 rw [hl,← h7,List.drop_take,List.drop_drop,List.take_take]
 congr 1
 omega
theorem At.cell {S : Nat → Prop} {w : World} {u : Value} {cs : List Value} (h : At S w u cs) : ∃ b o,u = .pointer (some ⟨b,o,none⟩) ∧ ∀ i,i < cs.length → w.cell? ⟨b,o + i,none⟩ = cs[i]?:=by
 obtain ⟨b,o,arr,T,fr,h1,h2,h3,h4,h5⟩:=h
 refine ⟨b,o,h1,fun i hi=>?_⟩
 simp only [World.cell?,h3]
 have h6 : cs[i]? = ((arr.toList.drop o).take cs.length)[i]?:=by rw [h5]
 rw [h6,List.getElem?_take,if_pos hi,List.getElem?_drop]
 simp
def M2 (g : Bool) (s : Nat) (x : Value) : Prop:=x.cells.toList.length = s ∧ bif g then x = .agg x.cells else x.cells = #[x]
theorem bi5 (cs : List Value) : M2 true cs.length (.agg cs.toArray):=⟨by simp [Value.cells],by simp [Value.cells]⟩
theorem At.load {P : Program} {T : TypeId} {s b : Nat} {z : Value} {g : Bool} {S : Nat → Prop} {w : World} {u x : Value} (hty : TyI P T s b z g) (h : At S w u x.cells.toList) (hx : M2 g s x) {ρ : Operand → Value} {ty : TypeId} {y : Operand} (hy : ρ y = u) : af0 P ρ (.load T y) ty w x:=by
 obtain ⟨b',o,rfl,hc⟩:=h.cell
 obtain ⟨h1,h2⟩:=hx
 have hlv : (loadVar T ⟨b',o,none⟩).run P w = .ok x w:=by
  cases g with
  | true=>
   simp only [cond_true] at h2
   have h3:=aq5 hty h1 hc
   rw [h3]
   congr 1
   rw [h2]
   simp [Value.cells]
  | false=>
   simp only [cond_false] at h2
   have h3:=hc 0 (by rw [h2]; simp)
   rw [h2] at h3
   exact Z9 hty (by simpa using h3)
 intro d pos aft g'
 simp [execOp,hy,Instr.loadAt,Instr.sureAddr,hlv]
abbrev atG (g : Bool) (s : Nat) (Δ : Value → Gh) (u : Value) : Gh:=
 ⟨fun S w=>∃ x,M2 g s x ∧ At S w u x.cells.toList ∧ (Δ x).p S w,fun ⟨x,h1,h2,h3⟩ k=>⟨x,h1,h2.keep k,(Δ x).keep h3 k⟩,fun ⟨x,h1,h2,h3⟩ k=>⟨x,h1,h2.mono k,(Δ x).mono h3 k⟩⟩
structure SeqV {α : Type} (g : Bool) (s : Nat) (F : Value → α → Gh) (S : Nat → Prop) (w : World) (v : Value) (l : List α) : Prop where
 row : ∃ (T : TypeId) (vs : List Value),vs.length = l.length ∧ (∀ x ∈ vs,M2 g s x) ∧ Row S T s w v l.length (vs.flatMap fun x=>x.cells.toList) ∧ ∀ (i : Nat) a x,l[i]? = some a → vs[i]? = some x → (F x a).p S w
section
variable {α : Type} {g : Bool} {s : Nat} {F : Value → α → Gh} {S S' : Nat → Prop} {w w' : World} {v : Value} {l : List α}
theorem SeqV.keep (h : SeqV g s F S w v l) (k : Keeps S w w') : SeqV g s F S w' v l:=let ⟨T,vs,h1,h2,h3,h4⟩:=h.row; ⟨T,vs,h1,h2,h3.keep k,fun i a x ha hx=>(F x a).keep (h4 i a x ha hx) k⟩
theorem SeqV.mono (h : SeqV g s F S w v l) (hs : ∀ k,k < w.heap.size → S k → S' k) : SeqV g s F S' w v l:=let ⟨T,vs,h1,h2,h3,h4⟩:=h.row; ⟨T,vs,h1,h2,h3.mono hs,fun i a x ha hx=>(F x a).mono (h4 i a x ha hx) hs⟩
theorem am4 {vs : List Value} (h : ∀ x ∈ vs,M2 g s x) : ∀ {i : Nat} {x : Value},vs[i]? = some x → ((vs.flatMap fun x=>x.cells.toList).drop (i * s)).take s = x.cells.toList:=by
 induction vs with
 | nil=>intro i x hx; simp at hx
 | cons y r ih=>
  intro i x hx
  have hy:=(h y (List.mem_cons_self ..)).1
  rw [List.flatMap_cons]
  cases i with
  | zero=>
   simp only [List.getElem?_cons_zero,Option.some.injEq] at hx
   subst hx
   rw [Nat.zero_mul,List.drop_zero,List.take_left' hy]
  | succ i=>
   rw [Nat.add_mul,Nat.one_mul,Nat.add_comm,← List.drop_drop,List.drop_left' hy]
   exact ih (fun x hx=>h x (List.mem_cons_of_mem _ hx)) (by simpa using hx)
theorem SeqV.at (h : SeqV g s F S w v l) {i : Nat} {a : α} (hi : l[i]? = some a) : (atG g s (fun x=>F x a) (.pointer (some (adr v (i * s))))).p S w:=by
 obtain ⟨T,vs,h1,h2,h3,h4⟩:=h.row
 have hil:=(List.getElem?_eq_some_iff.1 hi).1
 have hx : vs[i]? = some vs[i]:=List.getElem?_eq_getElem (by omega)
 have hr:=At.of_row h3 hil
 rw [am4 h2 hx] at hr
 exact ⟨vs[i],h2 _ (List.getElem_mem _),hr,h4 i a _ hi hx⟩
theorem SeqV.sl (h : SeqV g s F S w v l) : (SV.one (.sl v l.length)).Ok 0:=by
 obtain ⟨T,vs,h1,h2,h3,h4⟩:=h.row
 exact h3.slice
theorem SeqV.len_le (h : SeqV g s F S w v l) : l.length ≤ maxLen:=by
 obtain ⟨T,vs,h1,h2,h3,h4⟩:=h.row
 exact h3.len_le
end
abbrev Q5 (p : Prop) : Gh:=⟨fun _ _=>p,fun h _=>h,fun h _=>h⟩
theorem SeqV.el {α : Type} {g : Bool} {s : Nat} {F : Value → α → Gh} {S : Nat → Prop} {w : World} {v : Value} {l : List α} (h : SeqV g s F S w v l) {i : Int} {k n : Nat} {a : α} (hn : n = l.length) (hi : i = (k : Int)) (ha : l[k]? = some a) :
  0 ≤ i ∧ i < n ∧ (∃ S' T' cs,Row S' T' s w v n cs) ∧ (atG g s (fun x=>F x a) (.pointer (some (adr v (i.toNat * s))))).p S w:=by
 subst hi
 subst hn
 have hk:=(List.getElem?_eq_some_iff.1 ha).1
 obtain ⟨T,vs,h1,h2,h3,h4⟩:=h.row
 exact ⟨by omega,by omega,⟨S,T,_,h3⟩,h.at ha⟩
abbrev b34 {α : Type} (g : Bool) (s : Nat) (F : Value → α → Gh) (v : Value) (l : List α) : Gh:=⟨fun S w=>SeqV g s F S w v l,fun h k=>h.keep k,fun h k=>h.mono k⟩
section
variable {c : Cx} {o : Out} {G : Gh}
theorem bf5 [Rd] (v : Value) (n : Nat) (i : Int) (e : TypeId) (sz : Nat) (Δ : Value → Gh) (hq : ds1 c.E o = some (v,n,i,e,sz)) (hc : c.Ok)
  (h : ∀ β S w,Mem c.bs o.st.hp β w → Keeps c.K c.w0 w → G.p S w → 0 ≤ i ∧ i < n ∧ (∃ S' T' cs,Row S' T' sz w v n cs) ∧ (Δ (.pointer (some (adr v (i.toNat * sz))))).p S w)
  (hn : ∀ u,Run c (W4 o (.one (.val u)) o.st.hp) ((Δ u).and G)) : Run c o G:=by
 refine ⟨fun β ρ w hS hw hG=>?_⟩
 have h1:=h β (Sof c.S0 β o.st.hp) w hS.mem hw hG
 refine (c25 (G:=(Δ (.pointer (some (adr v (i.toNat * sz))))).and G) v n i e sz hq hc h1.1 h1.2.1 (fun β S w hM hw hG=>(h β S w hM hw hG.2).2.2.1) ?_).run β ρ w hS hw ⟨h1.2.2.2,hG⟩
 exact hn _
theorem bg8 [Rd] (u : Value) (T : TypeId) (sz : Nat) (g : Bool) (pat : Value → SV) (Δ : Value → Gh) (hq : ldQ c.E o = some (u,T,sz,g)) (hc : c.Ok)
  (h : ∀ S w,Keeps c.K c.w0 w → G.p S w → (atG g sz Δ u).p S w) (hok : ∀ a S w,(Δ a).p S w → (pat a).Ok 0 ∧ (pat a).den (fun _=>0) = a)
  (hn : ∀ a,Run c (W4 o (pat a) o.st.hp) ((Δ a).and G)) : Run c o G:=by
 unfold ldQ at hq
 split at hq <;> first | (cases hq; done) | skip
 rename_i d T' x hop
 split at hq <;> first | (cases hq; done) | skip
 rename_i p hx
 cases hte : c.E.get T' with
 | none=>rw [hte] at hq; cases hq
 | some te=>
  rw [hte] at hq
  simp only [Option.map_some,Option.some.injEq,Prod.mk.injEq] at hq
  obtain ⟨rfl,rfl,rfl,rfl⟩:=hq
  refine bx4 pat Δ hop (fun β S w F ty hkn hM hup hS hw hG=>?_) hc hn
  obtain ⟨a,h1,h2,h3⟩:=h S w hw hG
  obtain ⟨h4,h5⟩:=hok a S w h3
  have g1 : ev F x = p:=(hkn x (by simp [Op.operands]) _ hx).1
  obtain ⟨z,hty,_⟩:=(hc.env.get hte).ty
  refine ⟨a,w,.refl,h4.le (Nat.zero_le _),h3,?_,rfl⟩
  rw [SV.den_congr (m:=0) (β':=fun _=>0) (fun i hi=>absurd hi (Nat.not_lt_zero i)) h4,h5]
  exact h2.load hty h1 g1
end
section
variable {c : Cx} {st : St} {G : Gh} {all : List Oper} {K : List HRec → Prop} {acc : List HRec} {ops : List Oper}
def ar5 (all : List Oper) (st : St) (acc : List HRec) (ops : List Oper) (η : Nat → Value) : Bool:=H4 all (frH st acc η) (opH ops) && (opH ops).dst.isSome && !ops.isEmpty
theorem a54 (p : Value → SV) (Δ : Value → Gh) (hok : ∀ η,ar5 all st acc ops η = true)
  (h : ∀ β η S w F m ty,ab6 β m (frH st acc η) (ev F) (opH ops).op → Up S w → Mem c.bs st.hp β w → (∀ k,S k → c.S0 k) → Keeps c.K c.w0 w → G.p S w → depsH acc (opH ops).after.toList η S w → ∃ v,af0 c.P (ev F) (opH ops).op ty w v ∧ v = (p v).den (fun _=>0) ∧ (p v).Ok 0 ∧ (Δ v).p S w)
  (k : Hd c st G all K (.spec ((opH ops).dst.getD 0) p Δ :: acc) (ops.drop 1)) : Hd c st G all K acc ops:=by
 cases ops with
 | nil=>have:=hok η0; simp [ar5] at this
 | cons o r=>
  refine ⟨⟨.spec ((opH (o :: r)).dst.getD 0) p Δ,⟨?_,fun η=>?_⟩,k.run⟩⟩
  ·have:=hok η0
   simp only [ar5,Bool.and_eq_true] at this
   cases hx : o.dst with
   | none=>have h2:=this.1.2; simp [opH,hx] at h2
   | some d=>simp [opH,hx]
  have h1:=hok η
  simp only [ar5,Bool.and_eq_true] at h1
  refine ⟨h1.1.1,fun β S w F m hkn hup hM hS hw hG hd=>?_⟩
  obtain ⟨dst,op,ty,pos,aft,g⟩:=o
  obtain ⟨v,e1,e2,e3,e4⟩:=h β η S w F m ty hkn hup hM hS hw hG hd
  have e0:=e1 dst pos aft g
  unfold b80
  simp only [opH] at e0
  rw [e0]
  exact ⟨.refl,e2,e3,e4⟩
def d40 (c : Cx) (st : St) (acc : List HRec) (ops : List Oper) (η : Nat → Value) : Option (Value × Nat × Int × TypeId × Nat):=
 match (opH ops).op with
 | .indexAddr t x ix=>match opd (frH st acc η) x,opd (frH st acc η) ix,D1 c.E t with
  | some (.one (.sl v n)),some (.one (.int _ i)),.slice e=>(c.E.get e).map fun te=>(v,n,i,e,te.size)
  | some (.one (.sl v n)),some (.one (.lit _ i)),.slice e=>(c.E.get e).map fun te=>(v,n,i,e,te.size)
  | _,_,_=>none
 | _=>none
theorem dz6 (v : (Nat → Value) → Value) (n : Nat) (i : Int) (e : TypeId) (sz : Nat) (Δ : Value → Gh) (hok : ∀ η,ar5 all st acc ops η = true) (hq : ∀ η,d40 c st acc ops η = some (v η,n,i,e,sz)) (hc : c.Ok)
  (h : ∀ β η S w,Mem c.bs st.hp β w → Keeps c.K c.w0 w → G.p S w → depsH acc (opH ops).after.toList η S w → 0 ≤ i ∧ i < n ∧ (∃ S' T' cs,Row S' T' sz w (v η) n cs) ∧ (Δ (.pointer (some (adr (v η) (i.toNat * sz))))).p S w)
  (k : Hd c st G all K (.spec ((opH ops).dst.getD 0) (fun u=>.one (.val u)) Δ :: acc) (ops.drop 1)) : Hd c st G all K acc ops:=by
 refine a54 (fun u=>.one (.val u)) Δ hok (fun β η S w F m ty hkn hup hM hS hw hG hd=>?_) k
 obtain ⟨h0,h1,⟨S',T',cs,hr⟩,h3⟩:=h β η S w hM hw hG hd
 have hq:=hq η
 unfold d40 at hq
 split at hq <;> first | (cases hq; done) | skip
 rename_i t x ix hop
 refine ⟨.pointer (some (adr (v η) (i.toNat * sz))),?_,rfl,(rfl : Value.oneCell' _ = true),h3⟩
 rw [hop] at hkn ⊢
 have key : ∀ (ch : Ch) (kk : IntKind) (v' : Value) (n' : Nat) (i' : Int) (e' : TypeId),(∀ β,ch.den β = .int kk i') → opd (frH st acc η) x = some (.one (.sl v' n')) → opd (frH st acc η) ix = some (.one ch) → D1 c.E t = .slice e' →
   ((c.E.get e').map fun te=>(v',n',i',e',te.size)) = some (v η,n,i,e,sz) → af0 c.P (ev F) (.indexAddr t x ix) ty w (.pointer (some (adr (v η) (i.toNat * sz)))):=by
  intro ch kk v' n' i' e' hch hx hi hk hq
  cases hte : c.E.get e' with
  | none=>rw [hte] at hq; cases hq
  | some te=>
   rw [hte] at hq
   simp only [Option.map_some,Option.some.injEq,Prod.mk.injEq] at hq
   obtain ⟨rfl,rfl,rfl,rfl,rfl⟩:=hq
   have g1:=(hkn x (by simp [Op.operands]) _ hx).1
   have g2:=(hkn ix (by simp [Op.operands]) _ hi).1
   have hkd:=D8 (t:=t) hc.env
   rw [hk] at hkd
   have hkd' : c.P.underlying t = some (.slice e'):=hkd
   obtain ⟨z,hty,_⟩:=(hc.env.get hte).ty
   intro d pos aft g
   rcases hr.2 with ⟨_,h2⟩ | ⟨gg,off,cap,arr,fr,hv2,_⟩
   ·omega
   have g1' : ev F x = .slice (some ⟨gg,off,none⟩) n' cap:=by rw [g1]; exact hv2
   have g2' : ev F ix = .int kk i':=by rw [g2]; exact hch β
   simp [execOp,g1',g2',Instr.indexAt,asIntOf,run_underlying hkd',h0,h1,hty.runSize w,adr,hv2,R4]
 split at hq <;> first | (cases hq; done) | skip
 ·exact key _ _ _ _ _ _ (fun β=>rfl) (by assumption) (by assumption) (by assumption) hq
 exact key _ _ _ _ _ _ (fun β=>rfl) (by assumption) (by assumption) (by assumption) hq
def ldH (c : Cx) (st : St) (acc : List HRec) (ops : List Oper) (η : Nat → Value) : Option (Value × TypeId × Nat × Bool):=
 match (opH ops).op with
 | .load T x=>match opd (frH st acc η) x with
  | some (.one (.val p))=>(c.E.get T).map fun te=>(p,T,te.size,te.agg)
  | _=>none
 | _=>none
theorem dz5 (u : (Nat → Value) → Value) (T : TypeId) (sz : Nat) (g : Bool) (pat : Value → SV) (Δ : Value → Gh) (hok : ∀ η,ar5 all st acc ops η = true) (hq : ∀ η,ldH c st acc ops η = some (u η,T,sz,g)) (hc : c.Ok)
  (hpat : ∀ a S w,(Δ a).p S w → (pat a).Ok 0 ∧ (pat a).den (fun _=>0) = a) (h : ∀ β η S w,Mem c.bs st.hp β w → Keeps c.K c.w0 w → G.p S w → depsH acc (opH ops).after.toList η S w → ∃ S' x,M2 g sz x ∧ At S' w (u η) x.cells.toList ∧ (Δ x).p S w)
  (k : Hd c st G all K (.spec ((opH ops).dst.getD 0) pat Δ :: acc) (ops.drop 1)) : Hd c st G all K acc ops:=by
 refine a54 pat Δ hok (fun β η S w F m ty hkn hup hM hS hw hG hd=>?_) k
 obtain ⟨S',a,h1,h2,h3⟩:=h β η S w hM hw hG hd
 obtain ⟨h4,h5⟩:=hpat a S w h3
 have hq:=hq η
 unfold ldH at hq
 split at hq <;> first | (cases hq; done) | skip
 rename_i T' x hop
 split at hq <;> first | (cases hq; done) | skip
 rename_i p hx
 cases hte : c.E.get T' with
 | none=>rw [hte] at hq; cases hq
 | some te=>
  rw [hte] at hq
  simp only [Option.map_some,Option.some.injEq,Prod.mk.injEq] at hq
  obtain ⟨rfl,rfl,rfl,rfl⟩:=hq
  rw [hop] at hkn ⊢
  have g1 : ev F x = u η:=(hkn x (by simp [Op.operands]) _ hx).1
  obtain ⟨z,hty,_⟩:=(hc.env.get hte).ty
  exact ⟨a,h2.load hty h1 g1,h5.symm,h4,h3⟩
theorem S8 (u : (Nat → Value) → Value) (T : TypeId) (sz : Nat) (g : Bool) (pat : Value → SV) (Δ : Value → Gh) (hc : c.Ok) (h : ∀ β η S w,Mem c.bs st.hp β w → Keeps c.K c.w0 w → G.p S w → depsH acc (opH ops).after.toList η S w → ∃ S' x,M2 g sz x ∧ At S' w (u η) x.cells.toList ∧ (Δ x).p S w) (k : Hd c st G all K (.spec ((opH ops).dst.getD 0) pat Δ :: acc) (ops.drop 1)) (hok : ∀ η,ar5 all st acc ops η = true:=by intros; kernel_rfl) (hq : ∀ η,ldH c st acc ops η = some (u η,T,sz,g):=by intros; kernel_rfl) (hpat : ∀ a S w,(Δ a).p S w → (pat a).Ok 0 ∧ (pat a).den (fun _=>0) = a:=by exact fun _ _ _ h=>⟨h.ok,rfl⟩) : Hd c st G all K acc ops:=
 dz5 u T sz g pat Δ hok hq hc hpat h k
end
section
variable {c : Cx} {o : Out} {G : Gh}
theorem b98 {β : Nat → Nat} {w : World} (b : Nat) (T : TypeId) (s n : Nat) (v : Value) (cs : List Value) (hb : nth o.st.hp b = some (.row T s v n cs)) (hM : Mem c.bs o.st.hp β w) : ∃ S',Row S' T s w v n cs:=bd3 (ce7 hb hM)
end
section
variable {c : Cx} {o : Out} {G : Gh}
end
def A5 (u : Value) (o : Nat) : Value:=match u with | .pointer (some ⟨g,o0,none⟩)=>.pointer (some ⟨g,o0 + o,none⟩) | _=>.nilFunc
def cm1 (u : Value) (o m k : Nat) : Value:=match u with | .pointer (some ⟨g,o0,none⟩)=>.slice (some ⟨g,o0 + o,none⟩) m k | _=>.nilFunc
theorem aw0 (u : Value) (o : Nat) : (A5 u o).oneCell' = true:=by unfold A5; split <;> rfl
theorem cr6 (u : Value) (o m k : Nat) : (cm1 u o m k).oneCell' = true:=by unfold cm1; split <;> rfl
def b96 (b : Nat) (u : Value) : Nat ⊕ Value → Nat ⊕ Value
 | .inl b'=>bif Nat.beq b' b then .inr u else .inl b'
 | .inr x=>.inr x
def Ch.sub (b : Nat) (u : Value) : Ch → Ch
 | .ptr b' o=>bif Nat.beq b' b then .val (A5 u o) else .ptr b' o
 | .fn g cap=>.fn g (cap.map (b96 b u))
 | .win b' o m k=>bif Nat.beq b' b then .val (cm1 u o m k) else .win b' o m k
 | c=>c
def SV.sub (b : Nat) (u : Value) : SV → SV
 | .one c=>.one (c.sub b u)
 | .agg l=>.agg (l.map (Ch.sub b u))
 | .tup l=>.tup (l.map fun p=>(p.1,p.2.map (Ch.sub b u)))
 | .und=>.und
def HE.sub (b : Nat) (u : Value) : HE → HE
 | .blk T l=>.blk T (l.map (Ch.sub b u))
 | e=>e
def co8 (b : Nat) (u : Value) : List (Nat × SV) → List (Nat × SV)
 | []=>[]
 | p :: r=>(p.1,p.2.sub b u) :: co8 b u r
def au7 (b : Nat) (u : Value) : List HE → List HE
 | []=>[]
 | e :: r=>e.sub b u :: au7 b u r
def du1 (b : Nat) (u : Value) (o : Out) : Out:=⟨o.cur,o.k,⟨co8 b u o.st.fr,au7 b u (Y1 o.st.hp b .gone)⟩,[]⟩
theorem b57 [Rd] {b : Nat} {u : Value} : ∀ (l : List HE),au7 b u l = l.map (HE.sub b u):=by
 intro l
 induction l with
 | nil=>rfl
 | cons e r ih=>simp [au7,ih]
section
variable {b m : Nat} {u : Value} {β : Nat → Nat}
theorem Ch.sub_den [Rd] (hu : u = .pointer (some ⟨β b,0,none⟩)) (c : Ch) : (c.sub b u).den β = c.den β:=by
 subst hu
 cases c with
 | ptr b' o=>
  simp only [Ch.sub]
  cases hb : Nat.beq b' b with
  | true=>obtain rfl:=Nat.eq_of_beq_eq_true hb; simp [Ch.den,A5]
  | false=>rfl
 | win b' o m k=>
  simp only [Ch.sub]
  cases hb : Nat.beq b' b with
  | true=>obtain rfl:=Nat.eq_of_beq_eq_true hb; simp [Ch.den,cm1]
  | false=>rfl
 | fn g cap=>
  simp only [Ch.sub,Ch.den,List.map_map]
  congr 2
  refine List.map_congr_left fun x _=>?_
  cases x with
  | inr x=>rfl
  | inl b'=>
   simp only [Function.comp,b96]
   cases hb : Nat.beq b' b with
   | true=>obtain rfl:=Nat.eq_of_beq_eq_true hb; rfl
   | false=>rfl
 | _=>rfl
theorem Ch.sub_cells [Rd] (hu : u = .pointer (some ⟨β b,0,none⟩)) (c : Ch) : (c.sub b u).cells β = c.cells β:=by
 have h:=Ch.sub_den hu c
 cases c with
 | ag n x=>rfl
 | ptr b' o=>
  simp only [Ch.sub] at h ⊢
  cases hb : Nat.beq b' b with
  | true=>rw [hb] at h; exact congrArg (fun x=>[x]) h
  | false=>rfl
 | win b' o m k=>
  simp only [Ch.sub] at h ⊢
  cases hb : Nat.beq b' b with
  | true=>rw [hb] at h; exact congrArg (fun x=>[x]) h
  | false=>rfl
 | fn g cap=>exact congrArg (fun x=>[x]) h
 | _=>rfl
theorem Ch.sub_ok [Rd] (hu : u.oneCell' = true) {c : Ch} (h : c.Ok m) : (c.sub b u).Ok m:=by
 cases c with
 | ptr b' o=>
  simp only [Ch.sub]
  cases hb : Nat.beq b' b with
  | true=>exact aw0 u o
  | false=>exact h
 | win b' o m' k=>
  simp only [Ch.sub]
  cases hb : Nat.beq b' b with
  | true=>exact cr6 u o m' k
  | false=>exact h
 | fn g cap=>
  intro b2 hb2
  obtain ⟨x,hx,he⟩:=List.mem_map.1 hb2
  cases x with
  | inr x=>cases he
  | inl b'=>
   simp only [b96] at he
   cases hb : Nat.beq b' b with
   | true=>rw [hb] at he; cases he
   | false=>
    rw [hb] at he
    simp only [cond_false,Sum.inl.injEq] at he
    subst he
    exact h _ hx
 | _=>exact h
theorem aw7 [Rd] (hu : u = .pointer (some ⟨β b,0,none⟩)) (l : List Ch) : d6 β (l.map (Ch.sub b u)) = d6 β l:=by
 induction l with
 | nil=>rfl
 | cons c r ih=>
  simp only [d6,List.map_cons,List.flatMap_cons] at ih ⊢
  rw [Ch.sub_cells hu,ih]
theorem SV.sub_den [Rd] (hu : u = .pointer (some ⟨β b,0,none⟩)) (s : SV) : (s.sub b u).den β = s.den β:=by
 cases s with
 | one c=>exact Ch.sub_den hu c
 | agg l=>simp only [SV.sub,SV.den]; rw [aw7 hu]
 | tup l=>
  simp only [SV.sub,SV.den,List.map_map]
  congr 2
  refine List.map_congr_left fun p _=>?_
  obtain ⟨g,l⟩:=p
  simp only [Function.comp]
  cases g with
  | true=>simp only [ar6]; rw [aw7 hu]
  | false=>
   cases l with
   | nil=>rfl
   | cons c r=>exact Ch.sub_den hu c
 | und=>rfl
theorem SV.sub_ok [Rd] (hu : u.oneCell' = true) {s : SV} (h : s.Ok m) : (s.sub b u).Ok m:=by
 cases s with
 | one c=>exact Ch.sub_ok (c:=c) hu h
 | agg l=>
  intro c hc
  obtain ⟨d,hd,rfl⟩:=List.mem_map.1 hc
  exact Ch.sub_ok hu (h d hd)
 | tup l=>
  intro p hp c hc
  obtain ⟨q,hq,rfl⟩:=List.mem_map.1 hp
  obtain ⟨d,hd,rfl⟩:=List.mem_map.1 hc
  exact Ch.sub_ok hu (h q hq d hd)
 | und=>trivial
theorem cd6 [Rd] : ∀ {fr : List (Nat × SV)} {d : Nat} {s : SV},J3 (co8 b u fr) d = some s → ∃ s0,J3 fr d = some s0 ∧ s = s0.sub b u:=by
 intro fr
 induction fr with
 | nil=>intro d s h; cases h
 | cons p r ih=>
  obtain ⟨i,x⟩:=p
  intro d s h
  simp only [co8] at h
  rw [G8] at h ⊢
  split
  ·rename_i e
   rw [if_pos e] at h
   simp only [Option.some.injEq] at h
   exact ⟨x,rfl,h.symm⟩
  rename_i e
  rw [if_neg e] at h
  exact ih h
end
theorem a44 {m : Nat} : ∀ {l : List (Nat × SV)},(l.foldr (fun p q=>p.2.Ok m ∧ q) True) → ∀ p ∈ l,p.2.Ok m:=by
 intro l
 induction l with
 | nil=>intro _ p hp; cases hp
 | cons a r ih=>
  intro h p hp
  rcases List.mem_cons.1 hp with rfl | hp
  ·exact h.1
  exact ih h.2 p hp
theorem as6 {m : Nat} : ∀ {l : List (Nat × HE)},(l.foldr (fun p q=>p.2.Ok m ∧ q) True) → ∀ p ∈ l,p.2.Ok m:=by
 intro l
 induction l with
 | nil=>intro _ p hp; cases hp
 | cons a r ih=>
  intro h p hp
  rcases List.mem_cons.1 hp with rfl | hp
  ·exact h.1
  exact ih h.2 p hp
theorem ad9 {m : Nat} {T : TypeId} {l : List Ch} (h : l.foldr (fun c p=>c.Ok m ∧ p) True) : (HE.blk T l).Ok m:=H0 h
theorem Ch.Ok.up {c : Ch} {m : Nat} (h : c.Ok 0) : c.Ok m:=h.le (Nat.zero_le _)
def db3 : Ch → Bool
 | .ptr _ _=>false
 | .win _ _ _ _=>false
 | .fn _ _=>false
 | _=>true
theorem c08 {m : Nat} {c : Ch} (h : db3 c = true) (k : c.Ok m) : c.Ok 0:=by
 cases c <;> first | exact k | cases h
abbrev cs9 (u : Value) (T : TypeId) (cs : List Value) : Gh:=
 ⟨fun S w=>∃ b,u = .pointer (some ⟨b,0,none⟩) ∧ S b ∧ Blk w b T cs,fun ⟨b,h1,h2,h3⟩ k=>⟨b,h1,h2,h3.keep k h2⟩,fun ⟨b,h1,h2,h3⟩ k=>⟨b,h1,k b h3.lt h2,h3⟩⟩
section
variable {c : Cx} {o : Out} {G : Gh}
theorem dn1 [Rd] (b : Nat) (T : TypeId) (l : List Ch) (hb : nth o.st.hp b = some (.blk T l)) (hl : l.all db3 = true) (hc : c.Ok) (hn : ∀ u,Run c (du1 b u o) ((cs9 u T (d6 (fun _=>0) l)).and G)) : Run c o G:=by
 refine ⟨fun β ρ w hS hw hG=>?_⟩
 rw [M5] at hb
 have hbl:=(List.getElem?_eq_some_iff.1 hb).1
 obtain ⟨u,hu⟩ : ∃ u : Value,u = .pointer (some ⟨β b,0,none⟩):=⟨_,rfl⟩
 have hu1 : u.oneCell' = true:=by subst hu; rfl
 have hlen : (au7 b u (Y1 o.st.hp b .gone)).length = o.st.hp.length:=by rw [b57,M4]; simp
 have hget : ∀ i x,(au7 b u (Y1 o.st.hp b .gone))[i]? = some x → (i = b ∧ x = .gone) ∨ (i ≠ b ∧ ∃ y,o.st.hp[i]? = some y ∧ x = y.sub b u):=by
  intro i x hx
  rw [b57,M4,List.getElem?_map] at hx
  by_cases e : b = i
  ·subst e
   rw [List.getElem?_set_self hbl] at hx
   simp only [Option.map_some,Option.some.injEq] at hx
   exact .inl ⟨rfl,hx.symm⟩
  rw [List.getElem?_set_ne e] at hx
  cases hy : o.st.hp[i]? with
  | none=>rw [hy] at hx; cases hx
  | some y=>
   rw [hy] at hx
   simp only [Option.map_some,Option.some.injEq] at hx
   exact .inr ⟨fun e'=>e e'.symm,y,rfl,hx.symm⟩
 have hmine : ∀ i k,m9 β (au7 b u (Y1 o.st.hp b .gone)) i k → b ≠ i ∧ m9 β o.st.hp i k:=by
  rintro i k ⟨x,hx,hk⟩
  rcases hget i x hx with ⟨_,rfl⟩ | ⟨h1,y,h2,rfl⟩
  ·cases hk
  refine ⟨fun e=>h1 e.symm,y,h2,?_⟩
  cases y <;> exact hk
 have hmb : m9 β o.st.hp b (β b):=⟨_,hb,rfl⟩
 obtain ⟨hB,hok⟩:=hS.mem.blk b T l hb
 have hok0 : ∀ ch ∈ l,ch.Ok 0:=fun ch hch=>c08 (List.all_eq_true.1 hl ch hch) (hok ch hch)
 have h1 : Sat c.bs (du1 b u o).st β ρ w:=by
  refine ⟨fun d s hs=>?_,⟨?_,?_,?_,?_,?_⟩,by show _ ≤ (au7 b u (Y1 o.st.hp b .gone)).length; rw [hlen]; exact hS.agr.1,hS.agr.2⟩
  ·obtain ⟨s0,h2,rfl⟩:=cd6 hs
   obtain ⟨h3,h4⟩:=hS.fr d s0 h2
   refine ⟨h3.trans (SV.sub_den hu s0).symm,?_⟩
   show (s0.sub b u).Ok (au7 b u (Y1 o.st.hp b .gone)).length
   rw [hlen]
   exact SV.sub_ok hu1 h4
  ·intro i T' l' hi
   rcases hget i _ hi with ⟨_,e⟩ | ⟨_,y,h2,e⟩
   ·cases e
   cases y with
   | blk T2 l2=>
    simp only [HE.sub,HE.blk.injEq] at e
    obtain ⟨rfl,rfl⟩:=e
    obtain ⟨h3,h4⟩:=hS.mem.blk i T' l2 h2
    refine ⟨by rw [aw7 hu]; exact h3,fun ch hch=>?_⟩
    obtain ⟨d,hd,rfl⟩:=List.mem_map.1 hch
    show (d.sub b u).Ok (au7 b u (Y1 o.st.hp b .gone)).length
    rw [hlen]
    exact Ch.sub_ok hu1 (h4 d hd)
   | row _ _ _ _ _=>cases e
   | gone=>cases e
   | abs _=>cases e
   | hid _ _=>cases e
  ·intro i T' s' v' n' cs' hi
   rcases hget i _ hi with ⟨_,e⟩ | ⟨_,y,h2,e⟩
   ·cases e
   cases y with
   | blk T2 l2=>cases e
   | row _ _ _ _ _=>
    simp only [HE.sub] at e
    cases e
    exact hS.mem.row i _ _ _ _ _ h2
   | gone=>cases e
   | abs _=>cases e
   | hid _ _=>cases e
  ·intro i A hi
   rcases hget i _ hi with ⟨_,e⟩ | ⟨_,y,h2,e⟩
   ·cases e
   cases y with
   | blk T2 l2=>cases e
   | row _ _ _ _ _=>cases e
   | gone=>cases e
   | abs _=>
    simp only [HE.sub] at e
    cases e
    exact hS.mem.abs i _ h2
   | hid _ _=>cases e
  ·intro i k hk; exact hS.mem.low i k (hmine i k hk).2
  intro i j k hi hj; exact hS.mem.apart i j k (hmine i k hi).2 (hmine j k hj).2
 refine (hn u).run β ρ w h1 hw ⟨?_,G.mono hG fun k _ hk=>⟨hk.1,fun i hi=>hk.2 i (hmine i k hi).2⟩⟩
 refine ⟨β b,hu,⟨hS.up0 hc b _ hmb,fun i hi=>?_⟩,?_⟩
 ·obtain ⟨e1,e2⟩:=hmine i _ hi
  exact e1 (hS.mem.apart b i _ hmb e2)
 rw [J0 (m:=0) (β:=fun _=>0) (β':=β) (fun i hi=>absurd hi (Nat.not_lt_zero i)) hok0]
 exact hB
theorem K3 [Rd] (b : Nat) (T : TypeId) (l : List Ch) (hn : ∀ u,Run c (du1 b u o) ((cs9 u T (d6 (fun _=>0) l)).and G)) (hb : nth o.st.hp b = some (.blk T l):=by kernel_rfl) (hl : l.all db3 = true:=by kernel_rfl) (hc : c.Ok:=by exact ⟨b9,by assumption,j6⟩) : Run c o G:=
 dn1 b T l hb hl hc hn
def bo7 (o : Out) (s : SV) (b : Nat) (T : TypeId) (l : List Ch) : Out:=match H5 o s with | ⟨cur,k,⟨fr,hp⟩,_⟩=>⟨cur,k,⟨fr,Y1 hp b (.blk T l)⟩,[]⟩
theorem ci6 [Rd] {α : Type} (f : FuncId) [ci : CallI c.P f] (b : Nat) (T : TypeId) (l : List Ch) (hc : c.Ok) (hb : nth o.st.hp b = some (.blk T l)) (pat : α → SV) (l' : α → List Ch) (pre : α → Prop) (Δ : α → Gh) (hf : I4 f o = true)
  (h : ∀ β S w,Up S w → (∀ k,S k → c.S0 k) → Keeps c.K c.w0 w → G.p S w → Blk w (β b) T (d6 β l) → ¬ S (β b) → ∃ args,(B2 o).map (SV.den β) = args ∧ Gives c.P f args w fun v w'=>Wrt (β b) w w' ∧ ∃ a,v = (pat a).den β ∧ (pat a).Ok o.st.hp.length ∧ pre a ∧ Blk w' (β b) T (d6 β (l' a)) ∧ (∀ ch ∈ l' a,ch.Ok o.st.hp.length) ∧ (Δ a).p S w')
  (hn : ∀ a,pre a → Run c (bo7 o (pat a) b T (l' a)) ((Δ a).and G)) : Run c o G:=by
 refine ⟨fun β ρ w hS hw hG=>?_⟩
 rw [M5] at hb
 have hmb : m9 β o.st.hp b (β b):=⟨_,hb,rfl⟩
 obtain ⟨all,o1,r,d,hcur,hg,hd,hnx,hr⟩:=bh6 hf hS
 obtain ⟨args,ha,hgv⟩:=h β _ w (Sof.up (hc.up.to hw) hS.mem) (fun k hk=>hk.1) hw hG (hS.mem.blk b T l hb).1 (fun hs=>hs.2 b hmb)
 rw [hcur]
 show WqR c.P c.n all (kQ c.P c.n c.Q o.k) (o1 :: r) ρ w
 refine am2 hg ?_
 unfold Stp
 rw [hr,ha]
 refine hgv.mono ?_
 rintro v w' ⟨hk,a,rfl,hok,hp,hB,hlok,hΔ⟩
 have h1:=hn a hp
 unfold bo7 at h1
 rw [hnx] at h1
 simp only [M4] at h1
 have h2 : Sat c.bs ⟨(d,pat a) :: o.st.fr,o.st.hp.set b (.blk T (l' a))⟩ β (upd ρ d ((pat a).den β)) w':=by
  have h3:=hS.wr hb hlok hk hB
  have h4:=h3.put (d:=d) (s:=pat a) rfl (by simpa using hok)
  exact h4
 have hSof : ∀ k,Sof c.S0 β o.st.hp k → Sof c.S0 β (o.st.hp.set b (.blk T (l' a))) k:=fun k hk=>⟨hk.1,fun i hi=>by rw [ae0 hb] at hi; exact hk.2 i hi⟩
 have hkS : Keeps (Sof c.S0 β o.st.hp) w w':=hk.mono fun k hk' e=>hk'.2 b (e ▸ hmb)
 have h5:=h1.run β _ w' h2 (hS.mem.grow hw hk b fun i hi=>(Classical.byContradiction hi : i = β b) ▸ hmb) ⟨(Δ a).mono hΔ fun k _ hk'=>hSof k hk',G.mono (G.keep hG hkS) fun k _ hk'=>hSof k hk'⟩
 rw [hd]
 exact h5
end
section
variable {c : Cx} {o : Out} {G : Gh}
def c84 (o : Out) : Option FuncId:=(ag5 o.st o.cur).map fun x=>x.1
theorem dg4 {o : Out} {f : FuncId} (h : c84 o = some f) : I4 f o = true:=by
 unfold c84 at h
 unfold I4
 cases hx : ag5 o.st o.cur with
 | none=>rw [hx] at h; cases h
 | some x=>
  obtain ⟨g,l,d⟩:=x
  rw [hx] at h
  simp only [Option.map_some,Option.some.injEq] at h
  subst h
  simp
abbrev Pan (P : Program) (f : FuncId) (args : List Value) (w : World) (X : List PanicEntry) : Prop:=GivesE P f args w (fun _ _=>False) fun ch w'=>ch = X ∧ Ext w w'
theorem Q7 {P : Program} {f : FuncId} {args : List Value} {w0 w : World} {X : List PanicEntry} (h : Pan P f args w X) (hw : Ext w0 w) : GivesE P f args w (fun _ _=>False) fun ch w'=>∀ _ : Fr,ch = X ∧ Ext w0 w':=
 h.mono (fun _ _ h=>h) fun _ _ hp _=>⟨hp.1,hw.trans hp.2⟩
theorem s_X [Rd] {f : FuncId} [ci : CallI c.P f] (hc : c.Ok) (hv : (ex c o).vc = []) (hf : I4 f (ex c o) = true)
  (h : ∀ β S w,Up S w → (∀ k,S k → c.S0 k) → Keeps c.K c.w0 w → G.p S w → ∃ args,(B2 (ex c o)).map (SV.den β) = args ∧ GivesE c.P f args w (fun _ _=>False) fun ch w'=>∀ ρ,c.Q (.panic ch) ρ w') : Run c o G:=
 aa3 hc hv (dj4 (α:=Unit) f hc (fun _=>.und) (fun _=>False) (fun _=>.nil) hf (fun β S w h1 h2 h3 h4=>let ⟨args,ha,hg⟩:=h β S w h1 h2 h3 h4; ⟨args,ha,hg.mono (fun _ _ hf=>hf.elim) fun _ _ hp=>hp⟩) fun _ hf=>hf.elim)
def cm3 (st : St) : Cur → Option Value
 | .ops _ (o1 :: _)=>match o1.guard,o1.dst,o1.op with
  | none,none,.panic x=>match opd st.fr x with
   | some (.one (.val (.iface t v)))=>some (.iface t v)
   | _=>none
  | _,_,_=>none
 | _=>none
theorem dm9 [Rd] (x : Value) (hc : c.Ok) (hv : (ex c o).vc = []) (hp : cm3 (ex c o).st (ex c o).cur = some x)
  (h : ∀ S w,(∀ k,S k → c.S0 k) → Keeps c.K c.w0 w → G.p S w → ∀ ρ,c.Q (.panic [{ v:=x,recovered:=false }]) ρ w) : Run c o G:=by
 refine aa3 hc hv ⟨fun β ρ w hS hw hG=>?_⟩
 generalize ex c o = o' at *
 unfold cm3 at hp
 split at hp <;> first | (cases hp; done) | skip
 rename_i all o1 r hcur
 split at hp <;> first | (cases hp; done) | skip
 rename_i y e1 e2 e3
 split at hp <;> first | (cases hp; done) | skip
 rename_i t v hx
 simp only [Option.some.injEq] at hp
 subst hp
 rw [hcur]
 obtain ⟨dst,op,ty,pos,aft,g⟩:=o1
 simp only at e1 e2 e3
 subst e1
 subst e2
 subst e3
 exact c13 ((ad8 fun t _=>hS.fr t) _ hx).1 (a13 (h _ w (fun k hk=>hk.1) hw hG ρ))
end
noncomputable def aw8 (a b c : Value) : Value:=(SV.agg [.ag 3 a,.ag 3 b,.ag 3 c]).den fun _=>0
noncomputable def ap8 (a b c : Value) : Value:=(SV.agg [.ag 4 a,.ag 4 b,.ag 4 c]).den fun _=>0
def TripV (S : Nat → Prop) (w : World) (v : Value) (t : T3) : Prop:=∃ a b c,v = aw8 a b c ∧ RatV S w a t.x ∧ RatV S w b t.y ∧ RatV S w c t.z
def QTripV (S : Nat → Prop) (w : World) (v : Value) (t : T3) : Prop:=∃ a b c,v = ap8 a b c ∧ QV S w a t.x ∧ QV S w b t.y ∧ QV S w c t.z
section
variable {S S' : Nat → Prop} {w w' : World} {v : Value} {t : T3}
theorem TripV.keep (h : TripV S w v t) (k : Keeps S w w') : TripV S w' v t:=let ⟨a,b,c,h1,h2,h3,h4⟩:=h; ⟨a,b,c,h1,h2.keep k,h3.keep k,h4.keep k⟩
theorem TripV.mono (h : TripV S w v t) (hs : ∀ k,k < w.heap.size → S k → S' k) : TripV S' w v t:=let ⟨a,b,c,h1,h2,h3,h4⟩:=h; ⟨a,b,c,h1,h2.mono hs,h3.mono hs,h4.mono hs⟩
theorem QTripV.keep (h : QTripV S w v t) (k : Keeps S w w') : QTripV S w' v t:=let ⟨a,b,c,h1,h2,h3,h4⟩:=h; ⟨a,b,c,h1,h2.keep k,h3.keep k,h4.keep k⟩
theorem QTripV.mono (h : QTripV S w v t) (hs : ∀ k,k < w.heap.size → S k → S' k) : QTripV S' w v t:=let ⟨a,b,c,h1,h2,h3,h4⟩:=h; ⟨a,b,c,h1,h2.mono hs,h3.mono hs,h4.mono hs⟩
theorem bh3 {l : List Ch} {n : Nat} (h : ∀ c ∈ l,c.Ok 0) (hn : Y2 l = n) : (SV.one (.ag n ((SV.agg l).den fun _=>0))).Ok 0:=
 ⟨d6 (fun _=>0) l,rfl,by rw [O0 h,hn],S9 h⟩
theorem TripV.ok (h : TripV S w v t) : (SV.one (.ag 9 v)).Ok 0:=by
 obtain ⟨a,b,c,rfl,h2,h3,h4⟩:=h
 exact bh3 (l:=[.ag 3 a,.ag 3 b,.ag 3 c]) (H0 (m:=0) ⟨h2.ok,h3.ok,h4.ok,trivial⟩) rfl
theorem QTripV.ok (h : QTripV S w v t) : (SV.one (.ag 12 v)).Ok 0:=by
 obtain ⟨a,b,c,rfl,h2,h3,h4⟩:=h
 exact bh3 (l:=[.ag 4 a,.ag 4 b,.ag 4 c]) (H0 (m:=0) ⟨h2.ok,h3.ok,h4.ok,trivial⟩) rfl
end
abbrev o8 (v : Value) (t : T3) : Gh:=⟨fun S w=>TripV S w v t,fun h k=>h.keep k,fun h k=>h.mono k⟩
abbrev I7 (v : Value) (t : T3) : Gh:=⟨fun S w=>QTripV S w v t,fun h k=>h.keep k,fun h k=>h.mono k⟩
theorem av1 {P : Program} {f : FuncId} {args : List Value} {S : Nat → Prop} {w : World} {q : Rat} (hf : R0 q) (h : Gives P f args w fun v w'=>Ext w w' ∧ bg1 S w' v q) : Gives P f args w fun v w'=>Ext w w' ∧ (ac3 v q 0).p S w':=d58 (.inl ⟨hf,rfl,rfl⟩) h
theorem Z6 {S : Nat → Prop} {w : World} {r : Value} {q : Rat} (hS : Up S w) (h : RatV S w r q) : Gives prog 61 [r,.int .i64 0] w fun v' w'=>Ext w w' ∧ RatV S w' v' q:=by
 refine n8 (E:=env) (S0:=S) (G:=(l6 r (q))) (l:=[.one (.ag 3 r),.one (.lit .i64 0)]) func61 rfl rfl rfl ⟨h.ok,trivial,trivial⟩ rfl h ?_
 exact o6 (r) rfl (fun S w hs hw hG=>⟨hw,hG.mono fun k _ hk=>hs k hk⟩)
theorem B3 {S : Nat → Prop} {w : World} {va vb : Value} {a b : Rat} {m n : Nat} (hS : Up S w) (ha : RatV S w va a) (hb : RatV S w vb b) (hla : rl a m) (hlb : rl b n) (hmn : m + n ≤ 3344) :
  Gives prog 62 [va,vb] w fun v' w'=>Ext w w' ∧ RatV S w' v' (a * b):=by
 have hf : R0 (a * b):=Q1 (q9 hla hlb) hmn
 refine n8 (E:=env) (S0:=S) (G:=((l6 va (a)).and (l6 vb (b)))) (l:=[.one (.ag 3 va),.one (.ag 3 vb)]) func62 rfl rfl rfl ⟨ha.ok,hb.ok,trivial⟩ rfl ⟨ha,hb⟩ ?_
 refine B0 (fun x0=>pr (.ag 3 (A8 x0)) (.lit .i64 0)) (fun x0=>ac3 x0 ((a * b)) 0) (fun _ _ _ h=>X5 h) (fun β S w hS hs hw hG=>(kx (av1 hf (dv6 hS hG.1 hG.2 (j9 hla) (j9 hlb))))) ?_
 intro r
 refine B0 (fun x0=>.one (.ag 3 x0)) (fun x0=>l6 x0 ((a * b))) (fun _ _ _ h=>⟨h.ok,rfl⟩) (fun β S w hS hs hw hG=>(kx (Z6 hS hG.1.2))) ?_
 intro x
 exact o6 (x) rfl (fun S w hs hw hG=>⟨hw,hG.1.mono fun k _ hk=>hs k hk⟩)
theorem RatV.okc {S : Nat → Prop} {w : World} {v : Value} {q : Rat} {m : Nat} (h : RatV S w v q) : (Ch.ag 3 v).Ok m:=h.ok
def ax7 (l : List Rat) : Rat:=l.foldl (fun a x=>a + x) 0
theorem a87 {l : List Rat} {j : Nat} (hj : j < l.length) : ax7 (l.take (j + 1)) = ax7 (l.take j) + l.getD j 0:=by
 unfold ax7
 rw [List.take_add_one,List.foldl_append,List.getElem?_eq_getElem hj]
 simp [List.getD_eq_getElem?_getD,List.getElem?_eq_getElem hj]
theorem co2 {l : List Rat} {m : Nat} (h : ∀ x ∈ l,rl x m) : ∀ j,j ≤ l.length → rl (ax7 (l.take j)) (j * (m + 1) + 1):=by
 intro j
 induction j with
 | zero=>
  intro _
  show rl (0 : Rat) _
  exact ⟨Nat.le_trans (L5 (k:=0) (show 0 < 1000000000 ^ 0 by decide)) (Nat.zero_le _),Nat.le_trans (L5 (k:=1) (show 1 < 1000000000 ^ 1 by decide)) (by omega)⟩
 | succ j ih=>
  intro hj
  rw [a87 (by omega)]
  have h1 : l.getD j 0 ∈ l:=by
   rw [List.getD_eq_getElem?_getD,List.getElem?_eq_getElem (by omega)]
   exact List.getElem_mem _
  exact s6 (ah1 (ih (by omega)) (h _ h1)) (by rw [Nat.add_mul]; omega)
theorem RatV.lies {S : Nat → Prop} {w : World} {v : Value} {q : Rat} (h : RatV S w v q) : M2 true 3 v:=by
 obtain ⟨m,b,rfl,_⟩:=h
 exact bi5 [_,_,_]
abbrev W5 (x : Value) (q : Rat) : Gh:=l6 x q
abbrev I1 (v : Value) (l : List Rat) : Gh:=b34 true 3 W5 v l
theorem ds6 {S : Nat → Prop} {w : World} {v : Value} {l : List Rat} {m : Nat} (hS : Up S w) (h : SeqV true 3 W5 S w v l) (hl : ∀ x ∈ l,rl x m) (hn : l.length * (m + 1) + 1 ≤ 3344) :
  Gives prog 109 [v] w fun v' w'=>Ext w w' ∧ RatV S w' v' (ax7 l):=by
 have hmx:=h.len_le
 unfold maxLen at hmx
 refine n8 (E:=env) (S0:=S) (G:=(I1 v l)) (l:=[.one (.sl v l.length)]) func109 rfl rfl rfl ⟨h.sl,trivial⟩ rfl h ?_
 refine ad5 (ι:=Nat × Value) [(5,5),(8,18)] (fun i=>[(8,.one (.int .i64 (i.1 : Int)))]) (fun i=>[(1,.blk 41 [.ag 3 i.2])]) (fun i=>((l6 i.2 (ax7 (l.take i.1))).and (I1 v l))) (fun i=>i.1 ≤ l.length) (fun i=>l.length - i.1) ((0,.agg #[.bool false,.slice none 0 0,.slice none 0 0])) ⟨b9,hS,j6⟩ (by kernel_rfl) (by kernel_rfl) (fun β=>(by kernel_rfl)) (fun β=>(by kernel_rfl)) (by kernel_rfl) (Nat.zero_le _) (fun S w hw hG=>⟨a44 ⟨trivial,trivial⟩,as6 ⟨ad9 ⟨(y6 (S:=S) (w:=w)).okc,trivial⟩,trivial⟩⟩) (fun S w hw hG=>⟨y6,hG⟩) (fun hso i hi=>?_)
 refine Z8 (p:=(i.1 : Int) < (l.length : Int)) (fun hlt=>?_) (fun hlt=>?_)
 ·have hlt' : i.1 < l.length:=by omega
  have hx0 : l[i.1]? = some (l.getD i.1 0):=by rw [List.getD_eq_getElem?_getD,List.getElem?_eq_getElem hlt']; rfl
  have hb:=co2 hl (i.1 + 1) hlt'
  have hle : (i.1 + 1) * (m + 1) ≤ l.length * (m + 1):=Nat.mul_le_mul_right _ hlt'
  refine o5 (bf5 v l.length (i.1 : Int) 41 3 (fun u0=>atG true 3 (fun x0=>l6 x0 ((l.getD i.1 0))) u0) (by kernel_rfl) ⟨b9,hS,j6⟩ (fun β S w hM hw hG=>hG.2.el rfl rfl hx0) ?_)
  intro u_1
  refine o5 (bg8 u_1 41 3 true (fun x0=>.one (.ag 3 x0)) (fun x0=>l6 x0 ((l.getD i.1 0))) (by kernel_rfl) ⟨b9,hS,j6⟩ (fun S w hw hG=>hG.1) (fun _ _ _ h=>⟨h.ok,rfl⟩) ?_)
  intro x
  rw [a87 hlt'] at hb
  have hle2 : i.1 * (m + 1) ≤ l.length * (m + 1):=Nat.mul_le_mul_right _ (by omega)
  have hle3 : m + 1 ≤ l.length * (m + 1):=Nat.le_mul_of_pos_left _ (by omega)
  refine B0 (fun x0=>pr (.ag 3 (A8 x0)) (.lit .i64 0)) (fun x0=>ac3 x0 ((ax7 (l.take i.1) + l.getD i.1 0)) 0) (fun _ _ _ h=>X5 h) (fun β S w hS hs hw hG=>(kx (av1 (Q1 hb (by omega)) (dt4 hS hG.2.2.1 hG.1 (j9 (co2 hl i.1 (by omega))) (j9 (hl _ (List.mem_of_getElem? hx0))))))) ?_
  intro r
  refine B0 (fun x0=>.one (.ag 3 x0)) (fun x0=>l6 x0 ((ax7 (l.take i.1) + l.getD i.1 0))) (fun _ _ _ h=>⟨h.ok,rfl⟩) (fun β S w hS hs hw hG=>(kx (Z6 hS hG.1.2))) ?_
  intro r2
  refine am7 (ps:=[InR .i64 ((i.1 : Int) + 1)]) (by simp only [K7,InR,and_true]; omega) ?_
  exact Y0 ((i.1 + 1,r2)) ⟨b9,hS,j6⟩ hso (by kernel_rfl) (by kernel_rfl) (fun β=>(by kernel_rfl)) (fun β=>(by kernel_rfl)) (by kernel_rfl) (by omega) (by simp only; omega) (fun S w hw hG=>⟨a44 ⟨trivial,trivial⟩,as6 ⟨ad9 ⟨hG.1.okc,trivial⟩,trivial⟩⟩) (fun S w hw hG=>⟨(by show RatV S w r2 _; rw [a87 hlt']; exact hG.1),hG.2.2.2.2.2⟩)
 refine ag6 ?_
 exact o6 (i.2) rfl (fun S w hs hw hG=>have ho:=hG.1; ⟨hw,by have e : l.take i.1 = l:=List.take_of_length_le (by omega); rw [e] at ho; exact ho.mono fun k _ hk=>hs k hk⟩)
theorem Z1 {S : Nat → Prop} {w : World} {v : Value} {l : List Rat} {m : Nat} {q : Rat} (e : ax7 l = q) (hS : Up S w) (h : SeqV true 3 W5 S w v l) (hl : ∀ x ∈ l,rl x m) (hn : l.length * (m + 1) + 1 ≤ 3344) :
  Gives prog 109 [v] w fun v' w'=>Ext w w' ∧ RatV S w' v' q:=e ▸ ds6 hS h hl hn
theorem de0 (a b : Rat) : ax7 [a,b] = a + b:=by unfold ax7; simp only [List.foldl]; grind
theorem X4 (a b : Rat) : ax7 [a,-b] = a - b:=by unfold ax7; simp only [List.foldl]; grind
theorem d42 (a b c : Rat) : ax7 [a,b,c] = a + b + c:=by unfold ax7; simp only [List.foldl]; grind
section
variable {S : Nat → Prop} {w : World} {v a b c : Value} {x y z : Rat}
theorem bb7 (h0 : RatV S w a x) (h1 : RatV S w b y) (hrow : Row S 41 3 w v 2 (a.cells.toList ++ (b.cells.toList ++ []))) : SeqV true 3 W5 S w v [x,y]:=
 ⟨_,[a,b],rfl,fun u hu=>by rcases List.mem_cons.1 hu with rfl | hu; exact h0.lies; rw [List.mem_singleton.1 hu]; exact h1.lies,hrow,fun i p u hp hu=>by
  match i with
  | 0=>simp at hp hu; subst hp; subst hu; exact h0
  | 1=>simp at hp hu; subst hp; subst hu; exact h1
  | i + 2=>simp at hp⟩
theorem d84 (h0 : RatV S w a x) (h1 : RatV S w b y) (h2 : RatV S w c z) (hrow : Row S 41 3 w v 3 (a.cells.toList ++ (b.cells.toList ++ (c.cells.toList ++ [])))) : SeqV true 3 W5 S w v [x,y,z]:=
 ⟨_,[a,b,c],rfl,fun u hu=>by
  rcases List.mem_cons.1 hu with rfl | hu
  ·exact h0.lies
  ·rcases List.mem_cons.1 hu with rfl | hu
   ·exact h1.lies
   rw [List.mem_singleton.1 hu]; exact h2.lies,hrow,fun i p u hp hu=>by
  match i with
  | 0=>simp at hp hu; subst hp; subst hu; exact h0
  | 1=>simp at hp hu; subst hp; subst hu; exact h1
  | 2=>simp at hp hu; subst hp; subst hu; exact h2
  | i + 3=>simp at hp⟩
theorem a40 {p : Rat → Prop} (h0 : p x) (h1 : p y) : ∀ u ∈ [x,y],p u:=fun u hu=>by
 rcases List.mem_cons.1 hu with rfl | hu
 ·exact h0
 rw [List.mem_singleton.1 hu]; exact h1
theorem fa1 {p : Rat → Prop} (h0 : p x) (h1 : p y) (h2 : p z) : ∀ u ∈ [x,y,z],p u:=fun u hu=>by
 rcases List.mem_cons.1 hu with rfl | hu
 ·exact h0
 exact a40 h1 h2 u hu
end
theorem cq2 {q : Rat} : (q.num.sign = 0) = (q = 0):=by
 refine propext ⟨fun h=>?_,fun h=>by subst h; rfl⟩
 exact Rat.num_eq_zero.1 (Int.sign_eq_zero_iff_zero.1 h)
theorem F8 {S : Nat → Prop} {w : World} {v : Value} {q : Rat} (hS : Up S w) (h : RatV S w v q) : Gives prog 53 [v] w fun v' w'=>v' = .bool (tst (q = 0)) ∧ Ext w w':=by
 refine n8 (E:=env) (S0:=S) (G:=(l6 v (q))) (l:=[.one (.ag 3 v)]) func53 rfl rfl rfl ⟨h.ok,trivial⟩ rfl h ?_
 refine B6 (.one (.int .i64 q.num.sign)) rfl (fun β S w hS hs hw hG=>(kx (cn7 hG))) ?_
 exact o6 (.bool (tst (q.num.sign = 0))) rfl (fun S w hs hw hG=>⟨by rw [cq2],hw⟩)
theorem be8 {S : Nat → Prop} {w : World} {vp vq : Value} {p q : T3} {m n : Nat} (hS : Up S w) (hp : TripV S w vp p) (hq : TripV S w vq q) (hm : tl p m) (hn : tl q n) (hmn : 3 * (m + n + 1) + 1 ≤ 3344) :
  Gives prog 54 [vp,vq] w fun v' w'=>Ext w w' ∧ RatV S w' v' (p.dot q):=by
 obtain ⟨a1,b1,c1,rfl,ha1,hb1,hc1⟩:=hp
 obtain ⟨a2,b2,c2,rfl,ha2,hb2,hc2⟩:=hq
 refine n8 (E:=env) (S0:=S) (G:=((l6 a1 p.x).and ((l6 b1 p.y).and ((l6 c1 p.z).and ((l6 a2 q.x).and ((l6 b2 q.y).and (l6 c2 q.z))))))) (l:=[.agg [.ag 3 a1,.ag 3 b1,.ag 3 c1],.agg [.ag 3 a2,.ag 3 b2,.ag 3 c2]]) func54 rfl rfl rfl ⟨H0 ⟨ha1.okc,hb1.okc,hc1.okc,trivial⟩,H0 ⟨ha2.okc,hb2.okc,hc2.okc,trivial⟩,trivial⟩ rfl ⟨ha1,hb1,hc1,ha2,hb2,hc2⟩ ?_
 refine j7 17 ?_
 refine b7 4 ?_
 refine o9 (fun x0=>.one (.ag 3 x0)) (fun x0=>l6 x0 ((p.x * q.x))) (fun β η S w hS hs hw hG hd=>(kx (B3 hS hG.1 hG.2.2.2.1 hm.1 hn.1 (by omega)))) ?_
 refine b7 4 ?_
 refine o9 (fun x0=>.one (.ag 3 x0)) (fun x0=>l6 x0 ((p.y * q.y))) (fun β η S w hS hs hw hG hd=>(kx (B3 hS hG.2.1 hG.2.2.2.2.1 hm.2.1 hn.2.1 (by omega)))) ?_
 refine b7 4 ?_
 refine o9 (fun x0=>.one (.ag 3 x0)) (fun x0=>l6 x0 ((p.z * q.z))) (fun β η S w hS hs hw hG hd=>(kx (B3 hS hG.2.2.1 hG.2.2.2.2.2 hm.2.2 hn.2.2 (by omega)))) ?_
 refine Y9 41 3 3 (fun x0=>I1 x0 [p.x * q.x,p.y * q.y,p.z * q.z]) ⟨b9,hS,j6⟩ (fun η=>(by kernel_rfl)) (fun β η S w x0 w' hS hs hw hG hd hk hrow=>d84 ((p6 hd 4 : (l6 (η 4) ((p.x * q.x))).p S w).to hk) ((p6 hd 9 : (l6 (η 9) ((p.y * q.y))).p S w).to hk) ((p6 hd 14 : (l6 (η 14) ((p.z * q.z))).p S w).to hk) (kc hrow (by kernel_rfl))) ?_
 refine o9 (fun x0=>.one (.ag 3 x0)) (fun x0=>l6 x0 ((p.dot q))) (fun β η S w hS hs hw hG hd=>(kx (Z1 (m:=m + n) (d42 _ _ _) hS (p6 hd 15 : (I1 (η 15) [p.x * q.x,p.y * q.y,p.z * q.z]).p S w) (fa1 (q9 hm.1 hn.1) (q9 hm.2.1 hn.2.1) (q9 hm.2.2 hn.2.2)) (by simp only [List.length]; omega)))) ?_
 refine j3 [true,false,false,false,false] (Gh.nil) (by exact fun _ _ h=>trivial) (fun g η=>(l6 (η 16) ((p.dot q))).and g) (fun g η=>(by kernel_rfl)) ?_
 intro η_1
 exact o6 ((η_1 16)) rfl (fun S w hs hw hG=>⟨hw,hG.1.mono fun k _ hk=>hs k hk⟩)
theorem S2 {S : Nat → Prop} {w : World} {vp vq : Value} {p q : T3} {m n : Nat} (hS : Up S w) (hp : TripV S w vp p) (hq : TripV S w vq q) (hm : tl p m) (hn : tl q n) (hmn : 2 * (m + n + 1) + 1 ≤ 3344) :
  Gives prog 106 [vp,vq] w fun v' w'=>Ext w w' ∧ TripV S w' v' (p.cross q):=by
 obtain ⟨a1,b1,c1,rfl,ha1,hb1,hc1⟩:=hp
 obtain ⟨a2,b2,c2,rfl,ha2,hb2,hc2⟩:=hq
 refine n8 (E:=env) (S0:=S) (G:=((l6 a1 p.x).and ((l6 b1 p.y).and ((l6 c1 p.z).and ((l6 a2 q.x).and ((l6 b2 q.y).and (l6 c2 q.z))))))) (l:=[.agg [.ag 3 a1,.ag 3 b1,.ag 3 c1],.agg [.ag 3 a2,.ag 3 b2,.ag 3 c2]]) func106 rfl rfl rfl ⟨H0 ⟨ha1.okc,hb1.okc,hc1.okc,trivial⟩,H0 ⟨ha2.okc,hb2.okc,hc2.okc,trivial⟩,trivial⟩ rfl ⟨ha1,hb1,hc1,ha2,hb2,hc2⟩ ?_
 refine n9 ?_
 refine j7 18 ?_
 refine b7 7 ?_
 refine o9 (fun x0=>.one (.ag 3 x0)) (fun x0=>l6 x0 ((p.y * q.z))) (fun β η S w hS hs hw hG hd=>(kx (B3 hS hG.2.1 hG.2.2.2.2.2 hm.2.1 hn.2.2 (by omega)))) ?_
 refine b7 6 ?_
 refine o9 (fun x0=>.one (.ag 3 x0)) (fun x0=>l6 x0 ((p.z * q.y))) (fun β η S w hS hs hw hG hd=>(kx (B3 hS hG.2.2.1 hG.2.2.2.2.1 hm.2.2 hn.2.1 (by omega)))) ?_
 refine o9 (fun x0=>.one (.ag 3 x0)) (fun x0=>l6 x0 ((-(p.z * q.y)))) (fun β η S w hS hs hw hG hd=>(kx (ak8 (p6 hd 14 : (l6 (η 14) ((p.z * q.y))).p S w)))) ?_
 refine Y9 41 3 2 (fun x0=>I1 x0 [p.y * q.z,-(p.z * q.y)]) ⟨b9,hS,j6⟩ (fun η=>(by kernel_rfl)) (fun β η S w x0 w' hS hs hw hG hd hk hrow=>bb7 ((p6 hd 7 : (l6 (η 7) ((p.y * q.z))).p S w).to hk) ((p6 hd 15 : (l6 (η 15) ((-(p.z * q.y)))).p S w).to hk) (kc hrow (by kernel_rfl))) ?_
 refine o9 (fun x0=>.one (.ag 3 x0)) (fun x0=>l6 x0 ((p.y * q.z - p.z * q.y))) (fun β η S w hS hs hw hG hd=>(kx (Z1 (m:=m + n) (X4 _ _) hS (p6 hd 16 : (I1 (η 16) [p.y * q.z,-(p.z * q.y)]).p S w) (a40 (q9 hm.2.1 hn.2.2) (ag7 (q9 hm.2.2 hn.2.1))) (by simp only [List.length]; omega)))) ?_
 refine j3 [true,false,false,false,false] ((l6 a1 p.x).and ((l6 b1 p.y).and ((l6 c1 p.z).and ((l6 a2 q.x).and ((l6 b2 q.y).and ((l6 c2 q.z).and (Gh.nil))))))) (by exact fun _ _ h=>⟨h.1,h.2.1,h.2.2.1,h.2.2.2.1,h.2.2.2.2.1,h.2.2.2.2.2,trivial⟩) (fun g η=>(l6 (η 17) ((p.y * q.z - p.z * q.y))).and g) (fun g η=>(by kernel_rfl)) ?_
 intro η_1
 refine j7 18 ?_
 refine b7 7 ?_
 refine o9 (fun x0=>.one (.ag 3 x0)) (fun x0=>l6 x0 ((p.z * q.x))) (fun β η S w hS hs hw hG hd=>(kx (B3 hS hG.2.2.2.1 hG.2.2.2.2.1 hm.2.2 hn.1 (by omega)))) ?_
 refine b7 6 ?_
 refine o9 (fun x0=>.one (.ag 3 x0)) (fun x0=>l6 x0 ((p.x * q.z))) (fun β η S w hS hs hw hG hd=>(kx (B3 hS hG.2.1 hG.2.2.2.2.2.2.1 hm.1 hn.2.2 (by omega)))) ?_
 refine o9 (fun x0=>.one (.ag 3 x0)) (fun x0=>l6 x0 ((-(p.x * q.z)))) (fun β η S w hS hs hw hG hd=>(kx (ak8 (p6 hd 14 : (l6 (η 14) ((p.x * q.z))).p S w)))) ?_
 refine Y9 41 3 2 (fun x0=>I1 x0 [p.z * q.x,-(p.x * q.z)]) ⟨b9,hS,j6⟩ (fun η=>(by kernel_rfl)) (fun β η S w x0 w' hS hs hw hG hd hk hrow=>bb7 ((p6 hd 7 : (l6 (η 7) ((p.z * q.x))).p S w).to hk) ((p6 hd 15 : (l6 (η 15) ((-(p.x * q.z)))).p S w).to hk) (kc hrow (by kernel_rfl))) ?_
 refine o9 (fun x0=>.one (.ag 3 x0)) (fun x0=>l6 x0 ((p.z * q.x - p.x * q.z))) (fun β η S w hS hs hw hG hd=>(kx (Z1 (m:=m + n) (X4 _ _) hS (p6 hd 16 : (I1 (η 16) [p.z * q.x,-(p.x * q.z)]).p S w) (a40 (q9 hm.2.2 hn.1) (ag7 (q9 hm.1 hn.2.2))) (by simp only [List.length]; omega)))) ?_
 refine j3 [true,false,false,false,false] ((l6 (η_1 17) ((p.y * q.z - p.z * q.y))).and ((l6 a1 p.x).and ((l6 b1 p.y).and ((l6 a2 q.x).and ((l6 b2 q.y).and (Gh.nil)))))) (by exact fun _ _ h=>⟨h.1,h.2.1,h.2.2.1,h.2.2.2.2.1,h.2.2.2.2.2.1,trivial⟩) (fun g η=>(l6 (η 17) ((p.z * q.x - p.x * q.z))).and g) (fun g η=>(by kernel_rfl)) ?_
 intro η_2
 refine j7 18 ?_
 refine b7 7 ?_
 refine o9 (fun x0=>.one (.ag 3 x0)) (fun x0=>l6 x0 ((p.x * q.y))) (fun β η S w hS hs hw hG hd=>(kx (B3 hS hG.2.2.1 hG.2.2.2.2.2.1 hm.1 hn.2.1 (by omega)))) ?_
 refine b7 6 ?_
 refine o9 (fun x0=>.one (.ag 3 x0)) (fun x0=>l6 x0 ((p.y * q.x))) (fun β η S w hS hs hw hG hd=>(kx (B3 hS hG.2.2.2.1 hG.2.2.2.2.1 hm.2.1 hn.1 (by omega)))) ?_
 refine o9 (fun x0=>.one (.ag 3 x0)) (fun x0=>l6 x0 ((-(p.y * q.x)))) (fun β η S w hS hs hw hG hd=>(kx (ak8 (p6 hd 14 : (l6 (η 14) ((p.y * q.x))).p S w)))) ?_
 refine Y9 41 3 2 (fun x0=>I1 x0 [p.x * q.y,-(p.y * q.x)]) ⟨b9,hS,j6⟩ (fun η=>(by kernel_rfl)) (fun β η S w x0 w' hS hs hw hG hd hk hrow=>bb7 ((p6 hd 7 : (l6 (η 7) ((p.x * q.y))).p S w).to hk) ((p6 hd 15 : (l6 (η 15) ((-(p.y * q.x)))).p S w).to hk) (kc hrow (by kernel_rfl))) ?_
 refine o9 (fun x0=>.one (.ag 3 x0)) (fun x0=>l6 x0 ((p.x * q.y - p.y * q.x))) (fun β η S w hS hs hw hG hd=>(kx (Z1 (m:=m + n) (X4 _ _) hS (p6 hd 16 : (I1 (η 16) [p.x * q.y,-(p.y * q.x)]).p S w) (a40 (q9 hm.1 hn.2.1) (ag7 (q9 hm.2.1 hn.1))) (by simp only [List.length]; omega)))) ?_
 refine j3 [true,false,false,false,false] ((l6 (η_2 17) ((p.z * q.x - p.x * q.z))).and ((l6 (η_1 17) ((p.y * q.z - p.z * q.y))).and (Gh.nil))) (by exact fun _ _ h=>⟨h.1,h.2.1,trivial⟩) (fun g η=>(l6 (η 17) ((p.x * q.y - p.y * q.x))).and g) (fun g η=>(by kernel_rfl)) ?_
 intro η_3
 exact o6 (aw8 (η_1 17) (η_2 17) (η_3 17)) rfl (fun S w hs hw hG=>⟨hw,_,_,_,rfl,hG.2.2.1.mono fun k _ hk=>hs k hk,hG.2.1.mono fun k _ hk=>hs k hk,hG.1.mono fun k _ hk=>hs k hk⟩)
theorem a43 {S : Nat → Prop} {w : World} {v : Value} {p : T3} (hS : Up S w) (h : TripV S w v p) : Gives prog 107 [v] w fun v' w'=>v' = .bool (tst p.None) ∧ Ext w w':=by
 obtain ⟨a,b,c,rfl,ha,hb,hc⟩:=h
 refine n8 (E:=env) (S0:=S) (G:=((l6 a p.x).and ((l6 b p.y).and (l6 c p.z)))) (l:=[.agg [.ag 3 a,.ag 3 b,.ag 3 c]]) func107 rfl rfl rfl ⟨H0 ⟨ha.okc,hb.okc,hc.okc,trivial⟩,trivial⟩ rfl ⟨ha,hb,hc⟩ ?_
 refine B6 (.one (.tp (p.x = 0))) rfl (fun β S w hS hs hw hG=>(kx (F8 hS hG.1))) ?_
 refine S6 (p:=p.x = 0) 6 (fun hx=>?_) (fun hx=>?_)
 ·refine B6 (.one (.tp (p.y = 0))) rfl (fun β S w hS hs hw hG=>(kx (F8 hS hG.2.1))) ?_
  refine S6 (p:=p.y = 0) 11 (fun hy=>?_) (fun hy=>?_)
  ·refine B6 (.one (.tp (p.z = 0))) rfl (fun β S w hS hs hw hG=>(kx (F8 hS hG.2.2))) ?_
   exact o6 (.bool (tst (p.z = 0))) rfl (fun S w hs hw hG=>⟨by rw [show p.None = (p.z = 0) from propext ⟨fun h=>h.2.2,fun h=>⟨hx,hy,h⟩⟩],hw⟩)
  exact o6 (.bool false) rfl (fun S w hs hw hG=>⟨by rw [l7 fun h : p.None=>hy h.2.1],hw⟩)
 exact o6 (.bool false) rfl (fun S w hs hw hG=>⟨by rw [l7 fun h : p.None=>hx h.1],hw⟩)
theorem as3 {S : Nat → Prop} {w : World} {vp vq : Value} {p q : T3} {m n : Nat} (hS : Up S w) (hp : TripV S w vp p) (hq : TripV S w vq q) (hm : tl p m) (hn : tl q n) (hmn : 2 * (m + n + 1) + 1 ≤ 3344) :
  Gives prog 111 [vp,vq] w fun v' w'=>v' = .bool (tst (T3.Same p q)) ∧ Ext w w':=by
 refine n8 (E:=env) (S0:=S) (G:=((o8 vp (p)).and (o8 vq (q)))) (l:=[.one (.ag 9 vp),.one (.ag 9 vq)]) func111 rfl rfl rfl ⟨hp.ok,hq.ok,trivial⟩ rfl ⟨hp,hq⟩ ?_
 refine B0 (fun x0=>.one (.ag 9 x0)) (fun x0=>o8 x0 ((p.cross q))) (fun _ _ _ h=>⟨h.ok,rfl⟩) (fun β S w hS hs hw hG=>(kx (S2 hS hG.1 hG.2 hm hn hmn))) ?_
 intro x
 refine B6 (.one (.tp (T3.Same p q))) rfl (fun β S w hS hs hw hG=>(kx (a43 hS hG.1))) ?_
 exact o6 (.bool (tst (T3.Same p q))) rfl (fun S w hs hw hG=>⟨rfl,hw⟩)
theorem bc8 {S : Nat → Prop} {w : World} {vp vq vr : Value} {p q r : T3} {m n k : Nat} (hS : Up S w) (hp : TripV S w vp p) (hq : TripV S w vq q) (hr : TripV S w vr r) (hm : tl p m) (hn : tl q n) (hk : tl r k) (hmn : 3 * (2 * (m + n) + 1 + k + 1) + 1 ≤ 3344) :
  Gives prog 58 [vp,vq,vr] w fun v' w'=>v' = .bool (tst (T3.Flat p q r)) ∧ Ext w w':=by
 have hc:=r5 hm hn
 refine n8 (E:=env) (S0:=S) (G:=((o8 vp (p)).and ((o8 vq (q)).and (o8 vr (r))))) (l:=[.one (.ag 9 vp),.one (.ag 9 vq),.one (.ag 9 vr)]) func58 rfl rfl rfl ⟨hp.ok,hq.ok,hr.ok,trivial⟩ rfl ⟨hp,hq,hr⟩ ?_
 refine j7 6 ?_
 refine b7 2 ?_
 refine o9 (fun x0=>.one (.ag 9 x0)) (fun x0=>o8 x0 ((p.cross q))) (fun β η S w hS hs hw hG hd=>(kx (S2 hS hG.1 hG.2.1 hm hn (by omega)))) ?_
 refine b7 1 ?_
 refine o9 (fun x0=>.one (.ag 3 x0)) (fun x0=>l6 x0 (((p.cross q).dot r))) (fun β η S w hS hs hw hG hd=>(kx (be8 hS (p6 hd 2 : (o8 (η 2) ((p.cross q))).p S w) hG.2.2 hc hk (by omega)))) ?_
 refine h_K (.one (.tp (T3.Flat p q r))) (fun η=>(by kernel_rfl)) (J2 rfl) rfl (fun β η S w hS hs hw hG hd=>(kx (F8 hS (p6 hd 4 : (l6 (η 4) (((p.cross q).dot r))).p S w)))) ?_
 refine j3 [false,false,false] (Gh.nil) (by exact fun _ _ h=>trivial) (fun g η=>g) (fun g η=>(by kernel_rfl)) ?_
 intro η_1
 exact o6 (.bool (tst (T3.Flat p q r))) rfl (fun S w hs hw hG=>⟨rfl,hw⟩)
def I8 (e : Int) : List PanicEntry:=[{ v:=.iface 144 (.agg #[.int .i64 e]),recovered:=false }]
theorem ac2 {w : World} {e : Int} : Pan prog 59 [.int .i64 e] w (I8 e):=by
 have hS : Up All w:=Up.all
 refine L8 (E:=env) (S0:=All) (G:=Gh.nil) (l:=[.one (.int .i64 (e))]) func59 rfl rfl rfl ⟨trivial,trivial⟩ rfl trivial ?_
 exact dm9 (.iface 144 (.agg #[.int .i64 e])) ⟨b9,hS,j6⟩ (by kernel_rfl) (by kernel_rfl) (fun S w hs hw hG ρ=>⟨rfl,hw⟩)
open Classical in
noncomputable def U1 (p : Rat → Prop) : List Rat → Nat → Int
 | [],_=>-1
 | x :: r,k=>if p x then (k : Int) else U1 p r (k + 1)
theorem cv3 {p : Rat → Prop} {l : List Rat} {j : Nat} (hj : j < l.length) : (p (l.getD j 0) → U1 p (l.drop j) j = (j : Int)) ∧ (¬ p (l.getD j 0) → U1 p (l.drop j) j = U1 p (l.drop (j + 1)) (j + 1)):=by
 have e : l.drop j = l.getD j 0 :: l.drop (j + 1):=by
  rw [List.drop_eq_getElem_cons hj,List.getD_eq_getElem?_getD,List.getElem?_eq_getElem hj]
  rfl
 rw [e]
 exact ⟨fun h=>by unfold U1; rw [if_pos h],fun h=>by conv=>lhs; unfold U1; rw [if_neg h]⟩
theorem a74 {p : Rat → Prop} : ∀ {l : List Rat} {k : Nat},(∃ x ∈ l,p x) ↔ 0 ≤ U1 p l k:=by
 intro l
 induction l with
 | nil=>intro k; unfold U1; simp
 | cons x r ih=>
  intro k
  unfold U1
  by_cases h : p x
  ·rw [if_pos h]; exact ⟨fun _=>by omega,fun _=>⟨x,List.mem_cons_self ..,h⟩⟩
  rw [if_neg h,← ih]
  constructor
  ·rintro ⟨y,hy,hp⟩
   rcases List.mem_cons.1 hy with rfl | hy
   ·exact absurd hp h
   exact ⟨y,hy,hp⟩
  rintro ⟨y,hy,hp⟩; exact ⟨y,List.mem_cons_of_mem _ hy,hp⟩
abbrev dq4 (P : Program) (f : FuncId) (w : World) (l : List Rat) (p : Rat → Prop) : Prop:=∀ S' w' x q,q ∈ l → Up S' w' → Ext w w' → RatV S' w' x q → Gives P f [x] w' fun v w''=>v = .bool (tst (p q)) ∧ Ext w' w''
theorem b26 {S : Nat → Prop} {w : World} {v : Value} {l : List Rat} {p : Rat → Prop} (f : FuncId) [ci : CallI prog f] (hS : Up S w) (h : SeqV true 3 W5 S w v l) (hf : dq4 prog f w l p) :
  Gives prog 162 [v,.func (.func f) #[] #[]] w fun v' w'=>v' = .int .i64 (U1 p l 0) ∧ Ext w w':=by
 have hmx:=h.len_le
 unfold maxLen at hmx
 refine n8 (E:=env) (S0:=S) (G:=(I1 v (l))) (l:=[.one (.sl v (l).length),.one (.fn f [])]) func162 rfl rfl rfl ⟨h.sl,(fun _ h=>by cases h),trivial⟩ rfl h ?_
 refine ad5 (ι:=Nat) [(4,5),(8,18)] (fun j=>[(8,.one (.int .i64 (j : Int)))]) (fun _=>[]) (fun j=>(I1 v (l))) (fun j=>j ≤ l.length ∧ U1 p (l.drop j) j = U1 p l 0) (fun j=>l.length - j) (0) ⟨b9,hS,j6⟩ (by kernel_rfl) (by kernel_rfl) (fun β=>(by kernel_rfl)) (fun β=>(by kernel_rfl)) (by kernel_rfl) (⟨Nat.zero_le _,rfl⟩) (fun S w hw hG=>⟨B5 rfl,fun p hp=>by cases hp⟩) (fun S w hw hG=>hG) (fun hso j hj=>?_)
 refine Z8 (p:=(j : Int) < (l.length : Int)) (fun hlt=>?_) (fun hlt=>?_)
 ·have hlt' : j < l.length:=by omega
  have hx0 : l[j]? = some (l.getD j 0):=by rw [List.getD_eq_getElem?_getD,List.getElem?_eq_getElem hlt']; rfl
  obtain ⟨d1,d2⟩:=cv3 (p:=p) hlt'
  refine o5 (bf5 v l.length (j : Int) 41 3 (fun u0=>atG true 3 (fun x0=>l6 x0 ((l.getD j 0))) u0) (by kernel_rfl) ⟨b9,hS,j6⟩ (fun β S w hM hw hG=>hG.el rfl rfl hx0) ?_)
  intro u_1
  refine o5 (bg8 u_1 41 3 true (fun x0=>.one (.ag 3 x0)) (fun x0=>l6 x0 ((l.getD j 0))) (by kernel_rfl) ⟨b9,hS,j6⟩ (fun S w hw hG=>hG.1) (fun _ _ _ h=>⟨h.ok,rfl⟩) ?_)
  intro x
  refine s_K (.one (.tp (p (l.getD j 0)))) ⟨b9,hS,j6⟩ (by kernel_rfl) (dg4 (by kernel_rfl)) (J2 rfl) rfl (fun β S w hS hs hw hG=>(kx (hf _ _ _ _ (List.mem_of_getElem? hx0) hS hw hG.1))) ?_
  refine Z8 (p:=p (l.getD j 0)) (fun hp=>?_) (fun hp=>?_)
  ·refine ag6 ?_
   exact o6 (.int .i64 (j : Int)) rfl (fun S w hs hw hG=>⟨by rw [← hj.2,d1 hp],hw⟩)
  refine am7 (ps:=[InR .i64 ((j : Int) + 1)]) (by simp only [K7,InR,and_true]; omega) ?_
  exact Y0 (j + 1) ⟨b9,hS,j6⟩ hso (by kernel_rfl) (by kernel_rfl) (fun β=>(by kernel_rfl)) (fun β=>(by kernel_rfl)) (by kernel_rfl) (⟨by omega,by rw [← d2 hp]; exact hj.2⟩) (by omega) (fun S w hw hG=>⟨B5 rfl,fun p hp=>by cases hp⟩) (fun S w hw hG=>hG.2.2)
 refine ag6 ?_
 exact o6 (.int .i64 (-1)) rfl (fun S w hs hw hG=>⟨by rw [← hj.2,List.drop_of_length_le (by omega)]; rfl,hw⟩)
theorem aa7 {S : Nat → Prop} {w : World} {v : Value} {l : List Rat} {p : Rat → Prop} (f : FuncId) [ci : CallI prog f] (hS : Up S w) (h : SeqV true 3 W5 S w v l) (hf : dq4 prog f w l p) :
  Gives prog 136 [v,.func (.func f) #[] #[]] w fun v' w'=>v' = .bool (tst (∃ x ∈ l,p x)) ∧ Ext w w':=by
 refine n8 (E:=env) (S0:=S) (G:=(I1 v (l))) (l:=[.one (.sl v (l).length),.one (.fn f [])]) func136 rfl rfl rfl ⟨h.sl,(fun _ h=>by cases h),trivial⟩ rfl h ?_
 refine B6 (.one (.int .i64 (U1 p l 0))) rfl (fun β S w hS hs hw hG=>(kx (b26 f hS hG (fun S' w' x q h0 h1 h2 h3=>hf S' w' x q h0 h1 (hw.trans h2) h3)))) ?_
 exact o6 (.bool (tst (0 ≤ U1 p l 0))) rfl (fun S w hs hw hG=>⟨by rw [a74 (k:=0)],hw⟩)
def Y4 (q : Rat) : Prop:=40 < Lib.nDigits q.num.natAbs ∨ 40 < Lib.nDigits q.den
theorem bu0 (z : Int) (h : 0 ≤ z) : (Lib.itoa z).length = Lib.nDigits z.natAbs:=by
 obtain ⟨n,rfl⟩ : ∃ n : Nat,z = (n : Int):=⟨z.toNat,by omega⟩
 rw [bd9,Lib.decDigits_length]
 rfl
theorem dn0 (z : Int) (h : z < 0) : (Lib.itoa (-z)).length = Lib.nDigits z.natAbs:=by
 rw [bu0 (-z) (by omega),Int.natAbs_neg]
theorem dz3 {S : Nat → Prop} {w : World} {v : Value} {q : Rat} (hS : Up S w) (h : RatV S w v q) : Gives prog 167 [v] w fun v' w'=>Ext w w' ∧ IntV S 193 .u32 w' v' q.num:=by
 obtain ⟨m,b,rfl,hm,hb⟩:=h
 have hi : IntV S 193 .u32 w (.agg #[.bool (tst (q.num < 0)),m]) q.num:=⟨m,rfl,hm⟩
 refine n8 (E:=env) (S0:=S) (G:=(dd7 (.agg #[.bool (tst (q.num < 0)),m]) q.num)) (l:=[.agg [.tp (q.num < 0),.val m,.val b]]) func167 rfl rfl rfl ⟨H0 ⟨trivial,hm.one,hb.one,trivial⟩,trivial⟩ rfl hi ?_
 exact o6 (.agg #[.bool (tst (q.num < 0)),m]) rfl (fun S w hs hw hG=>⟨hw,hG.mono fun k _ hk=>hs k hk⟩)
theorem bo8 {S : Nat → Prop} {w : World} {v : Value} {q : Rat} (ht : Tab w) (hS : Up S w) (h : RatV S w v q) (hl : rl q 1000000) : Gives prog 138 [v] w fun v' w'=>v' = .bool (tst (Y4 q)) ∧ Ext w w':=by
 have h1 : zl q.num ≤ 1000000:=hl.1
 have h2 : zl (q.den : Int) ≤ 1000000:=hl.2
 have ld:=bu0 (q.den : Int) (by omega)
 rw [Int.natAbs_natCast] at ld
 refine n8 (E:=env) (S0:=S) (G:=(l6 v (q))) (l:=[.one (.ag 3 v)]) func138 rfl rfl rfl ⟨h.ok,trivial⟩ rfl h ?_
 refine B0 (fun x0=>.one (.ag 2 x0)) (fun x0=>dd7 x0 (q.num)) (fun _ _ _ h=>⟨h.ok,rfl⟩) (fun β S w hS hs hw hG=>(kx (dz3 hS hG))) ?_
 intro n
 refine B6 (.one (.int .i64 q.num.sign)) rfl (fun β S w hS hs hw hG=>(kx (cc4 hG.1))) ?_
 refine Z8 (p:=q.num.sign < 0) (fun hs=>?_) (fun hs=>?_)
 ·have hneg : q.num < 0:=Int.sign_neg_iff.1 hs
  have ln:=dn0 q.num hneg
  refine B0 (fun x0=>.one (.ag 2 x0)) (fun x0=>dd7 x0 ((-q.num))) (fun _ _ _ h=>⟨h.ok,rfl⟩) (fun β S w hS hs hw hG=>(kx (c55 hG.1))) ?_
  intro m
  refine B6 (.one (.str (Lib.itoa (-q.num)))) rfl (fun β S w hS hs hw hG=>(kx (be0 (ht.to hw) hG.1 (by rw [dr5]; omega)))) ?_
  refine S6 (p:=(40 : Int) < ((Lib.itoa (-q.num)).length : Int)) 15 (fun h4=>?_) (fun h4=>?_)
  ·exact o6 (.bool true) rfl (fun S w hs hw hG=>⟨by rw [m6 (show Y4 q from .inl (by omega))],hw⟩)
  refine B0 (fun x0=>.one (.ag 2 x0)) (fun x0=>dd7 x0 ((q.den : Int))) (fun _ _ _ h=>⟨h.ok,rfl⟩) (fun β S w hS hs hw hG=>(kx (a73 hS hG.2.2))) ?_
  intro d
  refine B6 (.one (.str (Lib.itoa (q.den : Int)))) rfl (fun β S w hS hs hw hG=>(kx (be0 (ht.to hw) hG.1 (by omega)))) ?_
  exact o6 (.bool (tst ((40 : Int) < ((Lib.itoa (q.den : Int)).length : Int)))) rfl (fun S w hs hw hG=>have h:=hG.2.2.2; ⟨by rw [show Y4 q = ((40 : Int) < ((Lib.itoa (q.den : Int)).length : Int)) from propext ⟨fun h=>by rcases h with h | h <;> omega,fun h=>.inr (by omega)⟩],hw⟩)
 have hneg : ¬ q.num < 0:=fun h=>hs (Int.sign_neg_iff.2 h)
 have ln:=bu0 q.num (by omega)
 refine B6 (.one (.str (Lib.itoa q.num))) rfl (fun β S w hS hs hw hG=>(kx (be0 (ht.to hw) hG.1 (by omega)))) ?_
 refine S6 (p:=(40 : Int) < ((Lib.itoa q.num).length : Int)) 15 (fun h4=>?_) (fun h4=>?_)
 ·exact o6 (.bool true) rfl (fun S w hs hw hG=>⟨by rw [m6 (show Y4 q from .inl (by omega))],hw⟩)
 refine B0 (fun x0=>.one (.ag 2 x0)) (fun x0=>dd7 x0 ((q.den : Int))) (fun _ _ _ h=>⟨h.ok,rfl⟩) (fun β S w hS hs hw hG=>(kx (a73 hS hG.2))) ?_
 intro d
 refine B6 (.one (.str (Lib.itoa (q.den : Int)))) rfl (fun β S w hS hs hw hG=>(kx (be0 (ht.to hw) hG.1 (by omega)))) ?_
 exact o6 (.bool (tst ((40 : Int) < ((Lib.itoa (q.den : Int)).length : Int)))) rfl (fun S w hs hw hG=>have h:=hG.2.2; ⟨by rw [show Y4 q = ((40 : Int) < ((Lib.itoa (q.den : Int)).length : Int)) from propext ⟨fun h=>by rcases h with h | h <;> omega,fun h=>.inr (by omega)⟩],hw⟩)
theorem br5 {S : Nat → Prop} {w : World} {v : Value} {q : Rat} (hS : Up S w) (h : RatV S w v q) : Gives prog 137 [v] w fun v' w'=>v' = .bool (tst (¬ q = 0)) ∧ Ext w w':=by
 refine n8 (E:=env) (S0:=S) (G:=(l6 v (q))) (l:=[.one (.ag 3 v)]) func137 rfl rfl rfl ⟨h.ok,trivial⟩ rfl h ?_
 refine B6 (.one (.tp (q = 0))) rfl (fun β S w hS hs hw hG=>(kx (F8 hS hG))) ?_
 exact o6 (.bool (tst (¬ q = 0))) rfl (fun S w hs hw hG=>⟨rfl,hw⟩)
theorem dm2 {S : Nat → Prop} {w : World} {v : Value} {q : Rat} (hS : Up S w) (h : RatV S w v q) : Gives prog 163 [v] w fun v' w'=>v' = .bool (tst (¬ q = 0)) ∧ Ext w w':=by
 refine n8 (E:=env) (S0:=S) (G:=(l6 v (q))) (l:=[.one (.ag 3 v)]) func163 rfl rfl rfl ⟨h.ok,trivial⟩ rfl h ?_
 refine B6 (.one (.tp (q = 0))) rfl (fun β S w hS hs hw hG=>(kx (F8 hS hG))) ?_
 exact o6 (.bool (tst (¬ q = 0))) rfl (fun S w hs hw hG=>⟨rfl,hw⟩)
def af4 (l : List Rat) : Prop:=¬ ∃ x ∈ l,¬ x = 0
def am6 (l : List Rat) : Prop:=∃ x ∈ l,Y4 x
theorem ax2 {S : Nat → Prop} {w : World} {v : Value} {l : List Rat} (ht : Tab w) (hS : Up S w) (h : SeqV true 3 W5 S w v l) (hl : ∀ x ∈ l,rl x 1000000) (h1 : ¬ af4 l) (h2 : ¬ am6 l) : Gives prog 95 [v] w fun v' w'=>v' = .tuple #[] ∧ Ext w w':=by
 refine n8 (E:=env) (S0:=S) (G:=(I1 v (l))) (l:=[.one (.sl v (l).length)]) func95 rfl rfl rfl ⟨h.sl,trivial⟩ rfl h ?_
 refine B6 (.one (.tp (∃ x ∈ l,¬ x = 0))) rfl (fun β S w hS hs hw hG=>(kx (aa7 137 hS hG fun _ _ _ _ _ h1 _ h3=>br5 h1 h3))) ?_
 refine ad2 (p:=¬ (∃ x ∈ l,¬ x = 0)) (h1) ?_
 refine B6 (.one (.tp (∃ x ∈ l,Y4 x))) rfl (fun β S w hS hs hw hG=>(kx (aa7 138 hS hG fun _ _ _ _ h0 h1 h2 h3=>bo8 ((ht.to hw).to h2) h1 h3 (hl _ h0)))) ?_
 refine ad2 (p:=∃ x ∈ l,Y4 x) (h2) ?_
 exact o6 (.tuple #[]) rfl (fun S w hs hw hG=>⟨rfl,hw⟩)
theorem bl1 {S : Nat → Prop} {w : World} {v : Value} {l : List Rat} (hS : Up S w) (h : SeqV true 3 W5 S w v l) (h1 : af4 l) : Pan prog 95 [v] w (I8 60):=by
 refine L8 (E:=env) (S0:=S) (G:=(I1 v (l))) (l:=[.one (.sl v (l).length)]) func95 rfl rfl rfl ⟨h.sl,trivial⟩ rfl h ?_
 refine B6 (.one (.tp (∃ x ∈ l,¬ x = 0))) rfl (fun β S w hS hs hw hG=>(kx (aa7 137 hS hG fun _ _ _ _ _ h1 _ h3=>br5 h1 h3))) ?_
 refine W0 (p:=¬ (∃ x ∈ l,¬ x = 0)) (h1) ?_
 exact s_X ⟨b9,hS,j6⟩ (by kernel_rfl) (by kernel_rfl) (fun β S w hS hs hw hG=>(kx (Q7 (ac2 (e:=60)) hw)))
theorem be6 {S : Nat → Prop} {w : World} {v : Value} {l : List Rat} (ht : Tab w) (hS : Up S w) (h : SeqV true 3 W5 S w v l) (hl : ∀ x ∈ l,rl x 1000000) (h1 : ¬ af4 l) (h2 : am6 l) : Pan prog 95 [v] w (I8 11):=by
 refine L8 (E:=env) (S0:=S) (G:=(I1 v (l))) (l:=[.one (.sl v (l).length)]) func95 rfl rfl rfl ⟨h.sl,trivial⟩ rfl h ?_
 refine B6 (.one (.tp (∃ x ∈ l,¬ x = 0))) rfl (fun β S w hS hs hw hG=>(kx (aa7 137 hS hG fun _ _ _ _ _ h1 _ h3=>br5 h1 h3))) ?_
 refine ad2 (p:=¬ (∃ x ∈ l,¬ x = 0)) (h1) ?_
 refine B6 (.one (.tp (∃ x ∈ l,Y4 x))) rfl (fun β S w hS hs hw hG=>(kx (aa7 138 hS hG fun _ _ _ _ h0 h1 h2 h3=>bo8 ((ht.to hw).to h2) h1 h3 (hl _ h0)))) ?_
 refine W0 (p:=∃ x ∈ l,Y4 x) (h2) ?_
 exact s_X ⟨b9,hS,j6⟩ (by kernel_rfl) (by kernel_rfl) (fun β S w hS hs hw hG=>(kx (Q7 (ac2 (e:=11)) hw)))
abbrev Cx.fnK (P : Program) (fn : Func) (E : Env) (w0 : World) (S0 K : Nat → Prop) (Ψ : Value → World → Prop) : Cx:=⟨P,fn.ntmps,E,w0,S0,K,ax5 P fn Ψ,0,fun _=>0⟩
def SVsOkM (m : Nat) : List SV → Prop
 | []=>True
 | s :: r=>s.Ok m ∧ SVsOkM m r
theorem SVsOkM.all {m : Nat} : ∀ {l : List SV},SVsOkM m l → ∀ s ∈ l,s.Ok m:=by
 intro l
 induction l with
 | nil=>intro _ s hs; cases hs
 | cons x r ih=>
  intro h s hs
  rcases List.mem_cons.1 hs with rfl | hs
  ·exact h.1
  exact ih h.2 s hs
theorem bi7 {base : Bs} {w : World} {l : List SV} {hp : List HE} {β : Nat → Nat} (hok : SVsOkM hp.length l) (hM : Mem base hp β w) (hb : base.m = 0) : Sat base ⟨bl3 0 l,hp⟩ β (fun i=>(l.map (SV.den β)).getD i undef) w:=
 ⟨fun d s hs=>by have h:=bp8 (β:=β) (m:=hp.length) (i:=0) (d:=d) hok.all s hs; simpa using h,hM,by rw [hb]; exact Nat.zero_le _,fun i hi=>by omega⟩
theorem b69 {P : Program} {E : Env} {S0 K : Nat → Prop} {f : FuncId} {fn : Func} {code : Code} {l : List SV} {hp : List HE} {β : Nat → Nat} {args : List Value} {w : World} {Ψ : Value → World → Prop} {G : Gh} (hf : P.funcs[f]? = some fn) (hb : fn.body = some code) (hok : bb6 fn code = true)
  (hn : Nat.ble args.length fn.ntmps = true) (hl : SVsOkM hp.length l) (ha : l.map (SV.den β) = args) (hM : Mem (Bs.of w.heap.size K) hp β w) (hG : G.p (Sof S0 β hp) w)
  (h : Run (Cx.fnK P fn E w S0 K Ψ) ⟨.code code,[],⟨bl3 0 l,hp⟩,[]⟩ G) : Gives P f args w Ψ:=by
 refine bp4 hf hb hok hn ?_
 subst ha
 exact h.run _ _ w (bi7 hl hM rfl) .refl hG
theorem dv7 [Rd] {c : Cx} {fn : Func} {Ψ : Value → World → Prop} {rs : List ResultVar} {o : Out} {G : Gh} (v : Value) (hc : c.Ok) (hQ : c.Q = ax5 c.P fn Ψ) (hrs : fn.results.toList = rs) (he : ap7 o = true) (hv : ∀ β,ap4 c.E rs o.st β = some v)
  (h : ∀ β S w,Mem c.bs o.st.hp β w → (∀ k,S k → Sof c.S0 β o.st.hp k) → Keeps c.K c.w0 w → G.p S w → Ψ v w) : Run c o G:=by
 refine ⟨fun β ρ w hS hw hG=>?_⟩
 have h1:=hv β
 unfold ap4 at h1
 cases hl : av3 c.E o.st rs with
 | none=>rw [hl] at h1; cases h1
 | some l=>
  rw [hl] at h1
  simp only [Option.map_some,Option.some.injEq] at h1
  have h2:=bf6 hc.env hS hl
  have h3:=h β _ w hS.mem (fun k hk=>hk) hw hG
  have hend : ∀ e,e = Exit.ret ∨ e = Exit.normal → ax5 c.P fn Ψ e ρ w:=by
   rintro e (rfl | rfl) <;> exact ⟨_,hrs ▸ h2,h1 ▸ h3⟩
  unfold ap7 at he
  split at he <;> first | (cases he; done) | skip
  ·rename_i e1 e2
   rw [e1,e2]
   show c.Q .ret ρ w
   rw [hQ]
   exact hend _ (.inl rfl)
  rename_i e1 e2
  rw [e1,e2]
  show c.Q .normal ρ w
  rw [hQ]
  exact hend _ (.inr rfl)
theorem ae8 [Rd] {P : Program} {fn : Func} {E : Env} {w0 : World} {S0 K : Nat → Prop} {Ψ : Value → World → Prop} {rs : List ResultVar} {o : Out} {G : Gh} (v : Value) (hc : (Cx.fnK P fn E w0 S0 K Ψ).Ok) (hv0 : (ex (Cx.fnK P fn E w0 S0 K Ψ) o).vc = []) (hrs : fn.results.toList = rs) (he : ap7 (ex (Cx.fnK P fn E w0 S0 K Ψ) o) = true) (hv : ∀ β,ap4 E rs (ex (Cx.fnK P fn E w0 S0 K Ψ) o).st β = some v)
  (h : ∀ β S w,Mem (Bs.of w0.heap.size K) (ex (Cx.fnK P fn E w0 S0 K Ψ) o).st.hp β w → (∀ k,S k → Sof S0 β (ex (Cx.fnK P fn E w0 S0 K Ψ) o).st.hp k) → Keeps K w0 w → G.p S w → Ψ v w) : Run (Cx.fnK P fn E w0 S0 K Ψ) o G:=
 aa3 hc hv0 (dv7 v hc rfl hrs he hv h)
section
variable {c : Cx} {o : Out} {G : Gh}
theorem d10 [Rd] {f : FuncId} [ci : CallI c.P f] {X : Value} (s : SV) (hc : c.Ok) (hv : (ex c o).vc = []) (hf : I4 f (ex c o) = true) (hok : s.Ok 0) (hX : s.den (fun _=>0) = X)
  (h : ∀ β S w,Up S w → Mem c.bs (ex c o).st.hp β w → (∀ k,S k → c.S0 k) → Keeps c.K c.w0 w → G.p S w → ∃ args,(B2 (ex c o)).map (SV.den β) = args ∧ Gives c.P f args w fun v w'=>v = X ∧ Ext w w')
  (hn : Run c (H5 (ex c o) s) G) : Run c o G:=by
 refine aa3 hc hv (bc0 f hc (fun _ : Unit=>s) (fun _=>True) (fun _=>.nil) hf (fun β S w h1 h1' h2 h3 h4=>?_) fun _ _=>?_)
 ·obtain ⟨args,ha,hg⟩:=h β S w h1 h1' h2 h3 h4
  refine ⟨args,ha,hg.mono fun v w' hv=>⟨hv.2,(),?_,hok.le (Nat.zero_le _),trivial,trivial⟩⟩
  rw [hv.1,← hX]
  exact SV.den_congr (m:=0) (fun i hi=>absurd hi (Nat.not_lt_zero i)) hok
 exact at8 (fun S w _ h=>h.2) hn
theorem O6 [Rd] {f : FuncId} [ci : CallI c.P f] {X : Value} (s : SV) (hX : s.den (fun _=>0) = X) (h : ∀ β S w,Up S w → Mem c.bs (ex c o).st.hp β w → (∀ k,S k → c.S0 k) → Keeps c.K c.w0 w → G.p S w → ∃ args,(B2 (ex c o)).map (SV.den β) = args ∧ Gives c.P f args w fun v w'=>v = X ∧ Ext w w') (hn : Run c (H5 (ex c o) s) G) (hc : c.Ok:=by exact ⟨b9,by assumption,j6⟩) (hv : (ex c o).vc = []:=by kernel_rfl) (hf : I4 f (ex c o) = true:=by kernel_rfl) (hok : s.Ok 0:=by exact J2 rfl) : Run c o G:=
 d10 s hc hv hf hok hX h hn
theorem d85 [Rd] {f : FuncId} [ci : CallI c.P f] (pat : Value → SV) (Δ : Value → Gh) (hc : c.Ok) (hv : (ex c o).vc = []) (hf : I4 f (ex c o) = true) (hok : ∀ a S w,(Δ a).p S w → (pat a).Ok 0 ∧ (pat a).den (fun _=>0) = a)
  (h : ∀ β S w,Up S w → Mem c.bs (ex c o).st.hp β w → (∀ k,S k → c.S0 k) → Keeps c.K c.w0 w → G.p S w → ∃ args,(B2 (ex c o)).map (SV.den β) = args ∧ Gives c.P f args w fun v w'=>Ext w w' ∧ (Δ v).p S w')
  (hn : ∀ a,Run c (H5 (ex c o) (pat a)) ((Δ a).and G)) : Run c o G:=by
 refine aa3 hc hv (bc0 f hc pat (fun _=>True) Δ hf (fun β S w h1 h1' h2 h3 h4=>?_) fun a _=>hn a)
 obtain ⟨args,ha,hg⟩:=h β S w h1 h1' h2 h3 h4
 refine ⟨args,ha,hg.mono fun v w' hv=>?_⟩
 obtain ⟨e1,e2⟩:=hok v S w' hv.2
 exact ⟨hv.1,v,by rw [SV.den_congr (m:=0) (β':=fun _=>0) (fun i hi=>absurd hi (Nat.not_lt_zero i)) e1,e2],e1.le (Nat.zero_le _),trivial,hv.2⟩
theorem d96 [Rd] {f : FuncId} [ci : CallI c.P f] (s : SV) (hc : c.Ok) (hv : (ex c o).vc = []) (hf : I4 f (ex c o) = true) (hok : s.Ok (ex c o).st.hp.length)
  (h : ∀ β S w,Up S w → Mem c.bs (ex c o).st.hp β w → (∀ k,S k → c.S0 k) → Keeps c.K c.w0 w → G.p S w → ∃ args,(B2 (ex c o)).map (SV.den β) = args ∧ Gives c.P f args w fun v w'=>v = s.den β ∧ Ext w w')
  (hn : Run c (H5 (ex c o) s) G) : Run c o G:=by
 refine aa3 hc hv (bc0 f hc (fun _ : Unit=>s) (fun _=>True) (fun _=>.nil) hf (fun β S w h1 h1' h2 h3 h4=>?_) fun _ _=>?_)
 ·obtain ⟨args,ha,hg⟩:=h β S w h1 h1' h2 h3 h4
  exact ⟨args,ha,hg.mono fun v w' hv=>⟨hv.2,(),hv.1,hok,trivial,trivial⟩⟩
 exact at8 (fun S w _ h=>h.2) hn
theorem bt8 [Rd] {f : FuncId} [ci : CallI c.P f] (hc : c.Ok) (hv : (ex c o).vc = []) (hf : I4 f (ex c o) = true)
  (h : ∀ β S w,Up S w → Mem c.bs (ex c o).st.hp β w → (∀ k,S k → c.S0 k) → Keeps c.K c.w0 w → G.p S w → ∃ args,(B2 (ex c o)).map (SV.den β) = args ∧ GivesE c.P f args w (fun _ _=>False) fun ch w'=>∀ ρ,c.Q (.panic ch) ρ w') : Run c o G:=
 aa3 hc hv (b24 (α:=Unit) f hc (fun _=>.und) (fun _=>False) (fun _=>.nil) hf (fun β S w h1 h1' h2 h3 h4=>let ⟨args,ha,hg⟩:=h β S w h1 h1' h2 h3 h4; ⟨args,ha,hg.mono (fun _ _ hf=>hf.elim) fun _ _ hp=>hp⟩) fun _ hf=>hf.elim)
theorem bu7 [Rd] {f : FuncId} {args : List Value} {w : World} {X : List PanicEntry} {R : Fr → World → Prop} {k : List Kt} (h : Pan c.P f args w X) (hq : ∀ w',Ext w w' → ∀ ρ,c.Q (.panic X) ρ w') : GivesE c.P f args w (fun _ _=>False) fun ch w'=>∀ ρ,(c.sub R k).Q (.panic ch) ρ w':=
 h.mono (fun _ _ h=>h) fun ch w' hp ρ=>by
  obtain ⟨rfl,hk⟩:=hp
  exact a13 (k:=k) (hq w' hk ρ)
def d33 (o : Out) : Option Value:=match bb5 o with
 | some (_,.nilCheck x)=>match opd o.st.fr x with
  | some (.one (.val v))=>some v
  | _=>none
 | _=>none
theorem dv3 [Rd] (a : Addr) (hq : d33 o = some (.pointer (some a))) (hc : c.Ok) (hn : Run c (W4 o (.one (.val (.pointer (some a)))) o.st.hp) G) : Run c o G:=by
 unfold d33 at hq
 split at hq <;> first | (cases hq; done) | skip
 rename_i d x hop
 split at hq <;> first | (cases hq; done) | skip
 rename_i v hx
 simp only [Option.some.injEq] at hq
 subst hq
 refine bx4 (α:=Unit) (fun _=>.one (.val (.pointer (some a)))) (fun _=>.nil) hop (fun β S w F ty hkn hM hup hS hw hG=>⟨(),w,.refl,(rfl : Value.oneCell' _ = true),trivial,?_,rfl⟩) hc fun _=>at8 (fun S w _ h=>h.2) hn
 have g1 : ev F x = .pointer (some a):=(hkn x (by simp [Op.operands]) _ hx).1
 intro d pos aft g
 simp [execOp,g1,SV.den,Ch.den]
def dq1 (E : Env) (o : Out) : Option (Value × Nat):=match bb5 o with
 | some (_,.slice T x none none none)=>match opd o.st.fr x,D1 E T with
  | some (.one (.val v)),.array n e=>(E.get e).map fun _=>(v,n)
  | _,_=>none
 | _=>none
theorem dt6 [Rd] (b n : Nat) (hq : dq1 c.E o = some (.pointer (some ⟨b,0,none⟩),n)) (hc : c.Ok) (hn : Run c (W4 o (.one (.sl (.slice (some ⟨b,0,none⟩) n n) n)) o.st.hp) G) : Run c o G:=by
 unfold dq1 at hq
 split at hq <;> first | (cases hq; done) | skip
 rename_i d T x hop
 split at hq <;> first | (cases hq; done) | skip
 rename_i v n' e hx hk
 cases hte : c.E.get e with
 | none=>rw [hte] at hq; cases hq
 | some te=>
  rw [hte] at hq
  simp only [Option.map_some,Option.some.injEq,Prod.mk.injEq] at hq
  obtain ⟨rfl,rfl⟩:=hq
  have hkd:=D8 (t:=T) hc.env
  rw [hk] at hkd
  have hkd' : c.P.underlying T = some (.array n' e):=hkd
  obtain ⟨z,hty,_⟩:=(hc.env.get hte).ty
  refine bx4 (α:=Unit) (fun _=>.one (.sl (.slice (some ⟨b,0,none⟩) n' n') n')) (fun _=>.nil) hop (fun β S w F ty hkn hM hup hS hw hG=>⟨(),w,.refl,⟨_,_,rfl,Nat.le_refl _⟩,trivial,?_,rfl⟩) hc fun _=>at8 (fun S w _ h=>h.2) hn
  have g1 : ev F x = .pointer (some ⟨b,0,none⟩):=(hkn x (by simp [Op.operands]) _ hx).1
  intro d pos aft g
  simp [execOp,g1,SV.den,Ch.den,Instr.sliceAt,Instr.slice,run_underlying hkd',Instr.sliceBounds,Instr.sliceBound,asIntOf,hty.runSize w,sliced,Instr.sureAddr,Addr.add]
theorem dq2 [Rd] (u : Value) (T : TypeId) (sz : Nat) (g : Bool) (pat : Value → SV) (Δ : Value → Gh) (hq : ldQ c.E o = some (u,T,sz,g)) (hc : c.Ok) (hok : ∀ a S w,(Δ a).p S w → (pat a).Ok 0 ∧ (pat a).den (fun _=>0) = a)
  (h : ∀ β S w,Mem c.bs o.st.hp β w → Keeps c.K c.w0 w → G.p S w → ∃ S' x,M2 g sz x ∧ At S' w u x.cells.toList ∧ (Δ x).p S w)
  (hn : ∀ a,Run c (W4 o (pat a) o.st.hp) ((Δ a).and G)) : Run c o G:=by
 unfold ldQ at hq
 split at hq <;> first | (cases hq; done) | skip
 rename_i d T' x hop
 split at hq <;> first | (cases hq; done) | skip
 rename_i p hx
 cases hte : c.E.get T' with
 | none=>rw [hte] at hq; cases hq
 | some te=>
  rw [hte] at hq
  simp only [Option.map_some,Option.some.injEq,Prod.mk.injEq] at hq
  obtain ⟨rfl,rfl,rfl,rfl⟩:=hq
  refine bx4 pat Δ hop (fun β S w F ty hkn hM hup hS hw hG=>?_) hc hn
  obtain ⟨S',a,h1,h2,h3⟩:=h β S w hM hw hG
  obtain ⟨h4,h5⟩:=hok a S w h3
  have g1 : ev F x = p:=(hkn x (by simp [Op.operands]) _ hx).1
  obtain ⟨z,hty,_⟩:=(hc.env.get hte).ty
  refine ⟨a,w,.refl,h4.le (Nat.zero_le _),h3,?_,rfl⟩
  rw [SV.den_congr (m:=0) (β':=fun _=>0) (fun i hi=>absurd hi (Nat.not_lt_zero i)) h4,h5]
  exact h2.load hty h1 g1
theorem r6 [Rd] (u : Value) (T : TypeId) (sz : Nat) (g : Bool) (pat : Value → SV) (Δ : Value → Gh) (h : ∀ β S w,Mem c.bs o.st.hp β w → Keeps c.K c.w0 w → G.p S w → ∃ S' x,M2 g sz x ∧ At S' w u x.cells.toList ∧ (Δ x).p S w) (hn : ∀ a,Run c (W4 o (pat a) o.st.hp) ((Δ a).and G)) (hq : ldQ c.E o = some (u,T,sz,g):=by kernel_rfl) (hc : c.Ok:=by exact ⟨b9,by assumption,j6⟩) (hok : ∀ a S w,(Δ a).p S w → (pat a).Ok 0 ∧ (pat a).den (fun _=>0) = a:=by exact fun _ _ _ h=>⟨h.ok,rfl⟩) : Run c o G:=
 dq2 u T sz g pat Δ hq hc hok h hn
end
theorem cz6 {S : Nat → Prop} {T : TypeId} {s n : Nat} {w : World} {v : Value} {cs : List Value} (h : Own 0 T s w v n cs) (hS : ∀ g,v.ownBlock = some g → S g) : Row S T s w v n cs:=by
 refine ⟨h.1,?_⟩
 rcases h.2 with h3 | ⟨g,cap,cur,hv,hg,hh,hn2,hm,hcc,ht⟩
 ·exact .inl h3
 exact .inr ⟨g,0,cap,cur,(0,0),hv,hn2,hm,hS g (by rw [hv]; rfl),hh,by omega,by simpa using ht⟩
theorem a01 {base : Bs} {hp : List HE} {β : Nat → Nat} {w : World} {b : Nat} {T : TypeId} {s n : Nat} {v : Value} {cs : List Value} (hb : nth hp b = some (.row T s v n cs)) (hM : Mem base hp β w) : Own 0 T s w v n cs:=by
 rw [M5] at hb
 exact hM.row b T s v n cs hb
theorem ae1 {β : Nat → Nat} {n : Nat} {x : Value} : d6 β [.ag n x] = x.cells.toList:=by simp [d6,Ch.cells]
theorem dj5 {w : World} {T : TypeId} {s n : Nat} {v : Value} {cs : List Value} {β : Nat → Nat} (h : Own 0 T s w v n cs) : Mem (Bs.of w.heap.size fun k=>some k ≠ v.ownBlock) [.row T s v n cs] β w:=by
 have one : ∀ {i : Nat} {x : HE},[HE.row T s v n cs][i]? = some x → i = 0 ∧ x = .row T s v n cs:=by
  intro i x hi
  cases i with
  | zero=>simp at hi; exact ⟨rfl,hi.symm⟩
  | succ i=>simp at hi
 have mine : ∀ {i k : Nat},m9 β [.row T s v n cs] i k → i = 0 ∧ v.ownBlock = some k:=by
  rintro i k ⟨x,hi,hk⟩
  obtain ⟨rfl,rfl⟩:=one hi
  exact ⟨rfl,hk⟩
 refine ⟨fun i T' l hi=>?_,fun i T' s' v' n' cs' hi=>?_,fun i A hi=>?_,fun i k hk=>?_,fun i j k hi hj=>?_⟩
 ·cases (one hi).2
 ·cases (one hi).2; exact h
 ·cases (one hi).2
 ·obtain ⟨_,hk⟩:=mine hk
  exact ⟨.inr fun e=>e hk.symm,(h.lt k hk).2⟩
 rw [(mine hi).1,(mine hj).1]
theorem di9 {S : Nat → Prop} {T : TypeId} {s n : Nat} {v : Value} {cs : List Value} {β : Nat → Nat} (hS : ∀ k,S k → some k ≠ v.ownBlock) : ∀ k,S k → Sof (fun k=>S k ∨ some k = v.ownBlock) β [.row T s v n cs] k:=by
 intro k hk
 refine ⟨.inl hk,?_⟩
 rintro i ⟨x,hi,hx⟩
 cases i with
 | zero=>
  simp at hi
  subst hi
  exact hS k hk (Eq.symm hx)
 | succ i=>simp at hi
theorem G6 {S : Nat → Prop} {v : Value} : ∀ k,¬ (some k ≠ v.ownBlock) → S k ∨ some k = v.ownBlock:=fun _ h=>.inr (Classical.byContradiction h)
theorem x9 {S : Nat → Prop} {v : Value} {w : World} (h : Up S w) : Up (fun k=>S k ∨ some k = v.ownBlock) w:=fun k hk=>.inl (h k hk)
theorem cn8 {T : TypeId} {s n b : Nat} {w : World} {cs : List Value} (h : Own 0 T s w (.slice (some ⟨b,0,none⟩) n n) n cs) : Blk w b T cs:=by
 rcases h.2 with ⟨h1,_⟩ | ⟨g,cap,cur,h1,_,h2,_,_,h3,h4⟩
 ·cases h1
 simp only [Value.slice.injEq,Option.some.injEq,Addr.mk.injEq] at h1
 obtain ⟨⟨rfl,_,_⟩,_,rfl⟩:=h1
 have e : cs = cur.toList:=by rw [← h4]; exact List.take_of_length_le (by simpa using Nat.le_of_eq h3)
 unfold Blk
 rw [h2,e]
theorem df2 {S : Nat → Prop} {T : TypeId} {s n : Nat} {v : Value} {cs : List Value} {β : Nat → Nat} {hp : List HE} {k : Nat} (i : Nat) (hb : nth hp i = some (.row T s v n cs)) (h : Sof (fun k=>S k ∨ some k = v.ownBlock) β hp k) : S k:=by
 rcases h.1 with h1 | h1
 ·exact h1
 rw [M5] at hb
 exact absurd ⟨_,hb,h1.symm⟩ (h.2 i)
structure ElsV {α : Type} (g : Bool) (s : Nat) (F : Value → α → Gh) (S : Nat → Prop) (w : World) (vs : List Value) (l : List α) : Prop where
 len : vs.length = l.length
 lies : ∀ x ∈ vs,M2 g s x
 el : ∀ (i : Nat) a x,l[i]? = some a → vs[i]? = some x → (F x a).p S w
abbrev bm2 {α : Type} (g : Bool) (s : Nat) (F : Value → α → Gh) (vs : List Value) (l : List α) : Gh:=
 ⟨fun S w=>ElsV g s F S w vs l,fun h k=>⟨h.len,h.lies,fun i a x h1 h2=>(F x a).keep (h.el i a x h1 h2) k⟩,fun h k=>⟨h.len,h.lies,fun i a x h1 h2=>(F x a).mono (h.el i a x h1 h2) k⟩⟩
def A3 (vs : List Value) : List Value:=vs.flatMap fun x=>x.cells.toList
section
variable {α : Type} {g : Bool} {s : Nat} {F : Value → α → Gh} {S : Nat → Prop} {w : World} {vs : List Value} {l : List α}
theorem R2 (h : ∀ x ∈ vs,M2 g s x) : (A3 vs).length = vs.length * s:=by
 induction vs with
 | nil=>simp [A3]
 | cons x r ih=>
  have h1:=(h x (List.mem_cons_self ..)).1
  have h2:=ih fun y hy=>h y (List.mem_cons_of_mem _ hy)
  unfold A3 at h2 ⊢
  rw [List.flatMap_cons,List.length_append,h1,h2,List.length_cons,Nat.add_mul,Nat.one_mul,Nat.add_comm]
theorem cz4 (h : ∀ x ∈ vs,M2 g s x) : ∀ {i : Nat} {y : Value},i < vs.length → (A3 vs).take (i * s) ++ y.cells.toList ++ (A3 vs).drop (i * s + s) = A3 (vs.set i y):=by
 induction vs with
 | nil=>intro i y hi; simp at hi
 | cons x r ih=>
  intro i y hi
  have h1:=(h x (List.mem_cons_self ..)).1
  have ih2 : ∀ {i : Nat} {y : Value},i < r.length → (A3 r).take (i * s) ++ y.cells.toList ++ (A3 r).drop (i * s + s) = A3 (r.set i y):=ih fun y hy=>h y (List.mem_cons_of_mem _ hy)
  unfold A3 at ih2 ⊢
  rw [List.flatMap_cons]
  cases i with
  | zero=>
   rw [Nat.zero_mul,Nat.zero_add,List.take_zero,List.nil_append,List.drop_left' h1,List.set_cons_zero,List.flatMap_cons]
  | succ i=>
   rw [Nat.add_mul,Nat.one_mul,List.set_cons_succ,List.flatMap_cons,← ih2 (i:=i) (y:=y) (by simpa using hi)]
   generalize r.flatMap (fun x=>x.cells.toList) = C
   have e1 : (x.cells.toList ++ C).take (i * s + s) = x.cells.toList ++ C.take (i * s):=by
    rw [show i * s + s = x.cells.toList.length + i * s by omega,List.take_length_add_append]
   have e2 : (x.cells.toList ++ C).drop (i * s + s + s) = C.drop (i * s + s):=by
    rw [show i * s + s + s = x.cells.toList.length + (i * s + s) by omega,List.drop_length_add_append]
   rw [e1,e2]
   simp only [List.append_assoc]
theorem ElsV.set (h : ElsV g s F S w vs l) {i : Nat} {y : Value} {a : α} (hy : M2 g s y) (hF : (F y a).p S w) : ElsV g s F S w (vs.set i y) (l.set i a):=by
 refine ⟨by simp [h.len],fun x hx=>?_,fun j b x h1 h2=>?_⟩
 ·rcases List.mem_or_eq_of_mem_set hx with hx | rfl
  ·exact h.lies x hx
  exact hy
 by_cases e : i = j
 ·subst e
  have hi:=(List.getElem?_eq_some_iff.1 h1).1
  rw [List.length_set] at hi
  rw [List.getElem?_set_self hi] at h1
  rw [List.getElem?_set_self (by rw [h.len]; exact hi)] at h2
  cases h1
  cases h2
  exact hF
 rw [List.getElem?_set_ne e] at h1 h2
 exact h.el j b x h1 h2
theorem ElsV.own {T : TypeId} {v : Value} {n i : Nat} {a : α} (h : ElsV g s F S w vs l) (hown : Own 0 T s w v n (A3 vs)) (hn : n = l.length) (ha : l[i]? = some a) :
  ∃ S' x,M2 g s x ∧ At S' w (.pointer (some (adr v (i * s)))) x.cells.toList ∧ (F x a).p S w:=by
 subst hn
 have hi:=(List.getElem?_eq_some_iff.1 ha).1
 have hx : vs[i]? = some (vs[i]'(by rw [h.len]; exact hi)):=List.getElem?_eq_getElem _
 obtain ⟨S',hr⟩:=bd3 hown
 have h1:=At.of_row hr hi
 have h2:=am4 h.lies hx
 unfold A3 at h1
 rw [h2] at h1
 exact ⟨S',_,h.lies _ (List.getElem_mem _),h1,h.el i a _ ha hx⟩
theorem ElsV.seq {T : TypeId} {v : Value} {n : Nat} (h : ElsV g s F S w vs l) (hown : Own 0 T s w v n (A3 vs)) (hn : n = l.length) : SeqV g s F (fun k=>S k ∨ some k = v.ownBlock) w v l:=by
 subst hn
 exact ⟨T,vs,h.len,h.lies,cz6 hown fun k hk=>.inr hk.symm,fun i a x ha hx=>(F x a).mono (h.el i a x ha hx) fun k _ hk=>.inl hk⟩
end
abbrev bm8 (x : Rat) : Prop:=¬ x = 0
noncomputable def O3 (l : List Rat) : Rat:=l.getD (U1 bm8 l 0).toNat 0
noncomputable def a90 (l : List Rat) : List Rat:=l.map (· / O3 l)
noncomputable def ai7 (l : List Rat) (b : Rat) (j : Nat) : List Rat:=(l.map (· / b)).take j ++ l.drop j
theorem cb6 (l : List Rat) (b : Rat) : ai7 l b 0 = l:=by simp [ai7]
theorem cv6 (l : List Rat) (b : Rat) : ai7 l b l.length = l.map (· / b):=by unfold ai7; rw [List.take_of_length_le (by simp),List.drop_length,List.append_nil]
theorem bp1 {l : List Rat} {b : Rat} {j : Nat} : (ai7 l b j).length = l.length:=by unfold ai7; simp; omega
theorem ct9 {l : List Rat} {b : Rat} {j : Nat} (h : j < l.length) : (ai7 l b j)[j]? = some (l.getD j 0):=by
 unfold ai7
 rw [List.getElem?_append_right (by simp; omega),List.length_take,List.length_map,Nat.min_eq_left (by omega),Nat.sub_self,List.getElem?_drop,Nat.add_zero,List.getD_eq_getElem?_getD,List.getElem?_eq_getElem h]
 rfl
theorem cb2 {l : List Rat} {b : Rat} {j : Nat} (h : j < l.length) : ai7 l b (j + 1) = (ai7 l b j).set j (l.getD j 0 / b):=by
 unfold ai7
 have e1 : (l.map (· / b)).take (j + 1) = (l.map (· / b)).take j ++ [l.getD j 0 / b]:=by
  rw [List.take_add_one,List.getElem?_map,List.getElem?_eq_getElem h,List.getD_eq_getElem?_getD,List.getElem?_eq_getElem h]
  rfl
 have e2 : l.drop j = l.getD j 0 :: l.drop (j + 1):=by
  rw [List.drop_eq_getElem_cons h,List.getD_eq_getElem?_getD,List.getElem?_eq_getElem h]
  rfl
 rw [e1,e2,List.set_append_right _ _ (by simp; omega),List.length_take,List.length_map,Nat.min_eq_left (by omega),Nat.sub_self,List.set_cons_zero]
 simp
theorem be5 {p : Rat → Prop} : ∀ {l : List Rat} {k : Nat},0 ≤ U1 p l k → ∃ j,U1 p l k = ((k + j : Nat) : Int) ∧ j < l.length ∧ p (l.getD j 0):=by
 intro l
 induction l with
 | nil=>intro k h; unfold U1 at h; omega
 | cons x r ih=>
  intro k h
  unfold U1 at h ⊢
  by_cases hx : p x
  ·rw [if_pos hx]; exact ⟨0,by simp,by simp,hx⟩
  rw [if_neg hx] at h ⊢
  obtain ⟨j,h1,h2,h3⟩:=ih h
  exact ⟨j + 1,by rw [h1]; congr 1; omega,by simpa using h2,by simpa using h3⟩
theorem bq0 {S : Nat → Prop} {w : World} {v : Value} {T : TypeId} {vs : List Value} {l : List Rat} (hS : Up S w) (hown : Own 0 T 3 w v l.length (A3 vs)) (hv : ElsV true 3 W5 S w vs l) (hd : ∀ k,S k → some k ≠ v.ownBlock)
  (hl : ∀ x ∈ l,rl x 400000000000) (hf : ∀ x ∈ l,R0 (x / O3 l)) (hne : 0 ≤ U1 bm8 l 0) :
  Gives prog 131 [v] w fun r w'=>r = .tuple #[] ∧ Keeps (fun k=>some k ≠ v.ownBlock) w w' ∧ ∃ vs',Own 0 T 3 w' v l.length (A3 vs') ∧ ElsV true 3 W5 S w' vs' (a90 l):=by
 have hmx:=hv.len
 have hmx2 : l.length ≤ maxLen:=by obtain ⟨S',hr⟩:=bd3 hown; exact hr.len_le
 unfold maxLen at hmx2
 obtain ⟨p,hp,hpl,hp0⟩:=be5 hne
 rw [Nat.zero_add] at hp
 have hlead : O3 l = l.getD p 0:=by unfold O3; rw [hp]; rfl
 have hp1 : l[p]? = some (O3 l):=by rw [hlead,List.getD_eq_getElem?_getD,List.getElem?_eq_getElem hpl]; rfl
 have hmem : ∀ {j},j < l.length → l.getD j 0 ∈ l:=fun {j} hj=>by rw [List.getD_eq_getElem?_getD,List.getElem?_eq_getElem hj]; exact List.getElem_mem _
 have hnum : (O3 l).num ≠ 0:=fun h=>hp0 (by rw [← hlead]; exact Rat.num_eq_zero.1 h)
 refine b69 (E:=env) (S0:=fun k=>S k ∨ some k = (v).ownBlock) (K:=fun k=>some k ≠ (v).ownBlock) (G:=(bm2 true 3 W5 vs l)) (l:=[.one (.sl v l.length)]) (hp:=[.row T 3 v l.length (A3 vs)]) (β:=fun _=>0) func131 rfl rfl rfl ⟨bn6 hown,trivial⟩ rfl (dj5 hown) (Gh.mono (bm2 true 3 W5 vs l) (S:=S) hv (fun k _ hk=>di9 hd k hk)) ?_
 refine d10 (.one (.int .i64 (U1 bm8 l 0))) ⟨b9,x9 hS,G6⟩ (by kernel_rfl) (by kernel_rfl) (J2 rfl) rfl (fun β S w hS hM hs hw hG=>(kx (b26 163 (x9 hS) (hG.seq (a01 (T:=T) (b:=0) (s:=3) (n:=l.length) (v:=v) (cs:=A3 vs) (by kernel_rfl) hM) rfl) (fun _ _ _ _ _ h1 _ h3=>dm2 h1 h3)))) ?_
 refine d56 (p:=U1 bm8 l 0 < 0) ⟨b9,x9 hS,G6⟩ (by kernel_rfl) (by kernel_rfl) (by kernel_rfl) (by omega) ?_
 refine I0 ⟨b9,x9 hS,G6⟩ (c25 v l.length (U1 bm8 l 0) 41 3 (by kernel_rfl) ⟨b9,x9 hS,G6⟩ (by omega) (by omega) (fun β S w hM hw hG=>let ⟨S',h⟩:=b98 0 T 3 l.length v (A3 vs) (by kernel_rfl) hM; ⟨S',_,_,h⟩) ?_)
 refine I0 ⟨b9,x9 hS,G6⟩ (dq2 (.pointer (some (adr v ((U1 bm8 l 0).toNat * 3)))) 41 3 true (fun x0=>.one (.ag 3 x0)) (fun x0=>l6 x0 ((O3 l))) (by kernel_rfl) ⟨b9,x9 hS,G6⟩ (fun _ _ _ h=>⟨h.ok,rfl⟩) (fun β S w hM hw hG=>by rw [hp]; exact hG.own (a01 (T:=T) (b:=0) (s:=3) (n:=l.length) (v:=v) (cs:=A3 vs) (by kernel_rfl) hM) rfl hp1) ?_)
 intro by0
 refine ad5 (ι:=Nat × List Value) [(4,4),(15,30)] (fun i=>[(15,.one (.int .i64 (i.1 : Int)))]) (fun i=>[(0,.row T 3 v l.length (A3 i.2))]) (fun i=>((bm2 true 3 W5 i.2 (ai7 l (O3 l) i.1)).and ((l6 by0 ((O3 l))).and (bm2 true 3 W5 vs l)))) (fun i=>i.1 ≤ l.length) (fun i=>l.length - i.1) ((0,vs)) ⟨b9,x9 hS,G6⟩ (by kernel_rfl) (by kernel_rfl) (fun β=>(by kernel_rfl)) (fun β=>(by kernel_rfl)) (by kernel_rfl) (Nat.zero_le _) (fun S w hw hG=>⟨a44 ⟨trivial,trivial⟩,as6 ⟨trivial,trivial⟩⟩) (fun S w hw hG=>have hv:=hG.2; ⟨(by rw [cb6]; exact hv),hG⟩) (fun hso i hi=>?_)
 refine d53 (p:=(i.1 : Int) < (l.length : Int)) ⟨b9,x9 hS,G6⟩ (by kernel_rfl) (by kernel_rfl) (by kernel_rfl) (fun hlt=>?_) (fun hlt=>?_)
 ·have hlt' : i.1 < l.length:=by omega
  have hg0:=ct9 (b:=O3 l) hlt'
  refine G7 11 ⟨b9,x9 hS,G6⟩ ?_
  refine b7 4 ?_
  refine dz6 (fun η=>v) l.length (i.1 : Int) 41 3 (fun u0=>Q5 (u0 = .pointer (some (adr v (Int.toNat (i.1 : Int) * 3))))) (fun η=>(by kernel_rfl)) (fun η=>(by kernel_rfl)) ⟨b9,x9 hS,G6⟩ (fun β η S w hM hw hG hd=>⟨by omega,by omega,(let ⟨S',h⟩:=b98 0 T 3 l.length v (A3 i.2) (by kernel_rfl) hM; ⟨S',_,_,h⟩),rfl⟩) ?_
  refine S8 (fun η=>η 4) 41 3 true (fun x0=>.one (.ag 3 x0)) (fun x0=>l6 x0 ((l.getD i.1 0))) ⟨b9,x9 hS,G6⟩ (fun β η S w hM hw hG hd=>by have e:=(p6 hd 4 : (Q5 ((η 4) = .pointer (some (adr v (Int.toNat (i.1 : Int) * 3))))).p S w); simp only at e; rw [e]; exact hG.1.own (a01 (T:=T) (b:=0) (s:=3) (n:=l.length) (v:=v) (cs:=A3 i.2) (by kernel_rfl) hM) bp1.symm hg0) ?_
  refine b7 1 ?_
  refine h_1 (fun x0=>pr (.ag 3 (A8 x0)) (.lit .i64 0)) (fun x0=>ac3 x0 ((l.getD i.1 0 / O3 l)) 0) (fun η=>(by kernel_rfl)) (fun _ _ _ h=>X5 h) (fun β η S w hS hs hw hG hd=>(kx (av1 (hf _ (hmem hlt')) (ao5 hS (p6 hd 5 : (l6 (η 5) ((l.getD i.1 0))).p S w) hG.2.1 (hl _ (hmem hlt')) (hl _ (List.mem_of_getElem? hp1)) hnum)))) ?_
  refine b7 2 ?_
  refine o9 (fun x0=>.one (.ag 3 x0)) (fun x0=>l6 x0 ((l.getD i.1 0 / O3 l))) (fun β η S w hS hs hw hG hd=>(kx (Z6 hS ((p6 hd 7 : (ac3 (η 7) ((l.getD i.1 0 / O3 l)) 0).p S w)).2))) ?_
  refine cj2 (fun η=>((l6 (η 10) ((l.getD i.1 0 / O3 l))).and ((ac3 (η 7) ((l.getD i.1 0 / O3 l)) 0).and ((l6 (η 5) ((l.getD i.1 0))).and ((Q5 ((η 4) = .pointer (some (adr v (Int.toNat (i.1 : Int) * 3))))).and ((bm2 true 3 W5 i.2 (ai7 l (O3 l) i.1)).and ((l6 by0 ((O3 l))).and (bm2 true 3 W5 vs l)))))))) (by kernel_rfl) (fun η=>(by kernel_rfl)) ?_
  intro η_1
  refine I0 ⟨b9,x9 hS,G6⟩ (c25 v l.length (i.1 : Int) 41 3 (by kernel_rfl) ⟨b9,x9 hS,G6⟩ (by omega) (by omega) (fun β S w hM hw hG=>let ⟨S',h⟩:=b98 0 T 3 l.length v (A3 i.2) (by kernel_rfl) hM; ⟨S',_,_,h⟩) ?_)
  refine I0 ⟨b9,x9 hS,G6⟩ (d79 (T:=T) (s:=3) (n:=l.length) (cs:=A3 i.2) 0 ((i.1 : Int).toNat * 3) v 3 [.ag 3 (η_1 10)] (A3 (i.2.set i.1 (η_1 10))) (by kernel_rfl) (by kernel_rfl) ⟨b9,x9 hS,G6⟩ (by decide) (by omega) (fun β S w hw hG=>by rw [Int.toNat_natCast,ae1]; exact cz4 hG.2.2.2.2.1.lies (by rw [hG.2.2.2.2.1.len,bp1]; exact hlt'))  ?_)
  refine d47 (ps:=[InR .i64 ((i.1 : Int) + 1)]) ⟨b9,x9 hS,G6⟩ (by kernel_rfl) (by simp only [K7,InR,and_true]; omega) ?_
  exact Y0 ((i.1 + 1,i.2.set i.1 (η_1 10))) ⟨b9,x9 hS,G6⟩ hso (by kernel_rfl) (by kernel_rfl) (fun β=>(by kernel_rfl)) (fun β=>(by kernel_rfl)) (by kernel_rfl) (by omega) (by simp only; omega) (fun S w hw hG=>⟨a44 ⟨trivial,trivial⟩,as6 ⟨trivial,trivial⟩⟩) (fun S w hw hG=>⟨(by rw [cb2 hlt']; exact hG.2.2.2.2.1.set hG.1.lies hG.1),hG.2.2.2.2.2⟩)
 refine dq3 ⟨b9,x9 hS,G6⟩ (by kernel_rfl) (by kernel_rfl) ?_
 exact ae8 (.tuple #[]) ⟨b9,x9 hS,G6⟩ (by kernel_rfl) rfl (by kernel_rfl) (fun β=>(by kernel_rfl)) (fun β S w hM hs hw hG=>have ho:=hG.1; ⟨rfl,hw,i.2,a01 (T:=T) (b:=0) (s:=3) (n:=l.length) (v:=v) (cs:=A3 i.2) (by kernel_rfl) hM,by have e : i.1 = l.length:=(by omega); rw [e,cv6] at ho; exact ⟨ho.len,ho.lies,fun j a x h1 h2=>(ho.el j a x h1 h2).mono fun k _ hk=>df2 (T:=T) (s:=3) (n:=l.length) (cs:=A3 i.2) 0 (by kernel_rfl) (hs k hk)⟩⟩)
namespace T3
def list (t : T3) : List Rat:=[t.x,t.y,t.z]
theorem lead_list (t : T3) : O3 t.list = t.lead:=by
 unfold O3 lead list U1 U1 U1 U1 bm8
 by_cases h1 : t.x = 0
 ·by_cases h2 : t.y = 0
  ·by_cases h3 : t.z = 0
   ·simp [h1,h2,h3]
   simp [h1,h2,h3]
  simp [h1,h2]
 simp [h1]
theorem normal_list (t : T3) : a90 t.list = t.normal.list:=by
 unfold a90
 rw [lead_list]
 rfl
theorem fpos_list {t : T3} (h : ¬ t.None) : 0 ≤ U1 bm8 t.list 0:=by
 refine a74.1 ?_
 unfold None at h
 by_cases h1 : t.x = 0
 ·by_cases h2 : t.y = 0
  ·exact ⟨t.z,by simp [list],fun h3=>h ⟨h1,h2,h3⟩⟩
  exact ⟨t.y,by simp [list],h2⟩
 exact ⟨t.x,by simp [list],h1⟩
end T3
theorem aj4 {a b c : Value} (ha : M2 true 3 a) (hb : M2 true 3 b) (hc : M2 true 3 c) : (aw8 a b c).cells.toList = A3 [a,b,c]:=by
 simp [aw8,SV.den,d6,Ch.cells,Value.cells,A3]
theorem TripV.els {S : Nat → Prop} {w : World} {v : Value} {t : T3} (h : TripV S w v t) : ∃ vs,v.cells.toList = A3 vs ∧ ElsV true 3 W5 S w vs t.list:=by
 obtain ⟨a,b,c,rfl,h1,h2,h3⟩:=h
 refine ⟨[a,b,c],aj4 h1.lies h2.lies h3.lies,rfl,fun x hx=>?_,fun i q x hq hx=>?_⟩
 ·simp only [List.mem_cons,List.not_mem_nil,or_false] at hx
  rcases hx with rfl | rfl | rfl
  ·exact h1.lies
  ·exact h2.lies
  exact h3.lies
 match i with
 | 0=>simp [T3.list] at hq hx; subst hq hx; exact h1
 | 1=>simp [T3.list] at hq hx; subst hq hx; exact h2
 | 2=>simp [T3.list] at hq hx; subst hq hx; exact h3
 | i + 3=>simp [T3.list] at hq
theorem TripV.of_els {S : Nat → Prop} {w : World} {vs : List Value} {t : T3} (h : ElsV true 3 W5 S w vs t.list) : ∃ v,TripV S w v t ∧ v.cells.toList = A3 vs:=by
 obtain ⟨h1,h2,h3⟩:=h
 match vs,h1 with
 | [a,b,c],_=>exact ⟨aw8 a b c,⟨a,b,c,rfl,h3 0 _ _ rfl rfl,h3 1 _ _ rfl rfl,h3 2 _ _ rfl rfl⟩,aj4 (h2 a (by simp)) (h2 b (by simp)) (h2 c (by simp))⟩
theorem ds0 {S : Nat → Prop} {w : World} {b : Nat} (hS : Up S w) : Gives prog 97 [.pointer (some ⟨b,0,none⟩)] w fun v w'=>v = .slice (some ⟨b,0,none⟩) 3 3 ∧ Ext w w':=by
 refine n8 (E:=env) (S0:=S) (G:=Gh.nil) (l:=[.one (.val (.pointer (some ⟨b,0,none⟩)))]) func97 rfl rfl rfl ⟨rfl,trivial⟩ rfl trivial ?_
 refine o5 (dv3 ⟨b,0,none⟩ (by kernel_rfl) ⟨b9,hS,j6⟩  ?_)
 refine o5 (dt6 b 3 (by kernel_rfl) ⟨b9,hS,j6⟩  ?_)
 exact o6 (.slice (some ⟨b,0,none⟩) 3 3) rfl (fun S w hs hw hG=>⟨rfl,hw⟩)
theorem ch9 {S : Nat → Prop} {w : World} {v : Value} {t : T3} {β : Nat → Nat} {m : Nat} (hS : Up S w) (h : TripV S w v t) (hB : Blk w (β 0) 43 (d6 β [.ag 9 v])) (hb : ¬ S (β 0)) (hn : ¬ t.None) (hl : tl t 400000000000) (hf : R0 t.normal.x ∧ R0 t.normal.y ∧ R0 t.normal.z) :
  Gives prog 131 [.slice (some ⟨β 0,0,none⟩) 3 3] w fun r w'=>Wrt (β 0) w w' ∧ ∃ x,r = SV.und.den β ∧ SV.und.Ok m ∧ True ∧ Blk w' (β 0) 43 (d6 β [.ag 9 x]) ∧ (∀ ch ∈ [Ch.ag 9 x],ch.Ok m) ∧ (o8 x t.normal).p S w':=by
 obtain ⟨vs,e1,e2⟩:=h.els
 rw [ae1,e1] at hB
 have ho : Own 0 43 3 w (.slice (some ⟨β 0,0,none⟩) 3 3) 3 (A3 vs):=ak2 hB (Nat.zero_le _) (by decide) (by rw [R2 e2.lies,e2.len]; rfl)
 have he : O3 t.list = t.lead:=T3.lead_list t
 refine (bq0 (T:=43) hS ho e2 (fun k hk e=>hb (by cases e; exact hk)) (fun x hx=>?_) (fun x hx=>?_) (T3.fpos_list hn)).mono ?_
 ·simp only [T3.list,List.mem_cons,List.not_mem_nil,or_false] at hx
  rcases hx with rfl | rfl | rfl
  ·exact hl.1
  ·exact hl.2.1
  exact hl.2.2
 ·rw [he]
  simp only [T3.list,List.mem_cons,List.not_mem_nil,or_false] at hx
  rcases hx with rfl | rfl | rfl
  ·exact hf.1
  ·exact hf.2.1
  exact hf.2.2
 rintro r w' ⟨rfl,k,vs',h1,h2⟩
 rw [T3.normal_list] at h2
 obtain ⟨x',h3,h4⟩:=TripV.of_els h2
 exact ⟨k.mono fun i hi e=>hi (by cases e; rfl),x',rfl,trivial,trivial,by rw [ae1,h4]; exact cn8 h1,fun c hc=>by rw [List.mem_singleton.1 hc]; exact Ch.Ok.up (c:=.ag 9 x') h3.ok,h3⟩
theorem dc9 {S : Nat → Prop} {w : World} {v : Value} {t : T3} (hS : Up S w) (h : TripV S w v t) (hnn : ¬ t.None) (hl : tl t 400000000000) (hf : R0 t.normal.x ∧ R0 t.normal.y ∧ R0 t.normal.z) :
  Gives prog 96 [v,.func (.func 97) #[] #[]] w fun v' w'=>Ext w w' ∧ TripV S w' v' t.normal:=by
 refine n8 (E:=env) (S0:=S) (G:=(o8 v (t))) (l:=[.one (.ag 9 v),.one (.fn 97 [])]) func96 rfl rfl rfl ⟨h.ok,(fun _ h=>by cases h),trivial⟩ rfl h ?_
 refine d96 (.one (.win 0 0 3 3)) ⟨b9,hS,j6⟩ (by kernel_rfl) (by kernel_rfl) (Nat.le_of_ble_eq_true (by kernel_rfl)) (fun β S w hS hM hs hw hG=>(kx (ds0 hS))) ?_
 refine o5 (ci6 131 0 43 ([.ag 9 v]) ⟨b9,hS,j6⟩ (by kernel_rfl) (fun _=>.und) (fun x0=>[.ag 9 x0]) (fun _=>True) (fun x0=>o8 x0 (t.normal)) (by kernel_rfl) (fun β S w hS hs hw hG hB hn=>(kx (ch9 hS hG hB hn hnn hl hf))) ?_)
 intro x _
 exact o6 (x) rfl (fun S w hs hw hG=>⟨hw,hG.1.mono fun k _ hk=>hs k hk⟩)
theorem ar7 {S : Nat → Prop} {w : World} {v : Value} {t : T3} (hS : Up S w) (h : TripV S w v t) (hnn : ¬ t.None) (hl : tl t 400000000000) (hf : R0 t.normal.x ∧ R0 t.normal.y ∧ R0 t.normal.z) :
  Gives prog 41 [v] w fun v' w'=>Ext w w' ∧ TripV S w' v' t.normal:=by
 refine n8 (E:=env) (S0:=S) (G:=(o8 v (t))) (l:=[.one (.ag 9 v)]) func41 rfl rfl rfl ⟨h.ok,trivial⟩ rfl h ?_
 refine B0 (fun x0=>.one (.ag 9 x0)) (fun x0=>o8 x0 (t.normal)) (fun _ _ _ h=>⟨h.ok,rfl⟩) (fun β S w hS hs hw hG=>(kx (dc9 hS hG hnn hl hf))) ?_
 intro x
 exact o6 (x) rfl (fun S w hs hw hG=>⟨hw,hG.1.mono fun k _ hk=>hs k hk⟩)
theorem bd5 {t : T3} {n : Nat} (h : tl t n) (hn : n ≤ 3344) : R0 t.x ∧ R0 t.y ∧ R0 t.z:=⟨Q1 h.1 hn,Q1 h.2.1 hn,Q1 h.2.2 hn⟩
theorem cv9 {S : Nat → Prop} {w : World} {vp vq : Value} {p q : T3} {m n k : Nat} (hS : Up S w) (hp : TripV S w vp p) (hq : TripV S w vq q) (hm : tl p m) (hn : tl q n) (hmn : 2 * (m + n + 1) + 1 ≤ 3344) (hk : tl (p.cross q).normal k) (hk2 : k ≤ 3344) (hs0 : ¬ T3.Same p q) :
  Gives prog 50 [vp,vq] w fun v' w'=>Ext w w' ∧ TripV S w' v' (p.cross q).normal:=by
 refine n8 (E:=env) (S0:=S) (G:=((o8 vp (p)).and (o8 vq (q)))) (l:=[.one (.ag 9 vp),.one (.ag 9 vq)]) func50 rfl rfl rfl ⟨hp.ok,hq.ok,trivial⟩ rfl ⟨hp,hq⟩ ?_
 refine B0 (fun x0=>.one (.ag 9 x0)) (fun x0=>o8 x0 ((p.cross q))) (fun _ _ _ h=>⟨h.ok,rfl⟩) (fun β S w hS hs hw hG=>(kx (S2 hS hG.1 hG.2 hm hn hmn))) ?_
 intro c
 refine B6 (.one (.tp (p.cross q).None)) rfl (fun β S w hS hs hw hG=>(kx (a43 hS hG.1))) ?_
 refine ad2 (p:=(p.cross q).None) (hs0) ?_
 refine B0 (fun x0=>.one (.ag 9 x0)) (fun x0=>o8 x0 ((p.cross q).normal)) (fun _ _ _ h=>⟨h.ok,rfl⟩) (fun β S w hS hs hw hG=>(kx (ar7 hS hG.1 hs0 (F3 (r5 hm hn)) (bd5 hk hk2)))) ?_
 intro r
 exact o6 (r) rfl (fun S w hs hw hG=>⟨hw,hG.1.mono fun k _ hk=>hs k hk⟩)
theorem ct8 {S : Nat → Prop} {w : World} {vp vq : Value} {p q : T3} {m n : Nat} (hS : Up S w) (hp : TripV S w vp p) (hq : TripV S w vq q) (hm : tl p m) (hn : tl q n) (hmn : 2 * (m + n + 1) + 1 ≤ 3344) (hs0 : T3.Same p q) :
  Pan prog 50 [vp,vq] w (I8 61):=by
 refine L8 (E:=env) (S0:=S) (G:=((o8 vp (p)).and (o8 vq (q)))) (l:=[.one (.ag 9 vp),.one (.ag 9 vq)]) func50 rfl rfl rfl ⟨hp.ok,hq.ok,trivial⟩ rfl ⟨hp,hq⟩ ?_
 refine B0 (fun x0=>.one (.ag 9 x0)) (fun x0=>o8 x0 ((p.cross q))) (fun _ _ _ h=>⟨h.ok,rfl⟩) (fun β S w hS hs hw hG=>(kx (S2 hS hG.1 hG.2 hm hn hmn))) ?_
 intro c
 refine B6 (.one (.tp (p.cross q).None)) rfl (fun β S w hS hs hw hG=>(kx (a43 hS hG.1))) ?_
 refine W0 (p:=(p.cross q).None) (hs0) ?_
 exact s_X ⟨b9,hS,j6⟩ (by kernel_rfl) (by kernel_rfl) (fun β S w hS hs hw hG=>(kx (Q7 (ac2 (e:=61)) hw)))
open Classical in
noncomputable def D9 (t : T3) : Int:=if af4 t.list then 60 else if am6 t.list then 11 else 0
open Classical in
noncomputable def I2 : List T3 → Int
 | []=>0
 | t :: r=>if D9 t = 0 then I2 r else D9 t
abbrev ay0 (x : Value) (t : T3) : Gh:=o8 x t
abbrev cj7 (v : Value) (l : List T3) : Gh:=b34 true 9 ay0 v l
theorem bt7 {base : Bs} {hp : List HE} {β : Nat → Nat} {S : Nat → Prop} {w : World} {x : Value} {t : T3} (i : Nat) (T : TypeId) (hM : Mem base hp β w) (hb : nth hp i = some (.blk T [.ag 9 x])) (h : TripV S w x t) :
  SeqV true 3 W5 (fun k=>S k ∨ some k = Value.ownBlock (.slice (some ⟨β i,0,none⟩) 3 3)) w (.slice (some ⟨β i,0,none⟩) 3 3) t.list:=by
 rw [M5] at hb
 have hB:=(hM.blk i T _ hb).1
 obtain ⟨vs,e1,e2⟩:=h.els
 rw [ae1,e1] at hB
 exact e2.seq (ak2 hB (Nat.zero_le _) (by decide) (by rw [R2 e2.lies,e2.len]; rfl)) rfl
theorem af5 {t : T3} {n : Nat} (h : tl t n) : ∀ x ∈ t.list,rl x n:=by
 intro x hx
 simp only [T3.list,List.mem_cons,List.not_mem_nil,or_false] at hx
 rcases hx with rfl | rfl | rfl
 ·exact h.1
 ·exact h.2.1
 exact h.2.2
theorem a60 {t : T3} (h : D9 t = 0) : ¬ af4 t.list ∧ ¬ am6 t.list:=by
 unfold D9 at h
 split at h
 ·cases h
 split at h
 ·cases h
 exact ⟨‹_›,‹_›⟩
theorem cf5 {S : Nat → Prop} {w : World} {v : Value} {t : T3} (ht : Tab w) (hS : Up S w) (h : SeqV true 3 W5 S w v t.list) (hl : tl t 1000000) (hb : D9 t ≠ 0) : Pan prog 95 [v] w (I8 (D9 t)):=by
 unfold D9 at hb ⊢
 split
 ·exact bl1 hS h ‹_›
 rw [if_neg ‹_›] at hb
 split
 ·exact be6 ht hS h (af5 hl) ‹_› ‹_›
 rw [if_neg ‹_›] at hb
 exact absurd rfl hb
theorem T3.getD_at {l : List T3} {j : Nat} (h : j < l.length) : l[j]? = some (l.getD j ⟨0,0,0⟩):=by rw [List.getD_eq_getElem?_getD,List.getElem?_eq_getElem h]; rfl
theorem U9 {S : Nat → Prop} {w : World} {v : Value} {l : List T3} (ht : Tab w) (hS : Up S w) (h : SeqV true 9 ay0 S w v l) (hl : ∀ t ∈ l,tl t 1000000) (hk : ∀ t ∈ l,D9 t = 0) : Gives prog 40 [v] w fun v' w'=>v' = .tuple #[] ∧ Ext w w':=by
 have hmx:=h.len_le
 unfold maxLen at hmx
 refine n8 (E:=env) (S0:=S) (G:=(cj7 v l)) (l:=[.one (.sl v l.length)]) func40 rfl rfl rfl ⟨h.sl,trivial⟩ rfl h ?_
 refine ad5 (ι:=Nat) [(3,3),(6,12)] (fun j=>[(6,.one (.int .i64 (j : Int)))]) (fun _=>[]) (fun j=>(cj7 v l)) (fun j=>j ≤ l.length) (fun j=>l.length - j) (0) ⟨b9,hS,j6⟩ (by kernel_rfl) (by kernel_rfl) (fun β=>(by kernel_rfl)) (fun β=>(by kernel_rfl)) (by kernel_rfl) (Nat.zero_le _) (fun S w hw hG=>⟨B5 rfl,fun p hp=>by cases hp⟩) (fun S w hw hG=>hG) (fun hso j hj=>?_)
 refine Z8 (p:=(j : Int) < (l.length : Int)) (fun hlt=>?_) (fun hlt=>?_)
 ·have hlt' : j < l.length:=by omega
  have hx0:=T3.getD_at hlt'
  have hm:=List.mem_of_getElem? hx0
  refine o5 (bf5 v l.length (j : Int) 43 9 (fun u0=>atG true 9 (fun x0=>o8 x0 ((l.getD j ⟨0,0,0⟩))) u0) (by kernel_rfl) ⟨b9,hS,j6⟩ (fun β S w hM hw hG=>hG.el rfl rfl hx0) ?_)
  intro u_1
  refine o5 (bg8 u_1 43 9 true (fun x0=>.one (.ag 9 x0)) (fun x0=>o8 x0 ((l.getD j ⟨0,0,0⟩))) (by kernel_rfl) ⟨b9,hS,j6⟩ (fun S w hw hG=>hG.1) (fun _ _ _ h=>⟨h.ok,rfl⟩) ?_)
  intro x
  refine O6 (.und) rfl (fun β S w hS hM hs hw hG=>(kx (ax2 (ht.to hw) (x9 hS) (bt7 0 43 hM (by kernel_rfl) hG.1) (af5 (hl _ hm)) (a60 (hk _ hm)).1 (a60 (hk _ hm)).2))) ?_
  refine am7 (ps:=[InR .i64 ((j : Int) + 1)]) (by simp only [K7,InR,and_true]; omega) ?_
  exact Y0 (j + 1) ⟨b9,hS,j6⟩ hso (by kernel_rfl) (by kernel_rfl) (fun β=>(by kernel_rfl)) (fun β=>(by kernel_rfl)) (by kernel_rfl) (by omega) (by omega) (fun S w hw hG=>⟨B5 rfl,fun p hp=>by cases hp⟩) (fun S w hw hG=>hG.2.2)
 refine ag6 ?_
 exact o6 (.tuple #[]) rfl (fun S w hs hw hG=>⟨rfl,hw⟩)
theorem at7 {S : Nat → Prop} {w : World} {v : Value} {l : List T3} {n : Nat} (ht : Tab w) (hS : Up S w) (h : SeqV true 9 ay0 S w v l) (hl : ∀ t ∈ l,tl t 1000000) (hn : n < l.length) (hb : D9 (l.getD n ⟨0,0,0⟩) ≠ 0) (hk : ∀ i,i < n → D9 (l.getD i ⟨0,0,0⟩) = 0) : Pan prog 40 [v] w (I8 (D9 (l.getD n ⟨0,0,0⟩))):=by
 have hmx:=h.len_le
 unfold maxLen at hmx
 refine L8 (E:=env) (S0:=S) (G:=(cj7 v l)) (l:=[.one (.sl v l.length)]) func40 rfl rfl rfl ⟨h.sl,trivial⟩ rfl h ?_
 refine ad5 (ι:=Nat) [(3,3),(6,12)] (fun j=>[(6,.one (.int .i64 (j : Int)))]) (fun _=>[]) (fun j=>(cj7 v l)) (fun j=>j ≤ n) (fun j=>n - j) (0) ⟨b9,hS,j6⟩ (by kernel_rfl) (by kernel_rfl) (fun β=>(by kernel_rfl)) (fun β=>(by kernel_rfl)) (by kernel_rfl) (Nat.zero_le _) (fun S w hw hG=>⟨B5 rfl,fun p hp=>by cases hp⟩) (fun S w hw hG=>hG) (fun hso j hj=>?_)
 have hlt' : j < l.length:=by omega
 refine W0 (p:=(j : Int) < (l.length : Int)) (by omega) ?_
 have hx0:=T3.getD_at hlt'
 have hm:=List.mem_of_getElem? hx0
 refine o5 (bf5 v l.length (j : Int) 43 9 (fun u0=>atG true 9 (fun x0=>o8 x0 ((l.getD j ⟨0,0,0⟩))) u0) (by kernel_rfl) ⟨b9,hS,j6⟩ (fun β S w hM hw hG=>hG.el rfl rfl hx0) ?_)
 intro u_1
 refine o5 (bg8 u_1 43 9 true (fun x0=>.one (.ag 9 x0)) (fun x0=>o8 x0 ((l.getD j ⟨0,0,0⟩))) (by kernel_rfl) ⟨b9,hS,j6⟩ (fun S w hw hG=>hG.1) (fun _ _ _ h=>⟨h.ok,rfl⟩) ?_)
 intro x
 by_cases e : j = n
 ·subst e
  exact bt8 ⟨b9,hS,j6⟩ (by kernel_rfl) (by kernel_rfl) (fun β S w hS hM hs hw hG=>(kx (bu7 (cf5 (ht.to hw) (x9 hS) (bt7 0 43 hM (by kernel_rfl) hG.1) (hl _ hm) hb) (fun w' hk' ρ=>⟨rfl,hw.trans hk'⟩))))
 have hj0:=a60 (hk j (by omega))
 refine O6 (.und) rfl (fun β S w hS hM hs hw hG=>(kx (ax2 (ht.to hw) (x9 hS) (bt7 0 43 hM (by kernel_rfl) hG.1) (af5 (hl _ hm)) hj0.1 hj0.2))) ?_
 refine am7 (ps:=[InR .i64 ((j : Int) + 1)]) (by simp only [K7,InR,and_true]; omega) ?_
 exact Y0 (j + 1) ⟨b9,hS,j6⟩ hso (by kernel_rfl) (by kernel_rfl) (fun β=>(by kernel_rfl)) (fun β=>(by kernel_rfl)) (by kernel_rfl) (by omega) (by omega) (fun S w hw hG=>⟨B5 rfl,fun p hp=>by cases hp⟩) (fun S w hw hG=>hG.2.2)
abbrev D2 (u : Value) (t : T3) : Gh:=atG true 9 (fun x=>o8 x t) u
theorem aj7 {β : Nat → Nat} {n : Nat} : ∀ {vs : List Value},d6 β (vs.map (Ch.ag n)) = A3 vs:=by
 intro vs
 induction vs with
 | nil=>rfl
 | cons x r ih=>simp only [d6,A3,List.map_cons,List.flatMap_cons,Ch.cells] at ih ⊢; rw [ih]
theorem H3 {α : Type} {base : Bs} {hp : List HE} {β : Nat → Nat} {g : Bool} {s : Nat} {F : Value → α → Gh} {S : Nat → Prop} {w : World} {l : List α} (i : Nat) (T : TypeId) (vs : List Value) (hM : Mem base hp β w) (hb : nth hp i = some (.blk T (vs.map (Ch.ag s)))) (h : ElsV g s F S w vs l) (hl : l.length ≤ maxLen) :
  SeqV g s F (fun k=>S k ∨ some k = Value.ownBlock (.slice (some ⟨β i,0,none⟩) l.length l.length)) w (.slice (some ⟨β i,0,none⟩) l.length l.length) l:=by
 rw [M5] at hb
 have hB:=(hM.blk i T _ hb).1
 rw [aj7] at hB
 exact h.seq (ak2 hB (Nat.zero_le _) hl (by rw [R2 h.lies,h.len])) rfl
theorem TripV.lies {S : Nat → Prop} {w : World} {v : Value} {t : T3} (h : TripV S w v t) : M2 true 9 v := by
  obtain ⟨a, b, c, rfl, h1, h2, h3⟩ := h
  have e := aj4 h1.lies h2.lies h3.lies
  refine ⟨by rw [e, R2 (g := true) (s := 3) (vs := [a, b, c])]; · rfl
             · intro x hx
               simp only [List.mem_cons, List.not_mem_nil, or_false] at hx
               rcases hx with rfl | rfl | rfl
               · exact h1.lies
               · exact h2.lies
               · exact h3.lies, ?_⟩
  simp [aw8, SV.den, Value.cells]
theorem c66 {S : Nat → Prop} {w : World} {a b : Value} {p q : T3} (h1 : TripV S w a p) (h2 : TripV S w b q) : ElsV true 9 ay0 S w [a,b] [p,q]:=by
 refine ⟨rfl,fun x hx=>?_,fun i t x hq hx=>?_⟩
 ·simp only [List.mem_cons,List.not_mem_nil,or_false] at hx
  rcases hx with rfl | rfl
  ·exact h1.lies
  exact h2.lies
 match i with
 | 0=>simp at hq hx; subst hq hx; exact h1
 | 1=>simp at hq hx; subst hq hx; exact h2
 | i + 2=>simp at hq
theorem bz9 {p q : T3} {P : T3 → Prop} (h1 : P p) (h2 : P q) : ∀ t ∈ [p,q],P t:=by
 intro t ht
 simp only [List.mem_cons,List.not_mem_nil,or_false] at ht
 rcases ht with rfl | rfl
 ·exact h1
 exact h2
theorem c41 {S : Nat → Prop} {w : World} {u1 u2 : Value} {p q : T3} {m n k : Nat} (ht : Tab w) (hS : Up S w) (o1 : u1.oneCell' = true) (o2 : u2.oneCell' = true) (h1 : (D2 u1 p).p S w) (h2 : (D2 u2 q).p S w) (hm : tl p m) (hn : tl q n) (hmn : 2 * (m + n + 1) + 1 ≤ 3344) (hk : tl (p.cross q).normal k) (hk2 : k ≤ 3344)
  (hp0 : D9 p = 0) (hq0 : D9 q = 0) (hs0 : ¬ T3.Same p q) :
  Gives prog 49 [u1,u2] w fun v' w'=>Ext w w' ∧ TripV S w' v' (p.cross q).normal:=by
 refine n8 (E:=env) (S0:=S) (G:=((D2 u1 p).and (D2 u2 q))) (l:=[.one (.val u1),.one (.val u2)]) func49 rfl rfl rfl ⟨o1,o2,trivial⟩ rfl ⟨h1,h2⟩ ?_
 refine o5 (r6 u1 43 9 true (fun x0=>.one (.ag 9 x0)) (fun x0=>o8 x0 (p)) (fun β S w hM hw hG=>let ⟨y,e1,e2,e3⟩:=hG.1; ⟨S,y,e1,e2,e3⟩) ?_)
 intro x
 refine o5 (r6 u2 43 9 true (fun x0=>.one (.ag 9 x0)) (fun x0=>o8 x0 (q)) (fun β S w hM hw hG=>let ⟨y,e1,e2,e3⟩:=hG.2.2; ⟨S,y,e1,e2,e3⟩) ?_)
 intro y
 refine O6 (.und) rfl (fun β S w hS hM hs hw hG=>(kx (U9 (ht.to hw) (x9 hS) (H3 1 43 [x,y] hM (by kernel_rfl) (c66 hG.2.1 hG.1) (show 2 ≤ maxLen by decide)) (bz9 (F3 hm) (F3 hn)) (bz9 hp0 hq0)))) ?_
 refine o5 (r6 u1 43 9 true (fun x0=>.one (.ag 9 x0)) (fun x0=>o8 x0 (p)) (fun β S w hM hw hG=>let ⟨y,e1,e2,e3⟩:=hG.2.2.1; ⟨S,y,e1,e2,e3⟩) ?_)
 intro x2
 refine o5 (r6 u2 43 9 true (fun x0=>.one (.ag 9 x0)) (fun x0=>o8 x0 (q)) (fun β S w hM hw hG=>let ⟨y,e1,e2,e3⟩:=hG.2.2.2.2; ⟨S,y,e1,e2,e3⟩) ?_)
 intro y2
 refine B0 (fun x0=>.one (.ag 9 x0)) (fun x0=>o8 x0 ((p.cross q).normal)) (fun _ _ _ h=>⟨h.ok,rfl⟩) (fun β S w hS hs hw hG=>(kx (cv9 hS hG.2.1 hG.1 hm hn hmn hk hk2 hs0))) ?_
 intro r
 exact o6 (r) rfl (fun S w hs hw hG=>⟨hw,hG.1.mono fun k _ hk=>hs k hk⟩)
theorem c97 {S : Nat → Prop} {w : World} {u1 u2 : Value} {p q : T3} {m n : Nat} (ht : Tab w) (hS : Up S w) (o1 : u1.oneCell' = true) (o2 : u2.oneCell' = true) (h1 : (D2 u1 p).p S w) (h2 : (D2 u2 q).p S w) (hm : tl p m) (hn : tl q n) (hmn : 2 * (m + n + 1) + 1 ≤ 3344)
  (hp0 : D9 p = 0) (hq0 : D9 q = 0) (hs0 : T3.Same p q) :
  Pan prog 49 [u1,u2] w (I8 61):=by
 refine L8 (E:=env) (S0:=S) (G:=((D2 u1 p).and (D2 u2 q))) (l:=[.one (.val u1),.one (.val u2)]) func49 rfl rfl rfl ⟨o1,o2,trivial⟩ rfl ⟨h1,h2⟩ ?_
 refine o5 (r6 u1 43 9 true (fun x0=>.one (.ag 9 x0)) (fun x0=>o8 x0 (p)) (fun β S w hM hw hG=>let ⟨y,e1,e2,e3⟩:=hG.1; ⟨S,y,e1,e2,e3⟩) ?_)
 intro x
 refine o5 (r6 u2 43 9 true (fun x0=>.one (.ag 9 x0)) (fun x0=>o8 x0 (q)) (fun β S w hM hw hG=>let ⟨y,e1,e2,e3⟩:=hG.2.2; ⟨S,y,e1,e2,e3⟩) ?_)
 intro y
 refine O6 (.und) rfl (fun β S w hS hM hs hw hG=>(kx (U9 (ht.to hw) (x9 hS) (H3 1 43 [x,y] hM (by kernel_rfl) (c66 hG.2.1 hG.1) (show 2 ≤ maxLen by decide)) (bz9 (F3 hm) (F3 hn)) (bz9 hp0 hq0)))) ?_
 refine o5 (r6 u1 43 9 true (fun x0=>.one (.ag 9 x0)) (fun x0=>o8 x0 (p)) (fun β S w hM hw hG=>let ⟨y,e1,e2,e3⟩:=hG.2.2.1; ⟨S,y,e1,e2,e3⟩) ?_)
 intro x2
 refine o5 (r6 u2 43 9 true (fun x0=>.one (.ag 9 x0)) (fun x0=>o8 x0 (q)) (fun β S w hM hw hG=>let ⟨y,e1,e2,e3⟩:=hG.2.2.2.2; ⟨S,y,e1,e2,e3⟩) ?_)
 intro y2
 exact s_X ⟨b9,hS,j6⟩ (by kernel_rfl) (by kernel_rfl) (fun β S w hS hs hw hG=>(kx (Q7 (ct8 hS hG.2.1 hG.1 hm hn hmn hs0) hw)))
noncomputable def Q8 (p q : T3) : Int:=if D9 p = 0 then D9 q else D9 p
theorem bg7 {S : Nat → Prop} {w : World} {v : Value} {p q : T3} (ht : Tab w) (hS : Up S w) (h : SeqV true 9 ay0 S w v [p,q]) (hm : tl p 1000000) (hn : tl q 1000000) (hb : Q8 p q ≠ 0) : Pan prog 40 [v] w (I8 (Q8 p q)):=by
 unfold Q8 at hb ⊢
 split
 ·rename_i e
  rw [if_pos e] at hb
  exact at7 (n:=1) ht hS h (bz9 hm hn) (show 1 < 2 by decide) hb (fun i hi=>by
   obtain rfl : i = 0:=by omega
   exact e)
 rename_i e
 exact at7 (n:=0) ht hS h (bz9 hm hn) (show 0 < 2 by decide) e (fun i hi=>by omega)
theorem cy8 {S : Nat → Prop} {w : World} {u1 u2 : Value} {p q : T3} (ht : Tab w) (hS : Up S w) (o1 : u1.oneCell' = true) (o2 : u2.oneCell' = true) (h1 : (D2 u1 p).p S w) (h2 : (D2 u2 q).p S w) (hm : tl p 1000000) (hn : tl q 1000000) (hb : Q8 p q ≠ 0) :
  Pan prog 49 [u1,u2] w (I8 (Q8 p q)):=by
 refine L8 (E:=env) (S0:=S) (G:=((D2 u1 p).and (D2 u2 q))) (l:=[.one (.val u1),.one (.val u2)]) func49 rfl rfl rfl ⟨o1,o2,trivial⟩ rfl ⟨h1,h2⟩ ?_
 refine o5 (r6 u1 43 9 true (fun x0=>.one (.ag 9 x0)) (fun x0=>o8 x0 (p)) (fun β S w hM hw hG=>let ⟨y,e1,e2,e3⟩:=hG.1; ⟨S,y,e1,e2,e3⟩) ?_)
 intro x
 refine o5 (r6 u2 43 9 true (fun x0=>.one (.ag 9 x0)) (fun x0=>o8 x0 (q)) (fun β S w hM hw hG=>let ⟨y,e1,e2,e3⟩:=hG.2.2; ⟨S,y,e1,e2,e3⟩) ?_)
 intro y
 exact bt8 ⟨b9,hS,j6⟩ (by kernel_rfl) (by kernel_rfl) (fun β S w hS hM hs hw hG=>(kx (Q7 (bg7 (ht.to hw) (x9 hS) (H3 1 43 [x,y] hM (by kernel_rfl) (c66 hG.2.1 hG.1) (show 2 ≤ maxLen by decide)) hm hn hb) hw)))
theorem dt3 {S : Nat → Prop} {w : World} {u1 u2 : Value} {p q : T3} {m n : Nat} (ht : Tab w) (hS : Up S w) (o1 : u1.oneCell' = true) (o2 : u2.oneCell' = true) (h1 : (D2 u1 p).p S w) (h2 : (D2 u2 q).p S w) (hm : tl p m) (hn : tl q n) (hmn : 3 * (m + n + 1) + 1 ≤ 3344) (hp0 : D9 p = 0) (hq0 : D9 q = 0) :
  Gives prog 52 [u1,u2] w fun v' w'=>v' = .bool (tst (p.dot q = 0)) ∧ Ext w w':=by
 refine n8 (E:=env) (S0:=S) (G:=((D2 u1 p).and (D2 u2 q))) (l:=[.one (.val u1),.one (.val u2)]) func52 rfl rfl rfl ⟨o1,o2,trivial⟩ rfl ⟨h1,h2⟩ ?_
 refine o5 (r6 u1 43 9 true (fun x0=>.one (.ag 9 x0)) (fun x0=>o8 x0 (p)) (fun β S w hM hw hG=>let ⟨y,e1,e2,e3⟩:=hG.1; ⟨S,y,e1,e2,e3⟩) ?_)
 intro x
 refine o5 (r6 u2 43 9 true (fun x0=>.one (.ag 9 x0)) (fun x0=>o8 x0 (q)) (fun β S w hM hw hG=>let ⟨y,e1,e2,e3⟩:=hG.2.2; ⟨S,y,e1,e2,e3⟩) ?_)
 intro y
 refine O6 (.und) rfl (fun β S w hS hM hs hw hG=>(kx (U9 (ht.to hw) (x9 hS) (H3 0 43 [x,y] hM (by kernel_rfl) (c66 hG.2.1 hG.1) (show 2 ≤ maxLen by decide)) (bz9 (F3 hm) (F3 hn)) (bz9 hp0 hq0)))) ?_
 refine o5 (r6 u1 43 9 true (fun x0=>.one (.ag 9 x0)) (fun x0=>o8 x0 (p)) (fun β S w hM hw hG=>let ⟨y,e1,e2,e3⟩:=hG.2.2.1; ⟨S,y,e1,e2,e3⟩) ?_)
 intro x2
 refine o5 (r6 u2 43 9 true (fun x0=>.one (.ag 9 x0)) (fun x0=>o8 x0 (q)) (fun β S w hM hw hG=>let ⟨y,e1,e2,e3⟩:=hG.2.2.2.2; ⟨S,y,e1,e2,e3⟩) ?_)
 intro y2
 refine B0 (fun x0=>.one (.ag 3 x0)) (fun x0=>l6 x0 ((p.dot q))) (fun _ _ _ h=>⟨h.ok,rfl⟩) (fun β S w hS hs hw hG=>(kx (be8 hS hG.2.1 hG.1 hm hn hmn))) ?_
 intro r
 refine B6 (.one (.tp (p.dot q = 0))) rfl (fun β S w hS hs hw hG=>(kx (F8 hS hG.1))) ?_
 exact o6 (.bool (tst (p.dot q = 0))) rfl (fun S w hs hw hG=>⟨rfl,hw⟩)
theorem dr2 {S : Nat → Prop} {w : World} {u1 u2 : Value} {p q : T3} (ht : Tab w) (hS : Up S w) (o1 : u1.oneCell' = true) (o2 : u2.oneCell' = true) (h1 : (D2 u1 p).p S w) (h2 : (D2 u2 q).p S w) (hm : tl p 1000000) (hn : tl q 1000000) (hb : Q8 p q ≠ 0) :
  Pan prog 52 [u1,u2] w (I8 (Q8 p q)):=by
 refine L8 (E:=env) (S0:=S) (G:=((D2 u1 p).and (D2 u2 q))) (l:=[.one (.val u1),.one (.val u2)]) func52 rfl rfl rfl ⟨o1,o2,trivial⟩ rfl ⟨h1,h2⟩ ?_
 refine o5 (r6 u1 43 9 true (fun x0=>.one (.ag 9 x0)) (fun x0=>o8 x0 (p)) (fun β S w hM hw hG=>let ⟨y,e1,e2,e3⟩:=hG.1; ⟨S,y,e1,e2,e3⟩) ?_)
 intro x
 refine o5 (r6 u2 43 9 true (fun x0=>.one (.ag 9 x0)) (fun x0=>o8 x0 (q)) (fun β S w hM hw hG=>let ⟨y,e1,e2,e3⟩:=hG.2.2; ⟨S,y,e1,e2,e3⟩) ?_)
 intro y
 exact bt8 ⟨b9,hS,j6⟩ (by kernel_rfl) (by kernel_rfl) (fun β S w hS hM hs hw hG=>(kx (Q7 (bg7 (ht.to hw) (x9 hS) (H3 0 43 [x,y] hM (by kernel_rfl) (c66 hG.2.1 hG.1) (show 2 ≤ maxLen by decide)) hm hn hb) hw)))
def ai4 : List Value:=[.bool false,.slice none 0 0,.slice none 0 0,.bool false,.slice none 0 0,.slice none 0 0,.bool false,.slice none 0 0,.slice none 0 0]
theorem bo4 : ∀ v ∈ ai4,v.oneCell' = true:=by
 intro v hv
 simp only [ai4,List.mem_cons,List.not_mem_nil,or_false] at hv
 rcases hv with rfl | rfl | rfl | rfl | rfl | rfl | rfl | rfl | rfl <;> rfl
theorem bx5 {w : World} {g1 g2 : Nat} : GivesD prog 94 [.pointer (some ⟨g1,0,none⟩),.pointer (some ⟨g2,0,none⟩)] .returning w fun u' w'=>u' = .returning ∧ w' = w:=by
 refine E8 func94 rfl rfl rfl rfl rfl (.inl ⟨rfl,rfl,rfl⟩) ?_
 repeat (first | refine O9 rfl ?_ | refine wW ?_ | refine wp_skip ?_ | refine wp_cond_false rfl ?_)
 exact ⟨[],rfl,rfl,rfl⟩
theorem b70 {w : World} {g1 g2 : Nat} {cs1 : List Value} {e : Value} {E : Int} (h1 : Blk w g1 43 cs1) (hl : cs1.length = 9) (h2 : Blk w g2 44 [e]) :
  GivesD prog 94 [.pointer (some ⟨g1,0,none⟩),.pointer (some ⟨g2,0,none⟩)] (.panicking (I8 E)) w fun u' w'=>settle u' = .returning ∧
   Keeps (fun k=>k ≠ g1 ∧ k ≠ g2) w w' ∧ Blk w' g1 43 ai4 ∧ Blk w' g2 44 [.int .i64 E]:=by
 have hne : g1 ≠ g2:=h1.ne h2 (by decide)
 refine E8 func94 rfl rfl rfl rfl rfl (.inr ⟨_,rfl,rfl,rfl⟩) ?_
 repeat (first | refine aa0 rfl ?_ | refine ap1 rfl ?_ | refine wW ?_ | refine B4 rfl rfl ?_ | refine wp_cond_true rfl ?_)
 refine q8 (cs:=[.int .i64 0]) rfl ?_
 intro w1 g3 k1 hg3 hgs3
 have hl1:=h1.lt
 have hl2:=h2.lt
 refine z8 (us:=[.int .i64 E]) rfl (by conv=>(lhs; whnf)) rfl rfl hg3 rfl (fun v hv=>by rw [List.mem_singleton.1 hv]; rfl) ?_
 intro w2 k2 hg32
 repeat (first | refine av0 rfl ?_ | refine wW ?_ | refine d7 ?_ | refine wp_skip ?_ | refine wp_cond_false rfl ?_)
 refine q8 (cs:=ai4) rfl ?_
 intro w3 g5 k3 hg5 hgs5
 have k : Ext w w3:=(Keeps.past k1 k2 hgs3).trans k3
 have hg33:=hg32.to k3
 have hl3:=hg32.lt
 repeat refine wW ?_
 refine aj3 (R:=OneW g1 43 cs1 ai4) 4 OneW.trans OneW.drew (by kernel_rfl) (by kernel_rfl) ?_
 apply D4
 ·intro x w1 k1 hd
  refine n7 rfl (hg5.wr k1.1 (by omega)) rfl ?_
  refine b8 ?_
  exact N5 OneW.refl
 apply D4
 ·intro x w1 k1 hd
  refine j5 rfl ?_
  refine b8 ?_
  exact N5 OneW.refl
 apply D4
 ·intro x w1 k1 hd
  refine f5 rfl (hg33.wr k1.1 (by omega)) rfl ?_
  refine b8 ?_
  exact N5 OneW.refl
 refine D4 (e:=EntR.of (fun v w=>Blk w g1 43 ai4) (fun v w w' h k=>k.2.2 h)) ?_ ?_
 ·intro x w1 k1 hd
  rcases k1.2.1 (.inl (h1.to k)) with hgx | hgx
  ·refine z8 (us:=ai4) rfl (by conv=>(lhs; whnf)) rfl rfl hgx hl bo4 ?_
   intro w12 k12 hg12
   exact b8 (R8 (OneW.wrote k12 hg12) hg12)
  refine z8 (us:=ai4) rfl (by conv=>(lhs; whnf)) rfl rfl hgx rfl bo4 ?_
  intro w12 k12 hg12
  exact b8 (R8 (OneW.wrote k12 hg12) hg12)
 refine az5 (a29 ?_)
 intro x w12 k12 hall
 have h14 : Blk w12 g1 43 ai4:=hall.1
 refine J4 (u:=.int .i64 E) rfl rfl ((h2.to k).wr k12.1 (fun e=>hne e.symm)) (show 0 < 1 by decide) rfl ?_
 intro w5 k5 h25
 repeat (first | refine b8 ?_)
 refine ⟨[],rfl,rfl,?_,h14.wr k5 hne,h25⟩
 exact ((Keeps.of k).trans (k12.1.mono fun i hi=>hi.1)).trans (k5.mono fun i hi=>hi.2)
theorem ax6 {S : Nat → Prop} {w : World} {F : FuncId} [ci : CallI prog F] {cap : List Value} {t : T3} {E : Int} {Y Z : Prop} (hS : Up S w)
  (h : ∀ S' w',Up S' w' → Ext w w' → (∀ k,S' k → S k) → (∀ k,k < w.heap.size → S k → S' k) → GivesE prog F cap w' (fun v w''=>Ext w' w'' ∧ TripV S' w'' v t ∧ Y) fun ch w''=>ch = I8 E ∧ Ext w' w'' ∧ Z) :
  Gives prog 38 [.func (.func F) #[] cap.toArray] w fun v' w'=>Ext w w' ∧ ((∃ x,v' = .tuple #[x,.int .i64 0] ∧ TripV S w' x t ∧ Y) ∨ (v' = .tuple #[.agg ai4.toArray,.int .i64 E] ∧ Z)):=by
 refine P6 func38 rfl rfl rfl ?_
 refine az6 ?_
 repeat (first | refine Z0 ?_)
 refine q8 (cs:=ai4) rfl ?_
 intro w1 g1 k1 hg1 hgs1
 skip
 refine q8 (cs:=[.int .i64 0]) rfl ?_
 intro w2 g2 k2 hg2 hgs2
 have hgl:=hg1.lt
 have hgl2:=hg2.lt
 replace hg1:=hg1.to k2
 have k:=k1.trans k2
 have hk1:=k1.size
 have hk2:=k2.size
 have hS2 : Up (fun k=>S k ∧ k ≠ g1 ∧ k ≠ g2) w2:=fun i hi=>⟨hS i (by omega),by omega,by omega⟩
 have hc:=h (fun k=>S k ∧ k ≠ g1 ∧ k ≠ g2) w2 hS2 k (fun _ h=>h.1) (fun i hi hs=>⟨hs,by omega,by omega⟩)
 repeat refine wW ?_
 refine S3 ?_
 refine ay8 ?_ (fun e a ρ w hm hq=>ap0 hm hq)
 repeat refine wW ?_
 refine aq0 (first:=[]) (cap:=cap) rfl hc rfl ?_ ?_
 ·rintro v3 w3 ⟨k3,hf,hy⟩
  obtain ⟨us,hv,hul,hu1⟩:=hf.ok
  skip
  refine z8 (us:=us) rfl (by conv=>(lhs; whnf)) (by rw [hv]; rfl) hul (hg1.to k3) rfl hu1 ?_
  intro w4 k4 hg4
  have hg24:=(hg2.to k3).wr k4 (by omega)
  refine J4 (u:=.int .i64 0) rfl rfl hg24 (show 0 < 1 by decide) rfl ?_
  intro w5 k5 hg5
  have hg45:=hg4.wr k5 (by omega)
  repeat refine wW ?_
  refine bx5.mono ?_
  rintro u' w' ⟨rfl,rfl⟩
  refine ⟨rfl,[.agg us.toArray,.int .i64 0],⟨_,_,n6 hg45 hul,⟨_,_,N1 (by conv=>(lhs; whnf)) hg5,rfl,rfl⟩,rfl⟩,?_⟩
  refine ⟨((Keeps.past (k.trans k3) k4 (by omega)).past k5 (by omega)),.inl ⟨_,rfl,?_,hy⟩⟩
  rw [← hv]
  exact ((hf.keep (k4.mono fun i hi=>hi.2.1)).keep (k5.mono fun i hi=>hi.2.2)).mono fun i _ hi=>hi.1
 rintro ch w3 ⟨rfl,k3,hf⟩
 refine L3 ?_
 refine (b70 (hg1.to k3) rfl (hg2.to k3)).mono ?_
 rintro u' w' ⟨hu,k4,h1,h2⟩
 refine ⟨hu,[.agg ai4.toArray,.int .i64 E],⟨_,_,n6 h1 rfl,⟨_,_,N1 (by conv=>(lhs; whnf)) h2,rfl,rfl⟩,rfl⟩,?_⟩
 exact ⟨Keeps.later (k.trans k3) k4 (fun i hi _=>⟨by omega,by omega⟩),.inr ⟨rfl,hf⟩⟩
theorem Gives.toE {P : Program} {f : FuncId} {args : List Value} {w : World} {Ψ : Value → World → Prop} {Φ : List PanicEntry → World → Prop} (h : Gives P f args w Ψ) : GivesE P f args w Ψ Φ:=
 Calls.mono h fun e w' ⟨v,he,hv⟩=>by subst he; exact hv
abbrev F2 (v : Value) (t : T3) (e : Int) : Gh:=⟨fun S w=>v = .tuple #[A8 v,.int .i64 e] ∧ TripV S w (A8 v) t,fun h k=>⟨h.1,h.2.keep k⟩,fun h k=>⟨h.1,h.2.mono k⟩⟩
theorem bj8 {v : Value} {t : T3} {e : Int} {S : Nat → Prop} {w : World} (h : (F2 v t e).p S w) : (pr (.ag 9 (A8 v)) (.int .i64 e)).Ok 0 ∧ (pr (.ag 9 (A8 v)) (.int .i64 e)).den (fun _=>0) = v:=⟨bq2 h.2.ok trivial,h.1.symm⟩
theorem K9 {v : Value} {t : T3} {S : Nat → Prop} {w : World} (h : (F2 v t 0).p S w) : (pr (.ag 9 (A8 v)) (.lit .i64 0)).Ok 0 ∧ (pr (.ag 9 (A8 v)) (.lit .i64 0)).den (fun _=>0) = v:=⟨bq2 h.2.ok trivial,h.1.symm⟩
theorem b52 {S : Nat → Prop} {w : World} : TripV S w (.agg ai4.toArray) ⟨0,0,0⟩:=⟨_,_,_,rfl,y6,y6,y6⟩
theorem X8 {S : Nat → Prop} {w : World} {u v : Value} {t : T3} {T : TypeId} (h : (cs9 u T (d6 (fun _=>0) [.ag 9 v])).p S w) (hv : TripV S w v t) : (D2 u t).p S w:=by
 obtain ⟨b,rfl,hs,hB⟩:=h
 rw [ae1] at hB
 exact ⟨v,hv.lies,⟨b,0,v.cells.toList.toArray,T,(0,0),rfl,hs,hB,by simp,by rw [List.drop_zero]; exact List.take_of_length_le (Nat.le_refl _)⟩,hv⟩
theorem L6 {S : Nat → Prop} {w : World} {u : Value} {T : TypeId} {cs : List Value} (h : (cs9 u T cs).p S w) : u.oneCell' = true:=by
 obtain ⟨b,rfl,_⟩:=h
 rfl
noncomputable def V0 (p q : T3) : Int:=if Q8 p q = 0 then (if T3.Same p q then 61 else 0) else Q8 p q
noncomputable def aq4 (p q : T3) : T3:=if V0 p q = 0 then (p.cross q).normal else ⟨0,0,0⟩
theorem cj9 {p q : T3} (h : Q8 p q = 0) : D9 p = 0 ∧ D9 q = 0:=by
 unfold Q8 at h
 split at h
 ·exact ⟨‹_›,h⟩
 exact absurd h ‹_›
theorem cz9 {S : Nat → Prop} {w : World} {u1 u2 : Value} {p q : T3} {m n k : Nat} (ht : Tab w) (hS : Up S w) (o1 : u1.oneCell' = true) (o2 : u2.oneCell' = true) (h1 : (D2 u1 p).p S w) (h2 : (D2 u2 q).p S w) (hm : tl p m) (hn : tl q n) (hmn : 2 * (m + n + 1) + 1 ≤ 3344) (hk : tl (p.cross q).normal k) (hk2 : k ≤ 3344) :
  Gives prog 38 [.func (.func 49) #[] #[u1,u2]] w fun v' w'=>Ext w w' ∧ (F2 v' (aq4 p q) (V0 p q)).p S w':=by
 have key : ∀ S' w',Up S' w' → Ext w w' → (∀ k,S' k → S k) → (∀ k,k < w.heap.size → S k → S' k) → GivesE prog 49 [u1,u2] w' (fun v w''=>Ext w' w'' ∧ TripV S' w'' v (aq4 p q) ∧ V0 p q = 0) fun ch w''=>ch = I8 (V0 p q) ∧ Ext w' w'' ∧ ¬ V0 p q = 0:=by
  intro S' w' hS' k' _ hs'
  have g1:=(D2 u1 p).keep ((D2 u1 p).mono h1 hs') (.of k')
  have g2:=(D2 u2 q).keep ((D2 u2 q).mono h2 hs') (.of k')
  by_cases hb : Q8 p q = 0
  ·obtain ⟨b1,b2⟩:=cj9 hb
   by_cases hs : T3.Same p q
   ·have e : V0 p q = 61:=by unfold V0; rw [if_pos hb,if_pos hs]
    exact (c97 (ht.to k') hS' o1 o2 g1 g2 hm hn hmn b1 b2 hs).mono (fun _ _ h=>h.elim) fun ch w'' h=>⟨by rw [e]; exact h.1,h.2,by rw [e]; decide⟩
   have e : V0 p q = 0:=by unfold V0; rw [if_pos hb,if_neg hs]
   have e2 : aq4 p q = (p.cross q).normal:=by unfold aq4; rw [if_pos e]
   exact Gives.toE ((c41 (ht.to k') hS' o1 o2 g1 g2 hm hn hmn hk hk2 b1 b2 hs).mono fun v w'' h=>⟨h.1,by rw [e2]; exact h.2,e⟩)
  have e : V0 p q = Q8 p q:=by unfold V0; rw [if_neg hb]
  exact (cy8 (ht.to k') hS' o1 o2 g1 g2 (F3 hm) (F3 hn) hb).mono (fun _ _ h=>h.elim) fun ch w'' h=>⟨by rw [e]; exact h.1,h.2,by rw [e]; exact hb⟩
 refine (ax6 (F:=49) (cap:=[u1,u2]) hS key).mono ?_
 rintro v' w' ⟨k',⟨x,rfl,h,e⟩ | ⟨rfl,e⟩⟩
 ·exact ⟨k',by rw [e]; rfl,h⟩
 exact ⟨k',rfl,by unfold aq4; rw [if_neg e]; exact b52⟩
theorem cl1 {S : Nat → Prop} {w : World} {vp vq : Value} {p q : T3} {m n k : Nat} (ht : Tab w) (hS : Up S w) (hp : TripV S w vp p) (hq : TripV S w vq q) (hm : tl p m) (hn : tl q n) (hmn : 2 * (m + n + 1) + 1 ≤ 3344) (hk : tl (p.cross q).normal k) (hk2 : k ≤ 3344) :
  Gives prog 11 [vp,vq] w fun v' w'=>Ext w w' ∧ (F2 v' (aq4 p q) (V0 p q)).p S w':=by
 refine n8 (E:=env) (S0:=S) (G:=((o8 vp (p)).and (o8 vq (q)))) (l:=[.one (.ag 9 vp),.one (.ag 9 vq)]) func11 rfl rfl rfl ⟨hp.ok,hq.ok,trivial⟩ rfl ⟨hp,hq⟩ ?_
 refine o5 (K3 0 43 ([.ag 9 vp]) (fun u1=>?_))
 refine o5 (K3 1 43 ([.ag 9 vq]) (fun u2=>?_))
 refine B0 (fun x0=>pr (.ag 9 (A8 x0)) (.int .i64 ((V0 p q)))) (fun x0=>F2 x0 ((aq4 p q)) ((V0 p q))) (fun _ _ _ h=>bj8 h) (fun β S w hS hs hw hG=>(kx (cz9 (ht.to hw) hS (L6 hG.2.1) (L6 hG.1) (X8 hG.2.1 hG.2.2.1) (X8 hG.1 hG.2.2.2) hm hn hmn hk hk2))) ?_
 intro r
 exact o6 (.tuple #[A8 r,.int .i64 (V0 p q)]) rfl (fun S w hs hw hG=>⟨hw,rfl,hG.1.2.mono fun k _ hk=>hs k hk⟩)
theorem b81 {w : World} {g1 g2 : Nat} : GivesD prog 108 [.pointer (some ⟨g1,0,none⟩),.pointer (some ⟨g2,0,none⟩)] .returning w fun u' w'=>u' = .returning ∧ w' = w:=by
 refine E8 func108 rfl rfl rfl rfl rfl (.inl ⟨rfl,rfl,rfl⟩) ?_
 repeat (first | refine O9 rfl ?_ | refine wW ?_ | refine wp_skip ?_ | refine wp_cond_false rfl ?_)
 exact ⟨[],rfl,rfl,rfl⟩
theorem b41 {w : World} {g1 g2 : Nat} {e1 e : Value} {E : Int} (h1 : Blk w g1 4 [e1]) (h2 : Blk w g2 44 [e]) :
  GivesD prog 108 [.pointer (some ⟨g1,0,none⟩),.pointer (some ⟨g2,0,none⟩)] (.panicking (I8 E)) w fun u' w'=>settle u' = .returning ∧
   Keeps (fun k=>k ≠ g1 ∧ k ≠ g2) w w' ∧ Blk w' g1 4 [.bool false] ∧ Blk w' g2 44 [.int .i64 E]:=by
 have hne : g1 ≠ g2:=h1.ne h2 (by decide)
 refine E8 func108 rfl rfl rfl rfl rfl (.inr ⟨_,rfl,rfl,rfl⟩) ?_
 repeat (first | refine aa0 rfl ?_ | refine ap1 rfl ?_ | refine wW ?_ | refine B4 rfl rfl ?_ | refine wp_cond_true rfl ?_)
 refine q8 (cs:=[.int .i64 0]) rfl ?_
 intro w1 g3 k1 hg3 hgs3
 have hl1:=h1.lt
 have hl2:=h2.lt
 refine z8 (us:=[.int .i64 E]) rfl (by conv=>(lhs; whnf)) rfl rfl hg3 rfl (fun v hv=>by rw [List.mem_singleton.1 hv]; rfl) ?_
 intro w2 k2 hg32
 have k : Ext w w2:=Keeps.past k1 k2 hgs3
 have hg33:=hg32
 repeat (first | refine av0 rfl ?_ | refine wW ?_ | refine d7 ?_ | refine wp_skip ?_ | refine wp_cond_false rfl ?_)
 have hl3:=hg32.lt
 refine aj3 (R:=OneW g1 4 [e1] [.bool false]) 4 OneW.trans OneW.drew (by kernel_rfl) (by kernel_rfl) ?_
 apply D4
 ·intro x w1 k1 hd
  refine ch2 rfl ?_
  refine b8 ?_
  exact N5 OneW.refl
 apply D4
 ·intro x w1 k1 hd
  refine j5 rfl ?_
  refine b8 ?_
  exact N5 OneW.refl
 apply D4
 ·intro x w1 k1 hd
  refine f5 rfl (hg33.wr k1.1 (by omega)) rfl ?_
  refine b8 ?_
  exact N5 OneW.refl
 refine D4 (e:=EntR.of (fun v w=>Blk w g1 4 [.bool false]) (fun v w w' h k=>k.2.2 h)) ?_ ?_
 ·intro x w1 k1 hd
  rcases k1.2.1 (.inl (h1.to k)) with hgx | hgx
  ·refine J4 (u:=.bool false) rfl rfl hgx (show 0 < 1 by decide) rfl ?_
   intro w12 k12 hg12
   exact b8 (R8 (OneW.wrote k12 hg12) hg12)
  refine J4 (u:=.bool false) rfl rfl hgx (show 0 < 1 by decide) rfl ?_
  intro w12 k12 hg12
  exact b8 (R8 (OneW.wrote k12 hg12) hg12)
 refine az5 (a29 ?_)
 intro x w12 k12 hall
 have h14 : Blk w12 g1 4 [.bool false]:=hall.1
 refine J4 (u:=.int .i64 E) rfl rfl ((h2.to k).wr k12.1 (fun e=>hne e.symm)) (show 0 < 1 by decide) rfl ?_
 intro w5 k5 h25
 repeat (first | refine b8 ?_)
 refine ⟨[],rfl,rfl,?_,h14.wr k5 hne,h25⟩
 exact ((Keeps.of k).trans (k12.1.mono fun i hi=>hi.1)).trans (k5.mono fun i hi=>hi.2)
theorem cd3 {S : Nat → Prop} {w : World} {F : FuncId} [ci : CallI prog F] {cap : List Value} {b : Bool} {E : Int} {Y Z : Prop} (hS : Up S w)
  (h : ∀ S' w',Up S' w' → Ext w w' → (∀ k,S' k → S k) → (∀ k,k < w.heap.size → S k → S' k) → GivesE prog F cap w' (fun v w''=>Ext w' w'' ∧ v = .bool b ∧ Y) fun ch w''=>ch = I8 E ∧ Ext w' w'' ∧ Z) :
  Gives prog 51 [.func (.func F) #[] cap.toArray] w fun v' w'=>Ext w w' ∧ ((v' = .tuple #[.bool b,.int .i64 0] ∧ Y) ∨ (v' = .tuple #[.bool false,.int .i64 E] ∧ Z)):=by
 refine P6 func51 rfl rfl rfl ?_
 refine az6 ?_
 repeat (first | refine Z0 ?_)
 refine q8 (cs:=[.bool false]) rfl ?_
 intro w1 g1 k1 hg1 hgs1
 skip
 refine q8 (cs:=[.int .i64 0]) rfl ?_
 intro w2 g2 k2 hg2 hgs2
 have hgl:=hg1.lt
 have hgl2:=hg2.lt
 replace hg1:=hg1.to k2
 have k:=k1.trans k2
 have hk1:=k1.size
 have hk2:=k2.size
 have hS2 : Up (fun k=>S k ∧ k ≠ g1 ∧ k ≠ g2) w2:=fun i hi=>⟨hS i (by omega),by omega,by omega⟩
 have hc:=h (fun k=>S k ∧ k ≠ g1 ∧ k ≠ g2) w2 hS2 k (fun _ h=>h.1) (fun i hi hs=>⟨hs,by omega,by omega⟩)
 repeat refine wW ?_
 refine S3 ?_
 refine ay8 ?_ (fun e a ρ w hm hq=>ap0 hm hq)
 repeat refine wW ?_
 refine aq0 (first:=[]) (cap:=cap) rfl hc rfl ?_ ?_
 ·rintro v3 w3 ⟨k3,rfl,hy⟩
  skip
  refine J4 (u:=.bool b) rfl rfl (hg1.to k3) (show 0 < 1 by decide) rfl ?_
  intro w4 k4 hg4
  have hg24:=(hg2.to k3).wr k4 (by omega)
  refine J4 (u:=.int .i64 0) rfl rfl hg24 (show 0 < 1 by decide) rfl ?_
  intro w5 k5 hg5
  have hg45:=hg4.wr k5 (by omega)
  repeat refine wW ?_
  refine b81.mono ?_
  rintro u' w' ⟨rfl,rfl⟩
  refine ⟨rfl,[.bool b,.int .i64 0],⟨_,_,N1 (by conv=>(lhs; whnf)) hg45,⟨_,_,N1 (by conv=>(lhs; whnf)) hg5,rfl,rfl⟩,rfl⟩,?_⟩
  exact ⟨((Keeps.past (k.trans k3) k4 (by omega)).past k5 (by omega)),.inl ⟨rfl,hy⟩⟩
 rintro ch w3 ⟨rfl,k3,hf⟩
 refine L3 ?_
 refine (b41 (hg1.to k3) (hg2.to k3)).mono ?_
 rintro u' w' ⟨hu,k4,h1,h2⟩
 refine ⟨hu,[.bool false,.int .i64 E],⟨_,_,N1 (by conv=>(lhs; whnf)) h1,⟨_,_,N1 (by conv=>(lhs; whnf)) h2,rfl,rfl⟩,rfl⟩,?_⟩
 exact ⟨Keeps.later (k.trans k3) k4 (fun i hi _=>⟨by omega,by omega⟩),.inr ⟨rfl,hf⟩⟩
def OnP (p q : T3) : Prop:=Q8 p q = 0 ∧ p.dot q = 0
theorem dt0 {S : Nat → Prop} {w : World} {u1 u2 : Value} {p q : T3} {m n : Nat} (ht : Tab w) (hS : Up S w) (o1 : u1.oneCell' = true) (o2 : u2.oneCell' = true) (h1 : (D2 u1 p).p S w) (h2 : (D2 u2 q).p S w) (hm : tl p m) (hn : tl q n) (hmn : 3 * (m + n + 1) + 1 ≤ 3344) :
  Gives prog 51 [.func (.func 52) #[] #[u1,u2]] w fun v' w'=>Ext w w' ∧ v' = .tuple #[.bool (tst (OnP p q)),.int .i64 (Q8 p q)]:=by
 have key : ∀ S' w',Up S' w' → Ext w w' → (∀ k,S' k → S k) → (∀ k,k < w.heap.size → S k → S' k) → GivesE prog 52 [u1,u2] w' (fun v w''=>Ext w' w'' ∧ v = .bool (tst (OnP p q)) ∧ Q8 p q = 0) fun ch w''=>ch = I8 (Q8 p q) ∧ Ext w' w'' ∧ ¬ Q8 p q = 0:=by
  intro S' w' hS' k' _ hs'
  have g1:=(D2 u1 p).keep ((D2 u1 p).mono h1 hs') (.of k')
  have g2:=(D2 u2 q).keep ((D2 u2 q).mono h2 hs') (.of k')
  by_cases hb : Q8 p q = 0
  ·obtain ⟨b1,b2⟩:=cj9 hb
   exact Gives.toE ((dt3 (ht.to k') hS' o1 o2 g1 g2 hm hn hmn b1 b2).mono fun v w'' h=>⟨h.2,by rw [h.1]; congr 1; exact congrArg tst (propext ⟨fun e=>⟨hb,e⟩,fun e=>e.2⟩),hb⟩)
  exact (dr2 (ht.to k') hS' o1 o2 g1 g2 (F3 hm) (F3 hn) hb).mono (fun _ _ h=>h.elim) fun ch w'' h=>⟨h.1,h.2,hb⟩
 refine (cd3 (F:=52) (cap:=[u1,u2]) hS key).mono ?_
 rintro v' w' ⟨k',⟨rfl,e⟩ | ⟨rfl,e⟩⟩
 ·exact ⟨k',by rw [e]⟩
 exact ⟨k',by rw [l7 fun h : OnP p q=>e h.1]⟩
theorem b77 {S : Nat → Prop} {w : World} {vp vq : Value} {p q : T3} {m n : Nat} (ht : Tab w) (hS : Up S w) (hp : TripV S w vp p) (hq : TripV S w vq q) (hm : tl p m) (hn : tl q n) (hmn : 3 * (m + n + 1) + 1 ≤ 3344) :
  Gives prog 12 [vp,vq] w fun v' w'=>v' = .tuple #[.bool (tst (OnP p q)),.int .i64 (Q8 p q)] ∧ Ext w w':=by
 refine n8 (E:=env) (S0:=S) (G:=((o8 vp (p)).and (o8 vq (q)))) (l:=[.one (.ag 9 vp),.one (.ag 9 vq)]) func12 rfl rfl rfl ⟨hp.ok,hq.ok,trivial⟩ rfl ⟨hp,hq⟩ ?_
 refine o5 (K3 0 43 ([.ag 9 vp]) (fun u1=>?_))
 refine o5 (K3 1 43 ([.ag 9 vq]) (fun u2=>?_))
 refine B6 (pr (.tp (OnP p q)) (.int .i64 (Q8 p q))) rfl (fun β S w hS hs hw hG=>(kx ((dt0 (ht.to hw) hS (L6 hG.2.1) (L6 hG.1) (X8 hG.2.1 hG.2.2.1) (X8 hG.1 hG.2.2.2) hm hn hmn).mono fun _ _ h=>⟨h.2,h.1⟩))) ?_
 exact o6 (.tuple #[.bool (tst (OnP p q)),.int .i64 (Q8 p q)]) rfl (fun S w hs hw hG=>⟨rfl,hw⟩)
def T3.at (l : List T3) (i : Nat) : T3:=l.getD i ⟨0,0,0⟩
theorem bp9 {l : List T3} (h : I2 l = 0) : ∀ t ∈ l,D9 t = 0:=by
 induction l with
 | nil=>intro t ht; cases ht
 | cons a r ih=>
  unfold I2 at h
  split at h
  ·intro t ht
   rcases List.mem_cons.1 ht with rfl | ht
   ·assumption
   exact ih h t ht
  exact absurd h ‹_›
theorem b97 {l : List T3} (h : ¬ I2 l = 0) : ∃ n,n < l.length ∧ D9 (l.getD n ⟨0,0,0⟩) = I2 l ∧ ∀ i,i < n → D9 (l.getD i ⟨0,0,0⟩) = 0:=by
 induction l with
 | nil=>exact absurd rfl h
 | cons a r ih=>
  unfold I2 at h ⊢
  split
  ·rename_i e
   rw [if_pos e] at h
   obtain ⟨n,h1,h2,h3⟩:=ih h
   refine ⟨n + 1,by simpa using h1,by simpa using h2,fun i hi=>?_⟩
   cases i with
   | zero=>simpa using e
   | succ i=>simpa using h3 i (by omega)
  exact ⟨0,by simp,by simp,fun i hi=>absurd hi (Nat.not_lt_zero _)⟩
theorem cf4 {S : Nat → Prop} {w : World} {v : Value} {l : List T3} (ht : Tab w) (hS : Up S w) (h : SeqV true 9 ay0 S w v l) (hl : ∀ t ∈ l,tl t 1000000) (hk : ¬ I2 l = 0) : Pan prog 40 [v] w (I8 (I2 l)):=by
 obtain ⟨n,h1,h2,h3⟩:=b97 hk
 rw [← h2]
 exact at7 ht hS h hl h1 (by rw [h2]; exact hk) h3
theorem b29 {S : Nat → Prop} {w : World} {vp vq vr : Value} {p q r : T3} {m : Nat} (hS : Up S w) (hp : TripV S w vp p) (hq : TripV S w vq q) (hr : TripV S w vr r) (hm : tl p m) (hn : tl q m) (hk : tl r m) (hmm : 3 * (2 * (m + m) + 1 + m + 1) + 1 ≤ 3344)
  (h1 : ¬ T3.Same p q) (h2 : ¬ T3.Same p r) (h3 : ¬ T3.Same q r) (h4 : T3.Flat p q r) :
  Gives prog 57 [vp,vq,vr] w fun v' w'=>v' = .tuple #[] ∧ Ext w w':=by
 refine n8 (E:=env) (S0:=S) (G:=((o8 vp (p)).and ((o8 vq (q)).and (o8 vr (r))))) (l:=[.one (.ag 9 vp),.one (.ag 9 vq),.one (.ag 9 vr)]) func57 rfl rfl rfl ⟨hp.ok,hq.ok,hr.ok,trivial⟩ rfl ⟨hp,hq,hr⟩ ?_
 refine B6 (.one (.tp (T3.Same p q))) rfl (fun β S w hS hs hw hG=>(kx (as3 hS hG.1 hG.2.1 hm hn (by omega)))) ?_
 refine ai3 (p:=T3.Same p q) 9 ⟨b9,hS,j6⟩ (by kernel_rfl) (by kernel_rfl) (h1) ?_
 refine B6 (.one (.tp (T3.Same p r))) rfl (fun β S w hS hs hw hG=>(kx (as3 hS hG.1 hG.2.2 hm hk (by omega)))) ?_
 refine ai3 (p:=T3.Same p r) 14 ⟨b9,hS,j6⟩ (by kernel_rfl) (by kernel_rfl) (h2) ?_
 refine B6 (.one (.tp (T3.Same q r))) rfl (fun β S w hS hs hw hG=>(kx (as3 hS hG.2.1 hG.2.2 hn hk (by omega)))) ?_
 refine ai3 (p:=T3.Same q r) 19 ⟨b9,hS,j6⟩ (by kernel_rfl) (by kernel_rfl) (h3) ?_
 refine B6 (.one (.tp (T3.Flat p q r))) rfl (fun β S w hS hs hw hG=>(kx (bc8 hS hG.1 hG.2.1 hG.2.2 hm hn hk hmm))) ?_
 refine ad2 (p:=¬ T3.Flat p q r) (fun h=>h h4) ?_
 exact o6 (.tuple #[]) rfl (fun S w hs hw hG=>⟨rfl,hw⟩)
theorem dc1 {S : Nat → Prop} {w : World} {vp vq vr : Value} {p q r : T3} {m : Nat} (hS : Up S w) (hp : TripV S w vp p) (hq : TripV S w vq q) (hr : TripV S w vr r) (hm : tl p m) (hn : tl q m) (hk : tl r m) (hmm : 3 * (2 * (m + m) + 1 + m + 1) + 1 ≤ 3344)
  (hx : T3.Same p q ∨ T3.Same p r ∨ T3.Same q r ∨ ¬ T3.Flat p q r) :
  Pan prog 57 [vp,vq,vr] w (I8 61):=by
 refine L8 (E:=env) (S0:=S) (G:=((o8 vp (p)).and ((o8 vq (q)).and (o8 vr (r))))) (l:=[.one (.ag 9 vp),.one (.ag 9 vq),.one (.ag 9 vr)]) func57 rfl rfl rfl ⟨hp.ok,hq.ok,hr.ok,trivial⟩ rfl ⟨hp,hq,hr⟩ ?_
 refine B6 (.one (.tp (T3.Same p q))) rfl (fun β S w hS hs hw hG=>(kx (as3 hS hG.1 hG.2.1 hm hn (by omega)))) ?_
 refine S6 (p:=T3.Same p q) 9 (fun g1=>?_) (fun g1=>?_)
 ·exact s_X ⟨b9,hS,j6⟩ (by kernel_rfl) (by kernel_rfl) (fun β S w hS hs hw hG=>(kx (Q7 (ac2 (e:=61)) hw)))
 refine B6 (.one (.tp (T3.Same p r))) rfl (fun β S w hS hs hw hG=>(kx (as3 hS hG.1 hG.2.2 hm hk (by omega)))) ?_
 refine S6 (p:=T3.Same p r) 14 (fun g2=>?_) (fun g2=>?_)
 ·exact s_X ⟨b9,hS,j6⟩ (by kernel_rfl) (by kernel_rfl) (fun β S w hS hs hw hG=>(kx (Q7 (ac2 (e:=61)) hw)))
 refine B6 (.one (.tp (T3.Same q r))) rfl (fun β S w hS hs hw hG=>(kx (as3 hS hG.2.1 hG.2.2 hn hk (by omega)))) ?_
 refine S6 (p:=T3.Same q r) 19 (fun g3=>?_) (fun g3=>?_)
 ·exact s_X ⟨b9,hS,j6⟩ (by kernel_rfl) (by kernel_rfl) (fun β S w hS hs hw hG=>(kx (Q7 (ac2 (e:=61)) hw)))
 refine B6 (.one (.tp (T3.Flat p q r))) rfl (fun β S w hS hs hw hG=>(kx (bc8 hS hG.1 hG.2.1 hG.2.2 hm hn hk hmm))) ?_
 refine W0 (p:=¬ T3.Flat p q r) (hx.resolve_left g1 |>.resolve_left g2 |>.resolve_left g3) ?_
 exact s_X ⟨b9,hS,j6⟩ (by kernel_rfl) (by kernel_rfl) (fun β S w hS hs hw hG=>(kx (Q7 (ac2 (e:=61)) hw)))
theorem cf2 {S : Nat → Prop} {w : World} {u : Value} {p : T3} {m k : Nat} (ht : Tab w) (hS : Up S w) (o : u.oneCell' = true) (h : (D2 u p).p S w) (hm : tl p m) (hmm : m ≤ 1000000) (hk : tl p.normal k) (hk2 : k ≤ 3344) (hp0 : D9 p = 0) (hnn : ¬ p.None) :
  Gives prog 39 [u] w fun v' w'=>Ext w w' ∧ TripV S w' v' p.normal:=by
 refine n8 (E:=env) (S0:=S) (G:=(D2 u p)) (l:=[.one (.val u)]) func39 rfl rfl rfl ⟨o,trivial⟩ rfl h ?_
 refine o5 (r6 u 43 9 true (fun x0=>.one (.ag 9 x0)) (fun x0=>o8 x0 (p)) (fun β S w hM hw hG=>let ⟨y,e1,e2,e3⟩:=hG; ⟨S,y,e1,e2,e3⟩) ?_)
 intro x
 refine O6 (.und) rfl (fun β S w hS hM hs hw hG=>(kx (U9 (ht.to hw) (x9 hS) (H3 (l:=[p]) 1 43 [x] hM (by kernel_rfl) ⟨rfl,fun y hy=>by rw [List.mem_singleton.1 hy]; exact hG.1.lies,fun i t y h1 h2=>by cases i with | zero=>(simp at h1 h2; subst h1 h2; exact hG.1) | succ i=>simp at h1⟩ (show 1 ≤ maxLen by decide)) (fun t ht=>by rw [List.mem_singleton.1 ht]; exact bq7 hm hmm) (fun t ht=>by rw [List.mem_singleton.1 ht]; exact hp0)))) ?_
 refine o5 (r6 u 43 9 true (fun x0=>.one (.ag 9 x0)) (fun x0=>o8 x0 (p)) (fun β S w hM hw hG=>let ⟨y,e1,e2,e3⟩:=hG.2; ⟨S,y,e1,e2,e3⟩) ?_)
 intro y
 refine B0 (fun x0=>.one (.ag 9 x0)) (fun x0=>o8 x0 (p.normal)) (fun _ _ _ h=>⟨h.ok,rfl⟩) (fun β S w hS hs hw hG=>(kx (ar7 hS hG.1 hnn (F3 hm) (bd5 hk hk2)))) ?_
 intro r
 exact o6 (r) rfl (fun S w hs hw hG=>⟨hw,hG.1.mono fun k _ hk=>hs k hk⟩)
theorem d00 {v : Value} {q : Rat} {S : Nat → Prop} {w : World} (h : (bG (fun x=>qG x q) true v).p S w) : (pr (.ag 4 (M8 v 0)) (.bb true)).Ok 0 ∧ (pr (.ag 4 (M8 v 0)) (.bb true)).den (fun _=>0) = v:=⟨bq2 h.2.ok trivial,h.1.symm⟩
theorem QV.lies {S : Nat → Prop} {w : World} {v : Value} {q : Rat} (h : QV S w v q) : M2 true 4 v:=by
 obtain ⟨m,b,rfl,_⟩:=h
 exact bi5 [_,_,_,_]
abbrev qF (x : Value) (q : Rat) : Gh:=qG x q
abbrev qsG (v : Value) (l : List Rat) : Gh:=b34 true 4 qF v l
theorem getD_at {l : List Rat} {j : Nat} (h : j < l.length) : l[j]? = some (l.getD j 0):=by rw [List.getD_eq_getElem?_getD,List.getElem?_eq_getElem h]; rfl
theorem a39 {q : Rat} : q.num.sign = 0 ↔ q = 0:=by rw [Int.sign_eq_zero_iff_zero]; exact Rat.num_eq_zero
def bz1 : Value:=.agg #[.bool false,.slice none 0 0,.bool false,.slice none 0 0]
theorem d36 {S : Nat → Prop} {w : World} {v : Value} {l : List Rat} (hS : Up S w) (h : SeqV true 4 qF S w v l) (hn : af4 l) :
  Gives prog 43 [v] w fun v' w'=>v' = .tuple #[bz1,.bool false] ∧ Ext w w':=by
 have hmx:=h.len_le
 unfold maxLen at hmx
 refine n8 (E:=env) (S0:=S) (G:=(qsG v l)) (l:=[.one (.sl v l.length)]) func43 rfl rfl rfl ⟨h.sl,trivial⟩ rfl h ?_
 refine ad5 (ι:=Nat) [(3,20)] (fun j=>[(4,.one (.int .i64 (j : Int)))]) (fun _=>[]) (fun j=>(qsG v l)) (fun j=>j ≤ l.length) (fun j=>l.length - j) (0) ⟨b9,hS,j6⟩ (by kernel_rfl) (by kernel_rfl) (fun β=>(by kernel_rfl)) (fun β=>(by kernel_rfl)) (by kernel_rfl) (Nat.zero_le _) (fun S w hw hG=>⟨B5 rfl,fun p hp=>by cases hp⟩) (fun S w hw hG=>hG) (fun hso j hj=>?_)
 refine Z8 (p:=(j : Int) < (l.length : Int)) (fun hlt=>?_) (fun hlt=>?_)
 ·have hlt' : j < l.length:=by omega
  have hx0:=getD_at hlt'
  refine o5 (bf5 v l.length (j : Int) 31 4 (fun u0=>atG true 4 (fun x0=>qG x0 ((l.getD j 0))) u0) (by kernel_rfl) ⟨b9,hS,j6⟩ (fun β S w hM hw hG=>hG.el rfl rfl hx0) ?_)
  intro u_1
  refine o5 (bg8 u_1 31 4 true (fun x0=>.one (.ag 4 x0)) (fun x0=>qG x0 ((l.getD j 0))) (by kernel_rfl) ⟨b9,hS,j6⟩ (fun S w hw hG=>hG.1) (fun _ _ _ h=>⟨h.ok,rfl⟩) ?_)
  intro x
  refine B6 (.one (.int .i64 (l.getD j 0).num.sign)) rfl (fun β S w hS hs hw hG=>(kx (bx1 hG.1))) ?_
  refine ad2 (p:=¬ (l.getD j 0).num.sign = 0) (fun e=>hn ⟨l.getD j 0,List.mem_of_getElem? hx0,fun g=>e (a39.2 g)⟩) ?_
  refine am7 (ps:=[InR .i64 ((j : Int) + 1)]) (by simp only [K7,InR,and_true]; omega) ?_
  exact Y0 (j + 1) ⟨b9,hS,j6⟩ hso (by kernel_rfl) (by kernel_rfl) (fun β=>(by kernel_rfl)) (fun β=>(by kernel_rfl)) (by kernel_rfl) (by omega) (by omega) (fun S w hw hG=>⟨B5 rfl,fun p hp=>by cases hp⟩) (fun S w hw hG=>hG.2.2)
 refine ag6 ?_
 exact o6 (.tuple #[bz1,.bool false]) rfl (fun S w hs hw hG=>⟨rfl,hw⟩)
abbrev nzG (v : Value) (n : Nat) : Gh:=⟨fun S w=>s7 S 3 .i64 w v n,fun h k=>h.keep k,fun h k=>h.mono k⟩
theorem cq0 {S : Nat → Prop} {w : World} {v : Value} {q : Rat} (hS : Up S w) (h : QV S w v q) (hl : rl q 1000000) :
  Gives prog 99 [v,.int .i64 40] w fun v' w'=>v' = .bool (tst (Y4 q)) ∧ Ext w w':=by
 obtain ⟨m,b,rfl,hm,hb⟩:=h
 refine n8 (E:=env) (S0:=S) (G:=((nzG m q.num.natAbs).and (nzG b q.den))) (l:=[.agg [.tp (q.num < 0),.val m,.tp ((q.den : Int) < 0),.val b],.one (.lit .i64 40)]) func99 rfl rfl rfl ⟨H0 ⟨trivial,hm.one,trivial,hb.one,trivial⟩,trivial,trivial⟩ rfl ⟨hm,hb⟩ ?_
 refine B6 (.one (.int .i64 (Lib.nDigits q.num.natAbs : Nat))) rfl (fun β S w hS hs hw hG=>(kx (c26 hG.1 (Nat.le_trans hl.1 (by decide))))) ?_
 refine S6 (p:=(40 : Int) < ((Lib.nDigits q.num.natAbs : Nat) : Int)) 11 (fun h4=>?_) (fun h4=>?_)
 ·exact o6 (.bool true) rfl (fun S w hs hw hG=>⟨by rw [m6 (show Y4 q from .inl (by omega))],hw⟩)
 refine B6 (.one (.int .i64 (Lib.nDigits q.den : Nat))) rfl (fun β S w hS hs hw hG=>(kx (c26 hG.2 (Nat.le_trans (show dl q.den ≤ 1000000 from hl.2) (by decide))))) ?_
 exact o6 (.bool (tst ((40 : Int) < ((Lib.nDigits q.den : Nat) : Int)))) rfl (fun S w hs hw hG=>⟨by rw [show Y4 q = ((40 : Int) < ((Lib.nDigits q.den : Nat) : Int)) from propext ⟨fun h=>by rcases h with h | h <;> omega,fun h=>.inr (by omega)⟩],hw⟩)
theorem bv9 {S : Nat → Prop} {w : World} {v : Value} {l : List Rat} (hS : Up S w) (h : SeqV true 4 qF S w v l) (hl : ∀ x ∈ l,rl x 1000000) :
  Gives prog 44 [v] w fun v' w'=>v' = .bool (tst (am6 l)) ∧ Ext w w':=by
 have hmx:=h.len_le
 unfold maxLen at hmx
 refine n8 (E:=env) (S0:=S) (G:=(qsG v l)) (l:=[.one (.sl v l.length)]) func44 rfl rfl rfl ⟨h.sl,trivial⟩ rfl h ?_
 refine ad5 (ι:=Nat) [(2,14)] (fun j=>[(3,.one (.int .i64 (j : Int)))]) (fun _=>[]) (fun j=>(qsG v l)) (fun j=>j ≤ l.length ∧ ∀ i,i < j → ¬ Y4 (l.getD i 0)) (fun j=>l.length - j) (0) ⟨b9,hS,j6⟩ (by kernel_rfl) (by kernel_rfl) (fun β=>(by kernel_rfl)) (fun β=>(by kernel_rfl)) (by kernel_rfl) (⟨Nat.zero_le _,fun _ h=>absurd h (Nat.not_lt_zero _)⟩) (fun S w hw hG=>⟨B5 rfl,fun p hp=>by cases hp⟩) (fun S w hw hG=>hG) (fun hso j hj=>?_)
 refine Z8 (p:=(j : Int) < (l.length : Int)) (fun hlt=>?_) (fun hlt=>?_)
 ·have hlt' : j < l.length:=by omega
  have hx0:=getD_at hlt'
  have hm:=List.mem_of_getElem? hx0
  refine o5 (bf5 v l.length (j : Int) 31 4 (fun u0=>atG true 4 (fun x0=>qG x0 ((l.getD j 0))) u0) (by kernel_rfl) ⟨b9,hS,j6⟩ (fun β S w hM hw hG=>hG.el rfl rfl hx0) ?_)
  intro u_1
  refine o5 (bg8 u_1 31 4 true (fun x0=>.one (.ag 4 x0)) (fun x0=>qG x0 ((l.getD j 0))) (by kernel_rfl) ⟨b9,hS,j6⟩ (fun S w hw hG=>hG.1) (fun _ _ _ h=>⟨h.ok,rfl⟩) ?_)
  intro x
  refine B6 (.one (.tp (Y4 (l.getD j 0)))) rfl (fun β S w hS hs hw hG=>(kx (cq0 hS hG.1 (hl _ hm)))) ?_
  refine Z8 (p:=Y4 (l.getD j 0)) (fun hlr=>?_) (fun hlr=>?_)
  ·refine ag6 ?_
   exact o6 (.bool true) rfl (fun S w hs hw hG=>⟨by rw [m6 (show am6 l from ⟨_,hm,hlr⟩)],hw⟩)
  refine am7 (ps:=[InR .i64 ((j : Int) + 1)]) (by simp only [K7,InR,and_true]; omega) ?_
  exact Y0 (j + 1) ⟨b9,hS,j6⟩ hso (by kernel_rfl) (by kernel_rfl) (fun β=>(by kernel_rfl)) (fun β=>(by kernel_rfl)) (by kernel_rfl) (⟨by omega,fun i hi=>(Nat.lt_or_ge i j).elim (fun h=>hj.2 i h) fun h=>(by have e : i = j:=(by omega); rw [e]; exact hlr)⟩) (by omega) (fun S w hw hG=>⟨B5 rfl,fun p hp=>by cases hp⟩) (fun S w hw hG=>hG.2.2)
 refine ag6 ?_
 exact o6 (.bool false) rfl (fun S w hs hw hG=>⟨by rw [l7 fun g : am6 l=>(let ⟨x,hx,hr⟩:=g; (by obtain ⟨i,hi,rfl⟩:=List.mem_iff_getElem.1 hx; exact hj.2 i (by omega) (by rw [List.getD_eq_getElem?_getD,List.getElem?_eq_getElem hi]; exact hr)))],hw⟩)
theorem ca1 {a b c : Value} : (ap8 a b c).cells.toList = A3 [a,b,c]:=by
 simp [ap8,SV.den,d6,Ch.cells,Value.cells,A3]
theorem QV.okc {S : Nat → Prop} {w : World} {v : Value} {q : Rat} {m : Nat} (h : QV S w v q) : (Ch.ag 4 v).Ok m:=h.ok
theorem mkRat_one (a : Int) : mkRat (a * (1 : Int).sign) (1 : Int).natAbs = (a : Rat):=by
 rw [show (1 : Int).sign = 1 from rfl,Int.mul_one,show (1 : Int).natAbs = 1 from rfl]
 rw [Rat.mkRat_one]
theorem H6 {S : Nat → Prop} {w : World} {a : Int} (hS : Up S w) (h0 : -9223372036854775808 ≤ a) (h1 : a ≤ 9223372036854775807) :
  Gives prog 14 [.int .i64 a,.int .i64 1] w fun v' w'=>Ext w w' ∧ QV S w' v' (a : Rat):=by
 have h:=dg8 (b:=1) hS h0 h1 (by decide) (by decide) (by decide) (L5 (k:=3) (by omega)) (L5 (k:=3) (by decide))
 rwa [mkRat_one] at h
theorem af1 {S : Nat → Prop} {w : World} (hS : Up S w) : Gives prog 14 [.int .i64 0,.int .i64 1] w fun v' w'=>Ext w w' ∧ QV S w' v' (0 : Rat):=H6 (a:=0) hS (by decide) (by decide)
theorem dt9 (n : Nat) : rl (0 : Rat) (n + 1):=⟨Nat.le_trans (L5 (k:=0) (show 0 < 1000000000 ^ 0 by decide)) (Nat.zero_le _),Nat.le_trans (L5 (k:=1) (show 1 < 1000000000 ^ 1 by decide)) (by omega)⟩
theorem d90 (p q : T3) : 0 + p.x * q.x + p.y * q.y + p.z * q.z = p.dot q:=by unfold T3.dot; grind
theorem bu2 {S : Nat → Prop} {w : World} {vp vq : Value} {p q : T3} {m n : Nat} (hS : Up S w) (hp : QTripV S w vp p) (hq : QTripV S w vq q) (hm : tl p m) (hn : tl q n) (hmn : m + n ≤ 1000000) :
  Gives prog 73 [vp,vq] w fun v' w'=>Ext w w' ∧ QV S w' v' (p.dot q):=by
 obtain ⟨a1,b1,c1,rfl,ha1,hb1,hc1⟩:=hp
 obtain ⟨a2,b2,c2,rfl,ha2,hb2,hc2⟩:=hq
 refine n8 (E:=env) (S0:=S) (G:=((qG a1 p.x).and ((qG b1 p.y).and ((qG c1 p.z).and ((qG a2 q.x).and ((qG b2 q.y).and (qG c2 q.z))))))) (l:=[.agg [.ag 4 a1,.ag 4 b1,.ag 4 c1],.agg [.ag 4 a2,.ag 4 b2,.ag 4 c2]]) func73 rfl rfl rfl ⟨H0 ⟨ha1.okc,hb1.okc,hc1.okc,trivial⟩,H0 ⟨ha2.okc,hb2.okc,hc2.okc,trivial⟩,trivial⟩ rfl ⟨ha1,hb1,hc1,ha2,hb2,hc2⟩ ?_
 refine B0 (fun x0=>.one (.ag 4 x0)) (fun x0=>qG x0 ((0 : Rat))) (fun _ _ _ h=>⟨h.ok,rfl⟩) (fun β S w hS hs hw hG=>(kx (af1 hS))) ?_
 intro z
 refine n9 ?_
 refine j7 9 ?_
 refine b7 7 ?_
 refine o9 (fun x0=>.one (.ag 4 x0)) (fun x0=>qG x0 ((p.x * q.x))) (fun β η S w hS hs hw hG hd=>(kx (E9 hS hG.2.1 hG.2.2.2.2.1 (j9 hm.1) (j9 hn.1)))) ?_
 refine o9 (fun x0=>.one (.ag 4 x0)) (fun x0=>qG x0 ((0 + p.x * q.x))) (fun β η S w hS hs hw hG hd=>(kx (ac1 hS hG.1 (p6 hd 7 : (qG (η 7) ((p.x * q.x))).p S w) (s6 (dt9 1) (by decide)) (j9 (q9 hm.1 hn.1))))) ?_
 refine j3 [true,false] ((qG b1 p.y).and ((qG c1 p.z).and ((qG b2 q.y).and ((qG c2 q.z).and (Gh.nil))))) (by exact fun _ _ h=>⟨h.2.2.1,h.2.2.2.1,h.2.2.2.2.2.1,h.2.2.2.2.2.2,trivial⟩) (fun g η=>(qG (η 8) ((0 + p.x * q.x))).and g) (fun g η=>(by kernel_rfl)) ?_
 intro η_1
 refine j7 9 ?_
 refine b7 7 ?_
 refine o9 (fun x0=>.one (.ag 4 x0)) (fun x0=>qG x0 ((p.y * q.y))) (fun β η S w hS hs hw hG hd=>(kx (E9 hS hG.2.1 hG.2.2.2.1 (j9 hm.2.1) (j9 hn.2.1)))) ?_
 refine o9 (fun x0=>.one (.ag 4 x0)) (fun x0=>qG x0 ((0 + p.x * q.x + p.y * q.y))) (fun β η S w hS hs hw hG hd=>(kx (ac1 hS hG.1 (p6 hd 7 : (qG (η 7) ((p.y * q.y))).p S w) (j9 (ah1 (dt9 1) (q9 hm.1 hn.1))) (j9 (q9 hm.2.1 hn.2.1))))) ?_
 refine j3 [true,false] ((qG c1 p.z).and ((qG c2 q.z).and (Gh.nil))) (by exact fun _ _ h=>⟨h.2.2.1,h.2.2.2.2.1,trivial⟩) (fun g η=>(qG (η 8) ((0 + p.x * q.x + p.y * q.y))).and g) (fun g η=>(by kernel_rfl)) ?_
 intro η_2
 refine j7 9 ?_
 refine b7 7 ?_
 refine o9 (fun x0=>.one (.ag 4 x0)) (fun x0=>qG x0 ((p.z * q.z))) (fun β η S w hS hs hw hG hd=>(kx (E9 hS hG.2.1 hG.2.2.1 (j9 hm.2.2) (j9 hn.2.2)))) ?_
 refine o9 (fun x0=>.one (.ag 4 x0)) (fun x0=>qG x0 ((0 + p.x * q.x + p.y * q.y + p.z * q.z))) (fun β η S w hS hs hw hG hd=>(kx (ac1 hS hG.1 (p6 hd 7 : (qG (η 7) ((p.z * q.z))).p S w) (j9 (ah1 (ah1 (dt9 1) (q9 hm.1 hn.1)) (q9 hm.2.1 hn.2.1))) (j9 (q9 hm.2.2 hn.2.2))))) ?_
 refine j3 [true,false] (Gh.nil) (by exact fun _ _ h=>trivial) (fun g η=>(qG (η 8) ((0 + p.x * q.x + p.y * q.y + p.z * q.z))).and g) (fun g η=>(by kernel_rfl)) ?_
 intro η_3
 exact o6 ((η_3 8)) rfl (fun S w hs hw hG=>⟨hw,by rw [← d90]; exact hG.1.mono fun k _ hk=>hs k hk⟩)
theorem b61 {S : Nat → Prop} {w : World} {vp vq : Value} {p q : T3} {m n : Nat} (hS : Up S w) (hp : QTripV S w vp p) (hq : QTripV S w vq q) (hm : tl p m) (hn : tl q n) (hmn : m + n ≤ 1000000) :
  Gives prog 80 [vp,vq] w fun v' w'=>Ext w w' ∧ QTripV S w' v' (p.cross q):=by
 obtain ⟨a1,b1,c1,rfl,ha1,hb1,hc1⟩:=hp
 obtain ⟨a2,b2,c2,rfl,ha2,hb2,hc2⟩:=hq
 refine n8 (E:=env) (S0:=S) (G:=((qG a1 p.x).and ((qG b1 p.y).and ((qG c1 p.z).and ((qG a2 q.x).and ((qG b2 q.y).and (qG c2 q.z))))))) (l:=[.agg [.ag 4 a1,.ag 4 b1,.ag 4 c1],.agg [.ag 4 a2,.ag 4 b2,.ag 4 c2]]) func80 rfl rfl rfl ⟨H0 ⟨ha1.okc,hb1.okc,hc1.okc,trivial⟩,H0 ⟨ha2.okc,hb2.okc,hc2.okc,trivial⟩,trivial⟩ rfl ⟨ha1,hb1,hc1,ha2,hb2,hc2⟩ ?_
 refine n9 ?_
 refine j7 17 ?_
 refine b7 7 ?_
 refine o9 (fun x0=>.one (.ag 4 x0)) (fun x0=>qG x0 ((p.y * q.z))) (fun β η S w hS hs hw hG hd=>(kx (E9 hS hG.2.1 hG.2.2.2.2.2 (j9 hm.2.1) (j9 hn.2.2)))) ?_
 refine b7 6 ?_
 refine o9 (fun x0=>.one (.ag 4 x0)) (fun x0=>qG x0 ((p.z * q.y))) (fun β η S w hS hs hw hG hd=>(kx (E9 hS hG.2.2.1 hG.2.2.2.2.1 (j9 hm.2.2) (j9 hn.2.1)))) ?_
 refine o9 (fun x0=>.one (.ag 4 x0)) (fun x0=>qG x0 ((p.y * q.z - p.z * q.y))) (fun β η S w hS hs hw hG hd=>(kx (bl9 hS (p6 hd 7 : (qG (η 7) ((p.y * q.z))).p S w) (p6 hd 14 : (qG (η 14) ((p.z * q.y))).p S w) (j9 (q9 hm.2.1 hn.2.2)) (j9 (q9 hm.2.2 hn.2.1))))) ?_
 refine b7 1 ?_
 refine j3 [true,false,false] ((qG a1 p.x).and ((qG b1 p.y).and ((qG c1 p.z).and ((qG a2 q.x).and ((qG b2 q.y).and ((qG c2 q.z).and (Gh.nil))))))) (by exact fun _ _ h=>⟨h.1,h.2.1,h.2.2.1,h.2.2.2.1,h.2.2.2.2.1,h.2.2.2.2.2,trivial⟩) (fun g η=>(qG (η 15) ((p.y * q.z - p.z * q.y))).and g) (fun g η=>(by kernel_rfl)) ?_
 intro η_1
 refine j7 17 ?_
 refine b7 7 ?_
 refine o9 (fun x0=>.one (.ag 4 x0)) (fun x0=>qG x0 ((p.z * q.x))) (fun β η S w hS hs hw hG hd=>(kx (E9 hS hG.2.2.2.1 hG.2.2.2.2.1 (j9 hm.2.2) (j9 hn.1)))) ?_
 refine b7 6 ?_
 refine o9 (fun x0=>.one (.ag 4 x0)) (fun x0=>qG x0 ((p.x * q.z))) (fun β η S w hS hs hw hG hd=>(kx (E9 hS hG.2.1 hG.2.2.2.2.2.2.1 (j9 hm.1) (j9 hn.2.2)))) ?_
 refine o9 (fun x0=>.one (.ag 4 x0)) (fun x0=>qG x0 ((p.z * q.x - p.x * q.z))) (fun β η S w hS hs hw hG hd=>(kx (bl9 hS (p6 hd 7 : (qG (η 7) ((p.z * q.x))).p S w) (p6 hd 14 : (qG (η 14) ((p.x * q.z))).p S w) (j9 (q9 hm.2.2 hn.1)) (j9 (q9 hm.1 hn.2.2))))) ?_
 refine b7 1 ?_
 refine j3 [true,false,false] ((qG (η_1 15) ((p.y * q.z - p.z * q.y))).and ((qG a1 p.x).and ((qG b1 p.y).and ((qG a2 q.x).and ((qG b2 q.y).and (Gh.nil)))))) (by exact fun _ _ h=>⟨h.1,h.2.1,h.2.2.1,h.2.2.2.2.1,h.2.2.2.2.2.1,trivial⟩) (fun g η=>(qG (η 15) ((p.z * q.x - p.x * q.z))).and g) (fun g η=>(by kernel_rfl)) ?_
 intro η_2
 refine j7 17 ?_
 refine b7 7 ?_
 refine o9 (fun x0=>.one (.ag 4 x0)) (fun x0=>qG x0 ((p.x * q.y))) (fun β η S w hS hs hw hG hd=>(kx (E9 hS hG.2.2.1 hG.2.2.2.2.2.1 (j9 hm.1) (j9 hn.2.1)))) ?_
 refine b7 6 ?_
 refine o9 (fun x0=>.one (.ag 4 x0)) (fun x0=>qG x0 ((p.y * q.x))) (fun β η S w hS hs hw hG hd=>(kx (E9 hS hG.2.2.2.1 hG.2.2.2.2.1 (j9 hm.2.1) (j9 hn.1)))) ?_
 refine o9 (fun x0=>.one (.ag 4 x0)) (fun x0=>qG x0 ((p.x * q.y - p.y * q.x))) (fun β η S w hS hs hw hG hd=>(kx (bl9 hS (p6 hd 7 : (qG (η 7) ((p.x * q.y))).p S w) (p6 hd 14 : (qG (η 14) ((p.y * q.x))).p S w) (j9 (q9 hm.1 hn.2.1)) (j9 (q9 hm.2.1 hn.1))))) ?_
 refine b7 1 ?_
 refine j3 [true,false,false] ((qG (η_2 15) ((p.z * q.x - p.x * q.z))).and ((qG (η_1 15) ((p.y * q.z - p.z * q.y))).and (Gh.nil))) (by exact fun _ _ h=>⟨h.1,h.2.1,trivial⟩) (fun g η=>(qG (η 15) ((p.x * q.y - p.y * q.x))).and g) (fun g η=>(by kernel_rfl)) ?_
 intro η_3
 exact o6 (ap8 (η_1 15) (η_2 15) (η_3 15)) rfl (fun S w hs hw hG=>⟨hw,_,_,_,rfl,hG.2.2.1.mono fun k _ hk=>hs k hk,hG.2.1.mono fun k _ hk=>hs k hk,hG.1.mono fun k _ hk=>hs k hk⟩)
abbrev qvG (x : Value) (a : Value × Rat) : Gh:=(Q5 (x = a.1)).and (qG x a.2)
abbrev qvF (x : Value) (a : Value × Rat) : Gh:=qvG x a
theorem cm4 {l : List (Value × Rat)} {j : Nat} (h : j < l.length) : l[j]? = some (l.getD j (undef,0)):=by rw [List.getD_eq_getElem?_getD,List.getElem?_eq_getElem h]; rfl
theorem bj2 {S : Nat → Prop} {w : World} {v : Value} {l : List (Value × Rat)} {p : Nat} (hS : Up S w) (h : SeqV true 4 qvF S w v l) (hpl : p < l.length) (hp0 : (l.getD p (undef,0)).2 ≠ 0) (hlow : ∀ j,j < p → (l.getD j (undef,0)).2 = 0) :
  Gives prog 43 [v] w fun v' w'=>v' = .tuple #[(l.getD p (undef,0)).1,.bool true] ∧ Ext w w':=by
 have hmx:=h.len_le
 unfold maxLen at hmx
 refine n8 (E:=env) (S0:=S) (G:=(b34 true 4 qvF v l)) (l:=[.one (.sl v l.length)]) func43 rfl rfl rfl ⟨h.sl,trivial⟩ rfl h ?_
 refine ad5 (ι:=Nat) [(3,20)] (fun j=>[(4,.one (.int .i64 (j : Int)))]) (fun _=>[]) (fun j=>(b34 true 4 qvF v l)) (fun j=>j ≤ p) (fun j=>p - j) (0) ⟨b9,hS,j6⟩ (by kernel_rfl) (by kernel_rfl) (fun β=>(by kernel_rfl)) (fun β=>(by kernel_rfl)) (by kernel_rfl) (Nat.zero_le _) (fun S w hw hG=>⟨B5 rfl,fun p hp=>by cases hp⟩) (fun S w hw hG=>hG) (fun hso j hj=>?_)
 have hlt' : j < l.length:=by omega
 have hx0:=cm4 hlt'
 refine W0 (p:=(j : Int) < (l.length : Int)) (by omega) ?_
 refine o5 (bf5 v l.length (j : Int) 31 4 (fun u0=>atG true 4 (fun x0=>qvG x0 ((l.getD j (undef,0)))) u0) (by kernel_rfl) ⟨b9,hS,j6⟩ (fun β S w hM hw hG=>hG.el rfl rfl hx0) ?_)
 intro u_1
 refine o5 (bg8 u_1 31 4 true (fun x0=>.one (.ag 4 x0)) (fun x0=>qvG x0 ((l.getD j (undef,0)))) (by kernel_rfl) ⟨b9,hS,j6⟩ (fun S w hw hG=>hG.1) (fun _ _ _ h=>⟨h.2.ok,rfl⟩) ?_)
 intro x
 refine B6 (.one (.int .i64 (l.getD j (undef,0)).2.num.sign)) rfl (fun β S w hS hs hw hG=>(kx (bx1 hG.1.2))) ?_
 by_cases e : j = p
 ·subst e
  refine W0 (p:=¬ (l.getD j (undef,0)).2.num.sign = 0) (fun g=>hp0 (a39.1 g)) ?_
  refine o5 (bf5 v l.length (j : Int) 31 4 (fun u0=>atG true 4 (fun x0=>qvG x0 ((l.getD j (undef,0)))) u0) (by kernel_rfl) ⟨b9,hS,j6⟩ (fun β S w hM hw hG=>hG.2.2.el rfl rfl hx0) ?_)
  intro u_2
  refine o5 (bg8 u_2 31 4 true (fun x0=>.one (.ag 4 x0)) (fun x0=>qvG x0 ((l.getD j (undef,0)))) (by kernel_rfl) ⟨b9,hS,j6⟩ (fun S w hw hG=>hG.1) (fun _ _ _ h=>⟨h.2.ok,rfl⟩) ?_)
  intro y
  refine ag6 ?_
  exact o6 (.tuple #[y,.bool true]) rfl (fun S w hs hw hG=>⟨by rw [hG.1.1],hw⟩)
 refine ad2 (p:=¬ (l.getD j (undef,0)).2.num.sign = 0) (fun g=>g (a39.2 (hlow j (by omega)))) ?_
 refine am7 (ps:=[InR .i64 ((j : Int) + 1)]) (by simp only [K7,InR,and_true]; omega) ?_
 exact Y0 (j + 1) ⟨b9,hS,j6⟩ hso (by kernel_rfl) (by kernel_rfl) (fun β=>(by kernel_rfl)) (fun β=>(by kernel_rfl)) (by kernel_rfl) (by omega) (by omega) (fun S w hw hG=>⟨B5 rfl,fun p hp=>by cases hp⟩) (fun S w hw hG=>hG.2.2)
theorem cy2 {S : Nat → Prop} {w : World} {v : Value} {l : List (Value × Rat)} (hS : Up S w) (h : SeqV true 4 qvF S w v l) (h0 : ∀ j,j < l.length → (l.getD j (undef,0)).2 = 0) :
  Gives prog 43 [v] w fun v' w'=>v' = .tuple #[bz1,.bool false] ∧ Ext w w':=by
 have hmx:=h.len_le
 unfold maxLen at hmx
 refine n8 (E:=env) (S0:=S) (G:=(b34 true 4 qvF v l)) (l:=[.one (.sl v l.length)]) func43 rfl rfl rfl ⟨h.sl,trivial⟩ rfl h ?_
 refine ad5 (ι:=Nat) [(3,20)] (fun j=>[(4,.one (.int .i64 (j : Int)))]) (fun _=>[]) (fun j=>(b34 true 4 qvF v l)) (fun j=>j ≤ l.length) (fun j=>l.length - j) (0) ⟨b9,hS,j6⟩ (by kernel_rfl) (by kernel_rfl) (fun β=>(by kernel_rfl)) (fun β=>(by kernel_rfl)) (by kernel_rfl) (Nat.zero_le _) (fun S w hw hG=>⟨B5 rfl,fun p hp=>by cases hp⟩) (fun S w hw hG=>hG) (fun hso j hj=>?_)
 refine Z8 (p:=(j : Int) < (l.length : Int)) (fun hlt=>?_) (fun hlt=>?_)
 ·have hlt' : j < l.length:=by omega
  have hx0:=cm4 hlt'
  refine o5 (bf5 v l.length (j : Int) 31 4 (fun u0=>atG true 4 (fun x0=>qvG x0 ((l.getD j (undef,0)))) u0) (by kernel_rfl) ⟨b9,hS,j6⟩ (fun β S w hM hw hG=>hG.el rfl rfl hx0) ?_)
  intro u_1
  refine o5 (bg8 u_1 31 4 true (fun x0=>.one (.ag 4 x0)) (fun x0=>qvG x0 ((l.getD j (undef,0)))) (by kernel_rfl) ⟨b9,hS,j6⟩ (fun S w hw hG=>hG.1) (fun _ _ _ h=>⟨h.2.ok,rfl⟩) ?_)
  intro x
  refine B6 (.one (.int .i64 (l.getD j (undef,0)).2.num.sign)) rfl (fun β S w hS hs hw hG=>(kx (bx1 hG.1.2))) ?_
  refine ad2 (p:=¬ (l.getD j (undef,0)).2.num.sign = 0) (fun g=>g (a39.2 (h0 j hlt'))) ?_
  refine am7 (ps:=[InR .i64 ((j : Int) + 1)]) (by simp only [K7,InR,and_true]; omega) ?_
  exact Y0 (j + 1) ⟨b9,hS,j6⟩ hso (by kernel_rfl) (by kernel_rfl) (fun β=>(by kernel_rfl)) (fun β=>(by kernel_rfl)) (by kernel_rfl) (by omega) (by omega) (fun S w hw hG=>⟨B5 rfl,fun p hp=>by cases hp⟩) (fun S w hw hG=>hG.2.2)
 refine ag6 ?_
 exact o6 (.tuple #[bz1,.bool false]) rfl (fun S w hs hw hG=>⟨rfl,hw⟩)
theorem qv3 {S : Nat → Prop} {w : World} {a b c : Value} {t : T3} (h1 : QV S w a t.x) (h2 : QV S w b t.y) (h3 : QV S w c t.z) : ElsV true 4 qvF S w [a,b,c] [(a,t.x),(b,t.y),(c,t.z)]:=by
 refine ⟨rfl,fun x hx=>?_,fun i q x hq hx=>?_⟩
 ·simp only [List.mem_cons,List.not_mem_nil,or_false] at hx
  rcases hx with rfl | rfl | rfl
  ·exact h1.lies
  ·exact h2.lies
  exact h3.lies
 match i with
 | 0=>simp at hq hx; subst hq hx; exact ⟨rfl,h1⟩
 | 1=>simp at hq hx; subst hq hx; exact ⟨rfl,h2⟩
 | 2=>simp at hq hx; subst hq hx; exact ⟨rfl,h3⟩
 | i + 3=>simp at hq
noncomputable def ck5 (t : T3) (a b c : Value) : Value:=if t.x ≠ 0 then a else if t.y ≠ 0 then b else c
theorem dw1 {S : Nat → Prop} {w : World} {a b c : Value} {t : T3} (h1 : QV S w a t.x) (h2 : QV S w b t.y) (h3 : QV S w c t.z) : QV S w (ck5 t a b c) t.lead:=by
 unfold ck5 T3.lead
 split
 ·exact h1
 split
 ·exact h2
 exact h3
theorem do3 {S : Nat → Prop} {w : World} {v a b c : Value} {t : T3} (hS : Up S w) (h : SeqV true 4 qvF S w v [(a,t.x),(b,t.y),(c,t.z)]) (hn : ¬ t.None) :
  Gives prog 43 [v] w fun v' w'=>v' = .tuple #[ck5 t a b c,.bool true] ∧ Ext w w':=by
 unfold ck5
 by_cases hx : t.x = 0
 ·by_cases hy : t.y = 0
  ·have hz : t.z ≠ 0:=fun hz=>hn ⟨hx,hy,hz⟩
   rw [if_neg (fun h=>h hx),if_neg (fun h=>h hy)]
   exact bj2 (p:=2) hS h (by simp) hz fun j hj=>by
    match j,hj with
    | 0,_=>exact hx
    | 1,_=>exact hy
  rw [if_neg (fun h=>h hx),if_pos hy]
  exact bj2 (p:=1) hS h (by simp) hy fun j hj=>by
   match j,hj with
   | 0,_=>exact hx
 rw [if_pos hx]
 exact bj2 (p:=0) hS h (by simp) hx fun j hj=>absurd hj (Nat.not_lt_zero _)
theorem dd2 {S : Nat → Prop} {w : World} {v a b c : Value} {t : T3} (hS : Up S w) (h : SeqV true 4 qvF S w v [(a,t.x),(b,t.y),(c,t.z)]) (hn : t.None) :
  Gives prog 43 [v] w fun v' w'=>v' = .tuple #[bz1,.bool false] ∧ Ext w w':=
 cy2 hS h fun j hj=>by
  match j,hj with
  | 0,_=>exact hn.1
  | 1,_=>exact hn.2.1
  | 2,_=>exact hn.2.2
theorem ab9 {S : Nat → Prop} {w : World} {vp : Value} {p : T3} (hS : Up S w) (hp : QTripV S w vp p) :
  Gives prog 66 [vp] w fun v' w'=>v' = .bool (tst p.None) ∧ Ext w w':=by
 obtain ⟨a,b,c,rfl,ha,hb,hc⟩:=hp
 refine n8 (E:=env) (S0:=S) (G:=((qG a p.x).and ((qG b p.y).and (qG c p.z)))) (l:=[.agg [.ag 4 a,.ag 4 b,.ag 4 c]]) func66 rfl rfl rfl ⟨H0 ⟨ha.okc,hb.okc,hc.okc,trivial⟩,trivial⟩ rfl ⟨ha,hb,hc⟩ ?_
 by_cases hn : p.None
 ·refine O6 (.tup [(true,[.bb false,.sl (.slice none 0 0) 0,.bb false,.sl (.slice none 0 0) 0]),(false,[.bb false])]) rfl (fun β S w hS hM hs hw hG=>(kx (dd2 (x9 hS) (H3 (F:=qvF) (l:=[(a,p.x),(b,p.y),(c,p.z)]) 0 33 [a,b,c] hM (by kernel_rfl) (qv3 hG.1 hG.2.1 hG.2.2) (show 3 ≤ maxLen by decide)) hn))) ?_
  exact o6 (.bool true) rfl (fun S w hs hw hG=>⟨by rw [m6 hn],hw⟩)
 refine d85 (fun x0=>pr (.ag 4 (M8 x0 0)) (.bb true)) (fun x0=>bG (fun x1=>qG x1 (p.lead)) true x0) ⟨b9,hS,j6⟩ (by kernel_rfl) (by kernel_rfl) (fun _ _ _ h=>d00 h) (fun β S w hS hM hs hw hG=>(kx ((do3 (x9 hS) (H3 (F:=qvF) (l:=[(a,p.x),(b,p.y),(c,p.z)]) 0 33 [a,b,c] hM (by kernel_rfl) (qv3 hG.1 hG.2.1 hG.2.2) (show 3 ≤ maxLen by decide)) hn).mono fun v' w' h=>⟨h.2,by rw [h.1]; rfl,by rw [h.1]; exact (dw1 hG.1 hG.2.1 hG.2.2).to h.2⟩))) ?_
 intro y
 exact o6 (.bool false) rfl (fun S w hs hw hG=>⟨by rw [l7 hn],hw⟩)
theorem ck6 {S : Nat → Prop} {w : World} {vp vq : Value} {p q : T3} {m n : Nat} (hS : Up S w) (hp : QTripV S w vp p) (hq : QTripV S w vq q) (hm : tl p m) (hn : tl q n) (hmn : m + n ≤ 1000000) :
  Gives prog 28 [vp,vq] w fun v' w'=>v' = .bool (tst (T3.Same p q)) ∧ Ext w w':=by
 refine n8 (E:=env) (S0:=S) (G:=((I7 vp (p)).and (I7 vq (q)))) (l:=[.one (.ag 12 vp),.one (.ag 12 vq)]) func28 rfl rfl rfl ⟨hp.ok,hq.ok,trivial⟩ rfl ⟨hp,hq⟩ ?_
 refine B0 (fun x0=>.one (.ag 12 x0)) (fun x0=>I7 x0 ((p.cross q))) (fun _ _ _ h=>⟨h.ok,rfl⟩) (fun β S w hS hs hw hG=>(kx (b61 hS hG.1 hG.2 hm hn hmn))) ?_
 intro c
 refine B6 (.one (.tp (p.cross q).None)) rfl (fun β S w hS hs hw hG=>(kx (ab9 hS hG.1))) ?_
 exact o6 (.bool (tst (p.cross q).None)) rfl (fun S w hs hw hG=>⟨rfl,hw⟩)
theorem N8 {q : Rat} (h : q ≠ 0) : q.num ≠ 0:=fun e=>h (Rat.num_eq_zero.1 e)
section
variable {c : Cx} {st : St} {G : Gh} {all : List Oper} {K : List HRec → Prop} {acc : List HRec} {ops : List Oper}
noncomputable def hpS (c : Cx) (st : St) (acc : List HRec) (ops : List Oper) (η : Nat → Value) : SV:=match br4 c.E st.hp (frH st acc η) (opH ops) with | some (s,_)=>s | none=>.und
theorem as1 (p : Value → SV) (Δ : Value → Gh) (hc : c.Ok) (hok : ∀ η,ar5 all st acc ops η = true) (hv : ∀ η,br4 c.E st.hp (frH st acc η) (opH ops) = some (hpS c st acc ops η,[]))
  (h : ∀ β η S w,Up S w → Mem c.bs st.hp β w → (∀ k,S k → c.S0 k) → Keeps c.K c.w0 w → G.p S w → depsH acc (opH ops).after.toList η S w → ∃ v,(hpS c st acc ops η).den β = v ∧ v = (p v).den (fun _=>0) ∧ (p v).Ok 0 ∧ (Δ v).p S w)
  (k : Hd c st G all K (.spec ((opH ops).dst.getD 0) p Δ :: acc) (ops.drop 1)) : Hd c st G all K acc ops:=by
 refine a54 p Δ hok (fun β η S w F m ty hkn hup hM hS hw hG hd=>?_) k
 obtain ⟨v,h1,h2,h3,h4⟩:=h β η S w hup hM hS hw hG hd
 have hkn2 : ab6 β (max m st.hp.length) (frH st acc η) (ev F) (opH ops).op:=fun x hx s hs=>by
  obtain ⟨e1,e2⟩:=hkn x hx s hs
  exact ⟨e1,e2.le (Nat.le_max_left _ _)⟩
 have he:=hv η
 generalize hpS c st acc ops η = s at he h1
 unfold br4 at he
 split at he <;> first | (cases he; done) | skip
 rename_i s' vc' hp
 simp only [Option.some.injEq,Prod.mk.injEq] at he
 obtain ⟨rfl,rfl⟩:=he
 have h5:=(bd4 (P:=c.P) (ty:=ty) (Nat.le_max_right m st.hp.length) hc.env hM hkn2 (Z2 hp).1 trivial).1
 exact ⟨v,h1 ▸ h5,h2,h3,h4⟩
end
def cel (v : Value) (o n : Nat) : Value:=.agg ((v.cells.toList.drop o).take n).toArray
theorem I9 {g : Bool} {n : Nat} {v : Value} {vs : List Value} (h : v.cells.toList = A3 vs) (hl : ∀ x ∈ vs,M2 true n x) {i : Nat} {x : Value} (hx : vs[i]? = some x) : cel v (i * n) n = x:=by
 unfold cel
 rw [h]
 unfold A3
 rw [am4 hl hx]
 have h2:=(hl x (List.mem_of_getElem? hx)).2
 simp only [cond_true] at h2
 rw [h2]
 simp [Value.cells]
abbrev O5 (v : Value) (t : T3) : Gh:=⟨fun S w=>v = (SV.agg [.ag 3 (cel v 0 3),.ag 3 (cel v 3 3),.ag 3 (cel v 6 3)]).den (fun _=>0) ∧ RatV S w (cel v 0 3) t.x ∧ RatV S w (cel v 3 3) t.y ∧ RatV S w (cel v 6 3) t.z,fun h k=>⟨h.1,h.2.1.keep k,h.2.2.1.keep k,h.2.2.2.keep k⟩,fun h k=>⟨h.1,h.2.1.mono k,h.2.2.1.mono k,h.2.2.2.mono k⟩⟩
abbrev E0 (v : Value) (t : T3) : Gh:=⟨fun S w=>v = (SV.agg [.ag 4 (cel v 0 4),.ag 4 (cel v 4 4),.ag 4 (cel v 8 4)]).den (fun _=>0) ∧ QV S w (cel v 0 4) t.x ∧ QV S w (cel v 4 4) t.y ∧ QV S w (cel v 8 4) t.z,fun h k=>⟨h.1,h.2.1.keep k,h.2.2.1.keep k,h.2.2.2.keep k⟩,fun h k=>⟨h.1,h.2.1.mono k,h.2.2.1.mono k,h.2.2.2.mono k⟩⟩
section
variable {S : Nat → Prop} {w : World} {v : Value} {t : T3}
theorem M0 (h : (O5 v t).p S w) : (SV.agg [.ag 3 (cel v 0 3),.ag 3 (cel v 3 3),.ag 3 (cel v 6 3)]).Ok 0 ∧ (SV.agg [.ag 3 (cel v 0 3),.ag 3 (cel v 3 3),.ag 3 (cel v 6 3)]).den (fun _=>0) = v:=
 ⟨H0 ⟨h.2.1.okc,h.2.2.1.okc,h.2.2.2.okc,trivial⟩,h.1.symm⟩
theorem a47 (h : (E0 v t).p S w) : (SV.agg [.ag 4 (cel v 0 4),.ag 4 (cel v 4 4),.ag 4 (cel v 8 4)]).Ok 0 ∧ (SV.agg [.ag 4 (cel v 0 4),.ag 4 (cel v 4 4),.ag 4 (cel v 8 4)]).den (fun _=>0) = v:=
 ⟨H0 ⟨h.2.1.okc,h.2.2.1.okc,h.2.2.2.okc,trivial⟩,h.1.symm⟩
theorem a89 (h : TripV S w v t) : (O5 v t).p S w:=by
 obtain ⟨a,b,c,hv,h1,h2,h3⟩:=h
 have hl : ∀ x ∈ [a,b,c],M2 true 3 x:=by
  intro x hx
  simp only [List.mem_cons,List.not_mem_nil,or_false] at hx
  rcases hx with rfl | rfl | rfl
  ·exact h1.lies
  ·exact h2.lies
  exact h3.lies
 have hc : v.cells.toList = A3 [a,b,c]:=by rw [hv]; exact aj4 h1.lies h2.lies h3.lies
 have e1 : cel v 0 3 = a:=I9 (g:=true) (i:=0) hc hl rfl
 have e2 : cel v 3 3 = b:=I9 (g:=true) (i:=1) hc hl rfl
 have e3 : cel v 6 3 = c:=I9 (g:=true) (i:=2) hc hl rfl
 show v = _ ∧ _
 rw [e1,e2,e3]
 exact ⟨hv,h1,h2,h3⟩
theorem c16 (h : QTripV S w v t) : (E0 v t).p S w:=by
 obtain ⟨a,b,c,hv,h1,h2,h3⟩:=h
 have hl : ∀ x ∈ [a,b,c],M2 true 4 x:=by
  intro x hx
  simp only [List.mem_cons,List.not_mem_nil,or_false] at hx
  rcases hx with rfl | rfl | rfl
  ·exact h1.lies
  ·exact h2.lies
  exact h3.lies
 have hc : v.cells.toList = A3 [a,b,c]:=by rw [hv]; exact ca1
 have e1 : cel v 0 4 = a:=I9 (g:=true) (i:=0) hc hl rfl
 have e2 : cel v 4 4 = b:=I9 (g:=true) (i:=1) hc hl rfl
 have e3 : cel v 8 4 = c:=I9 (g:=true) (i:=2) hc hl rfl
 show v = _ ∧ _
 rw [e1,e2,e3]
 exact ⟨hv,h1,h2,h3⟩
end
section
variable {c : Cx} {o : Out} {G : Gh}
end
theorem cw7 {g : Bool} {s : Nat} {vs : List Value} (h : ∀ x ∈ vs,M2 g s x) (n : Nat) : (A3 vs).take (n * s) = A3 (vs.take n):=by
 induction n generalizing vs with
 | zero=>simp [A3]
 | succ n ih=>
  cases vs with
  | nil=>simp [A3]
  | cons x r=>
   have h1:=(h x (List.mem_cons_self ..)).1
   have h2:=ih (vs:=r) fun y hy=>h y (List.mem_cons_of_mem _ hy)
   unfold A3 at h2 ⊢
   rw [List.flatMap_cons,List.take_succ_cons,List.flatMap_cons,Nat.add_mul,Nat.one_mul,Nat.add_comm,← h1,List.take_length_add_append,h1,h2]
def d99 (a : Nat → Int) : Value:=.agg #[.int .i64 (a 0),.int .i64 (a 1),.int .i64 (a 2),.int .i64 (a 3),.int .i64 (a 4),.int .i64 (a 5)]
theorem b94 {q : Rat} {k : Nat} (h : rl q k) : (R7 q).length ≤ 18 * k + 5:=by
 unfold R7
 have h1:=an8 q.num
 have h2:=J8 q.num.natAbs (show dl q.num.natAbs ≤ k from h.1)
 have h3:=J8 q.den (show dl q.den ≤ k from h.2)
 rw [List.length_append]
 split
 ·simp; omega
 rw [List.length_cons,Lib.decDigits_length]; omega
theorem c35 {S : Nat → Prop} {w : World} {s : List UInt8} {q : Rat} (hS : Up S w) (hl : s.length ≤ 14000) (h : s = R7 q) : Gives prog 98 [F4 s] w fun v w'=>Ext w w' ∧ (ac3 v q 0).p S w':=
 (c04 hS (by omega)).mono fun v w' ⟨k,hp⟩=>⟨k,by
  rcases hp with ⟨h1,_⟩ | ⟨_,h1,_⟩ | ⟨_,z',h1,r,e,rfl,ht⟩
  ·omega
  ·exact absurd h (h1 q)
  obtain rfl : q = z':=c80 (h.symm.trans h1)
  rcases ht with ⟨_,rfl,h3⟩ | ⟨h2,_⟩
  ·exact ⟨rfl,h3⟩
  exact absurd (c53 (q:=q) (h ▸ Nat.le_trans hl (by decide))) h2⟩
theorem ce8 {S : Nat → Prop} {w : World} {v : Value} {q : Rat} {n : Nat} (hS : Up S w) (h : QV S w v q) (hq : rl q n) (hn : n ≤ 700) :
  Gives prog 42 [v] w fun v' w'=>Ext w w' ∧ RatV S w' v' q:=by
 have hs:=b94 hq
 refine n8 (E:=env) (S0:=S) (G:=(qG v (q))) (l:=[.one (.ag 4 v)]) func42 rfl rfl rfl ⟨h.ok,trivial⟩ rfl h ?_
 refine B6 (.one (.str (R7 q))) rfl (fun β S w hS hs hw hG=>(kx (dj8 hS hG (j9 hq)))) ?_
 refine B0 (fun x0=>pr (.ag 3 (A8 x0)) (.lit .i64 0)) (fun x0=>ac3 x0 (q) 0) (fun _ _ _ h=>X5 h) (fun β S w hS hs hw hG=>(kx (c35 (s:=R7 q) hS (by omega) rfl))) ?_
 intro r
 exact o6 (A8 r) rfl (fun S w hs hw hG=>⟨hw,hG.1.2.mono fun k _ hk=>hs k hk⟩)
theorem L7 {S : Nat → Prop} {w : World} {vp : Value} {p : T3} {n : Nat} (hS : Up S w) (hp : QTripV S w vp p) (hq : tl p n) (hn : n ≤ 700) :
  Gives prog 7 [vp] w fun v' w'=>Ext w w' ∧ TripV S w' v' p:=by
 obtain ⟨a,b,c,rfl,ha,hb,hc⟩:=hp
 refine n8 (E:=env) (S0:=S) (G:=((qG a p.x).and ((qG b p.y).and (qG c p.z)))) (l:=[.agg [.ag 4 a,.ag 4 b,.ag 4 c]]) func7 rfl rfl rfl ⟨H0 ⟨ha.okc,hb.okc,hc.okc,trivial⟩,trivial⟩ rfl ⟨ha,hb,hc⟩ ?_
 refine j7 9 ?_
 refine b7 2 ?_
 refine o9 (fun x0=>.one (.ag 3 x0)) (fun x0=>l6 x0 (p.x)) (fun β η S w hS hs hw hG hd=>(kx (ce8 hS hG.1 hq.1 hn))) ?_
 refine b7 2 ?_
 refine o9 (fun x0=>.one (.ag 3 x0)) (fun x0=>l6 x0 (p.y)) (fun β η S w hS hs hw hG hd=>(kx (ce8 hS hG.2.1 hq.2.1 hn))) ?_
 refine b7 2 ?_
 refine o9 (fun x0=>.one (.ag 3 x0)) (fun x0=>l6 x0 (p.z)) (fun β η S w hS hs hw hG hd=>(kx (ce8 hS hG.2.2 hq.2.2 hn))) ?_
 refine j3 [true,true,true] (Gh.nil) (by exact fun _ _ h=>trivial) (fun g η=>(l6 (η 8) (p.z)).and ((l6 (η 5) (p.y)).and ((l6 (η 2) (p.x)).and g))) (fun g η=>(by kernel_rfl)) ?_
 intro η_1
 exact o6 (aw8 (η_1 2) (η_1 5) (η_1 8)) rfl (fun S w hs hw hG=>⟨hw,_,_,_,rfl,hG.2.2.1.mono fun k _ hk=>hs k hk,hG.2.1.mono fun k _ hk=>hs k hk,hG.1.mono fun k _ hk=>hs k hk⟩)
noncomputable def ad3 (z : Int) : Int:=IntKind.u64.wrap z % 9 - 4
theorem a98 (z : Int) : 0 ≤ IntKind.u64.wrap z:=by
 simp only [IntKind.wrap,IntKind.signed,IntKind.bits]
 exact Int.emod_nonneg _ (by decide)
theorem bz2 (z : Int) : -4 ≤ ad3 z ∧ ad3 z ≤ 4:=by unfold ad3; omega
theorem a55 {S : Nat → Prop} {w : World} {z : Int} (hS : Up S w) :
  Gives prog 29 [.int .i64 z,.int .i64 4] w fun v' w'=>v' = .int .i64 (ad3 z) ∧ Ext w w':=by
 have hz:=a98 z
 refine n8 (E:=env) (S0:=S) (G:=Gh.nil) (l:=[.one (.int .i64 z),.one (.lit .i64 4)]) func29 rfl rfl rfl ⟨trivial,trivial,trivial⟩ rfl trivial ?_
 refine am7 (ps:=[InR .i64 (IntKind.u64.wrap z % 9 - 4),InR .i64 (IntKind.u64.wrap z % 9),0 ≤ IntKind.u64.wrap z ∧ (0 : Int) < 9]) (by simp only [K7,InR,and_true]; omega) ?_
 exact o6 (.int .i64 (IntKind.u64.wrap z % 9 - 4)) rfl (fun S w hs hw hG=>⟨rfl,hw⟩)
noncomputable def au6 (a b c : Int) : Int:=if a = 0 ∧ b = 0 ∧ c = 0 then 1 else c
noncomputable def dq5 (a b c : Int) : T3:=⟨(a : Rat),(b : Rat),((au6 a b c : Int) : Rat)⟩
abbrev I63 (z : Int) : Prop:=-9223372036854775808 ≤ z ∧ z ≤ 9223372036854775807
theorem dm8 {a b c : Int} (h : I63 c) : I63 (au6 a b c):=by unfold au6; split <;> omega
theorem dj7 {S : Nat → Prop} {w : World} {a b c : Int} (hS : Up S w) (ha : I63 a) (hb : I63 b) (hc : I63 c) :
  Gives prog 79 [.int .i64 a,.int .i64 b,.int .i64 c] w fun v' w'=>Ext w w' ∧ QTripV S w' v' (dq5 a b c):=by
 have hc2:=dm8 (a:=a) (b:=b) hc
 refine n8 (E:=env) (S0:=S) (G:=Gh.nil) (l:=[.one (.int .i64 a),.one (.int .i64 b),.one (.int .i64 c)]) func79 rfl rfl rfl ⟨trivial,trivial,trivial,trivial⟩ rfl trivial ?_
 refine b91 (ι:=Int) 0 1 [(2,2),(7,16)] (fun d=>[(2,.one (.int .i64 d))]) (fun _=>[]) (fun d=>Gh.nil) (fun d=>d = au6 a b c) ⟨b9,hS,j6⟩ (by kernel_rfl) (by kernel_rfl) (fun hso=>?_) (fun d hd=>?_)
 ·refine S6 (p:=a = 0) 9 (fun h1=>?_) (fun h1=>?_)
  ·refine S6 (p:=b = 0) 13 (fun h2=>?_) (fun h2=>?_)
   ·refine Z8 (p:=c = 0) (fun h3=>?_) (fun h3=>?_)
    ·exact M7 (1) hso (by unfold au6; rw [if_pos ⟨h1,h2,h3⟩]) (fun S w hw hG=>⟨B5 rfl,fun p hp=>by cases hp⟩) (fun S w hw hG=>hG)
    exact M7 (c) hso (by unfold au6; rw [if_neg (fun h=>h3 h.2.2)]) (fun S w hw hG=>⟨B5 rfl,fun p hp=>by cases hp⟩) (fun S w hw hG=>hG)
   exact M7 (c) hso (by unfold au6; rw [if_neg (fun h=>h2 h.2.1)]) (fun S w hw hG=>⟨B5 rfl,fun p hp=>by cases hp⟩) (fun S w hw hG=>hG)
  exact M7 (c) hso (by unfold au6; rw [if_neg (fun h=>h1 h.1)]) (fun S w hw hG=>⟨B5 rfl,fun p hp=>by cases hp⟩) (fun S w hw hG=>hG)
 subst hd
 refine B0 (fun x0=>.one (.ag 4 x0)) (fun x0=>qG x0 (((a : Int) : Rat))) (fun _ _ _ h=>⟨h.ok,rfl⟩) (fun β S w hS hs hw hG=>(kx (H6 hS ha.1 ha.2))) ?_
 intro x
 refine B0 (fun x0=>.one (.ag 4 x0)) (fun x0=>qG x0 (((b : Int) : Rat))) (fun _ _ _ h=>⟨h.ok,rfl⟩) (fun β S w hS hs hw hG=>(kx (H6 hS hb.1 hb.2))) ?_
 intro y
 refine B0 (fun x0=>.one (.ag 4 x0)) (fun x0=>qG x0 (((au6 a b c : Int) : Rat))) (fun _ _ _ h=>⟨h.ok,rfl⟩) (fun β S w hS hs hw hG=>(kx (H6 hS hc2.1 hc2.2))) ?_
 intro z
 exact o6 (ap8 x y z) rfl (fun S w hs hw hG=>⟨hw,_,_,_,rfl,hG.2.2.1.mono fun k _ hk=>hs k hk,hG.2.1.mono fun k _ hk=>hs k hk,hG.1.mono fun k _ hk=>hs k hk⟩)
noncomputable def bn3 (a : Nat → Int) : T3:=dq5 (ad3 (a 0)) (ad3 (a 2)) (ad3 (a 4))
theorem dw7 {a : Nat → Int} {m : Nat} : (SV.agg [.int .i64 (a 0),.int .i64 (a 1),.int .i64 (a 2),.int .i64 (a 3),.int .i64 (a 4),.int .i64 (a 5)]).Ok m:=H0 ⟨trivial,trivial,trivial,trivial,trivial,trivial,trivial⟩
theorem a80 (z : Int) : I63 (ad3 z):=by have:=bz2 z; unfold I63; omega
theorem cp4 {S : Nat → Prop} {w : World} {a : Nat → Int} (hS : Up S w) :
  Gives prog 27 [d99 a] w fun v' w'=>Ext w w' ∧ QTripV S w' v' (bn3 a):=by
 refine n8 (E:=env) (S0:=S) (G:=Gh.nil) (l:=[.agg [.int .i64 (a 0),.int .i64 (a 1),.int .i64 (a 2),.int .i64 (a 3),.int .i64 (a 4),.int .i64 (a 5)]]) func27 rfl rfl rfl ⟨dw7,trivial⟩ rfl trivial ?_
 refine j7 10 ?_
 refine b7 2 ?_
 refine h_K (.one (.int .i64 (ad3 (a 0)))) (fun η=>(by kernel_rfl)) (J2 rfl) rfl (fun β η S w hS hs hw hG hd=>(kx (a55 hS))) ?_
 refine b7 2 ?_
 refine h_K (.one (.int .i64 (ad3 (a 2)))) (fun η=>(by kernel_rfl)) (J2 rfl) rfl (fun β η S w hS hs hw hG hd=>(kx (a55 hS))) ?_
 refine b7 2 ?_
 refine h_K (.one (.int .i64 (ad3 (a 4)))) (fun η=>(by kernel_rfl)) (J2 rfl) rfl (fun β η S w hS hs hw hG hd=>(kx (a55 hS))) ?_
 refine o9 (fun x0=>.one (.ag 12 x0)) (fun x0=>I7 x0 ((bn3 a))) (fun β η S w hS hs hw hG hd=>(kx (dj7 hS (a80 _) (a80 _) (a80 _)))) ?_
 refine j3 [true,true,true,true] (Gh.nil) (by exact fun _ _ h=>trivial) (fun g η=>(I7 (η 9) ((bn3 a))).and ((Gh.nil).and ((Gh.nil).and ((Gh.nil).and g)))) (fun g η=>(by kernel_rfl)) ?_
 intro η_1
 exact o6 ((η_1 9)) rfl (fun S w hs hw hG=>⟨hw,hG.1.mono fun k _ hk=>hs k hk⟩)
def W8 : List Value:=[.bool false,.slice none 0 0,.slice none 0 0,.bool false]
def RatioV (S : Nat → Prop) (w : World) (v : Value) (q : Rat) (p : Prop) : Prop:=∃ x,v = (SV.agg [.ag 3 x,.tp p]).den (fun _=>0) ∧ RatV S w x q
section
variable {S S' : Nat → Prop} {w w' : World} {v : Value} {q : Rat} {p : Prop}
theorem RatioV.keep (h : RatioV S w v q p) (k : Keeps S w w') : RatioV S w' v q p:=let ⟨x,h1,h2⟩:=h; ⟨x,h1,h2.keep k⟩
theorem RatioV.mono (h : RatioV S w v q p) (hs : ∀ k,k < w.heap.size → S k → S' k) : RatioV S' w v q p:=let ⟨x,h1,h2⟩:=h; ⟨x,h1,h2.mono hs⟩
theorem RatioV.ok (h : RatioV S w v q p) : (SV.one (.ag 4 v)).Ok 0:=by
 obtain ⟨x,rfl,h2⟩:=h
 exact bh3 (l:=[.ag 3 x,.tp p]) (H0 (m:=0) ⟨h2.ok,trivial,trivial⟩) rfl
end
theorem bg3 : ∀ v ∈ W8,v.oneCell' = true:=by
 intro v hv
 simp only [W8,List.mem_cons,List.not_mem_nil,or_false] at hv
 rcases hv with rfl | rfl | rfl | rfl <;> rfl
theorem bx8 {w : World} {g1 g2 : Nat} : GivesD prog 110 [.pointer (some ⟨g1,0,none⟩),.pointer (some ⟨g2,0,none⟩)] .returning w fun u' w'=>u' = .returning ∧ w' = w:=by
 refine E8 func110 rfl rfl rfl rfl rfl (.inl ⟨rfl,rfl,rfl⟩) ?_
 repeat (first | refine O9 rfl ?_ | refine wW ?_ | refine wp_skip ?_ | refine wp_cond_false rfl ?_)
 exact ⟨[],rfl,rfl,rfl⟩
theorem b06 {w : World} {g1 g2 : Nat} {cs1 : List Value} {e : Value} {E : Int} (h1 : Blk w g1 110 cs1) (hl : cs1.length = 4) (h2 : Blk w g2 44 [e]) :
  GivesD prog 110 [.pointer (some ⟨g1,0,none⟩),.pointer (some ⟨g2,0,none⟩)] (.panicking (I8 E)) w fun u' w'=>settle u' = .returning ∧
   Keeps (fun k=>k ≠ g1 ∧ k ≠ g2) w w' ∧ Blk w' g1 110 W8 ∧ Blk w' g2 44 [.int .i64 E]:=by
 have hne : g1 ≠ g2:=h1.ne h2 (by decide)
 refine E8 func110 rfl rfl rfl rfl rfl (.inr ⟨_,rfl,rfl,rfl⟩) ?_
 repeat (first | refine aa0 rfl ?_ | refine ap1 rfl ?_ | refine wW ?_ | refine B4 rfl rfl ?_ | refine wp_cond_true rfl ?_)
 refine q8 (cs:=[.int .i64 0]) rfl ?_
 intro w1 g3 k1 hg3 hgs3
 have hl1:=h1.lt
 have hl2:=h2.lt
 refine z8 (us:=[.int .i64 E]) rfl (by conv=>(lhs; whnf)) rfl rfl hg3 rfl (fun v hv=>by rw [List.mem_singleton.1 hv]; rfl) ?_
 intro w2 k2 hg32
 repeat (first | refine av0 rfl ?_ | refine wW ?_ | refine d7 ?_ | refine wp_skip ?_ | refine wp_cond_false rfl ?_)
 refine q8 (cs:=W8) rfl ?_
 intro w3 g5 k3 hg5 hgs5
 have k : Ext w w3:=(Keeps.past k1 k2 hgs3).trans k3
 have hg33:=hg32.to k3
 have hl3:=hg32.lt
 repeat refine wW ?_
 refine aj3 (R:=OneW g1 110 cs1 W8) 4 OneW.trans OneW.drew (by kernel_rfl) (by kernel_rfl) ?_
 apply D4
 ·intro x w1 k1 hd
  refine n7 rfl (hg5.wr k1.1 (by omega)) rfl ?_
  refine b8 ?_
  exact N5 OneW.refl
 apply D4
 ·intro x w1 k1 hd
  refine j5 rfl ?_
  refine b8 ?_
  exact N5 OneW.refl
 apply D4
 ·intro x w1 k1 hd
  refine f5 rfl (hg33.wr k1.1 (by omega)) rfl ?_
  refine b8 ?_
  exact N5 OneW.refl
 refine D4 (e:=EntR.of (fun v w=>Blk w g1 110 W8) (fun v w w' h k=>k.2.2 h)) ?_ ?_
 ·intro x w1 k1 hd
  rcases k1.2.1 (.inl (h1.to k)) with hgx | hgx
  ·refine z8 (us:=W8) rfl (by conv=>(lhs; whnf)) rfl rfl hgx hl bg3 ?_
   intro w12 k12 hg12
   exact b8 (R8 (OneW.wrote k12 hg12) hg12)
  refine z8 (us:=W8) rfl (by conv=>(lhs; whnf)) rfl rfl hgx rfl bg3 ?_
  intro w12 k12 hg12
  exact b8 (R8 (OneW.wrote k12 hg12) hg12)
 refine az5 (a29 ?_)
 intro x w12 k12 hall
 have h14 : Blk w12 g1 110 W8:=hall.1
 refine J4 (u:=.int .i64 E) rfl rfl ((h2.to k).wr k12.1 (fun e=>hne e.symm)) (show 0 < 1 by decide) rfl ?_
 intro w5 k5 h25
 repeat (first | refine b8 ?_)
 refine ⟨[],rfl,rfl,?_,h14.wr k5 hne,h25⟩
 exact ((Keeps.of k).trans (k12.1.mono fun i hi=>hi.1)).trans (k5.mono fun i hi=>hi.2)
theorem bj6 {S : Nat → Prop} {w : World} {F : FuncId} [ci : CallI prog F] {cap : List Value} {t : Rat} {p : Prop} {E : Int} {Y Z : Prop} (hS : Up S w)
  (h : ∀ S' w',Up S' w' → Ext w w' → (∀ k,S' k → S k) → (∀ k,k < w.heap.size → S k → S' k) → GivesE prog F cap w' (fun v w''=>Ext w' w'' ∧ RatioV S' w'' v t p ∧ Y) fun ch w''=>ch = I8 E ∧ Ext w' w'' ∧ Z) :
  Gives prog 55 [.func (.func F) #[] cap.toArray] w fun v' w'=>Ext w w' ∧ ((∃ x,v' = .tuple #[x,.int .i64 0] ∧ RatioV S w' x t p ∧ Y) ∨ (v' = .tuple #[.agg W8.toArray,.int .i64 E] ∧ Z)):=by
 refine P6 func55 rfl rfl rfl ?_
 refine az6 ?_
 repeat (first | refine Z0 ?_)
 refine q8 (cs:=W8) rfl ?_
 intro w1 g1 k1 hg1 hgs1
 skip
 refine q8 (cs:=[.int .i64 0]) rfl ?_
 intro w2 g2 k2 hg2 hgs2
 have hgl:=hg1.lt
 have hgl2:=hg2.lt
 replace hg1:=hg1.to k2
 have k:=k1.trans k2
 have hk1:=k1.size
 have hk2:=k2.size
 have hS2 : Up (fun k=>S k ∧ k ≠ g1 ∧ k ≠ g2) w2:=fun i hi=>⟨hS i (by omega),by omega,by omega⟩
 have hc:=h (fun k=>S k ∧ k ≠ g1 ∧ k ≠ g2) w2 hS2 k (fun _ h=>h.1) (fun i hi hs=>⟨hs,by omega,by omega⟩)
 repeat refine wW ?_
 refine S3 ?_
 refine ay8 ?_ (fun e a ρ w hm hq=>ap0 hm hq)
 repeat refine wW ?_
 refine aq0 (first:=[]) (cap:=cap) rfl hc rfl ?_ ?_
 ·rintro v3 w3 ⟨k3,hf,hy⟩
  obtain ⟨us,hv,hul,hu1⟩:=hf.ok
  skip
  refine z8 (us:=us) rfl (by conv=>(lhs; whnf)) (by rw [hv]; rfl) hul (hg1.to k3) rfl hu1 ?_
  intro w4 k4 hg4
  have hg24:=(hg2.to k3).wr k4 (by omega)
  refine J4 (u:=.int .i64 0) rfl rfl hg24 (show 0 < 1 by decide) rfl ?_
  intro w5 k5 hg5
  have hg45:=hg4.wr k5 (by omega)
  repeat refine wW ?_
  refine bx8.mono ?_
  rintro u' w' ⟨rfl,rfl⟩
  refine ⟨rfl,[.agg us.toArray,.int .i64 0],⟨_,_,n6 hg45 hul,⟨_,_,N1 (by conv=>(lhs; whnf)) hg5,rfl,rfl⟩,rfl⟩,?_⟩
  refine ⟨((Keeps.past (k.trans k3) k4 (by omega)).past k5 (by omega)),.inl ⟨_,rfl,?_,hy⟩⟩
  rw [← hv]
  exact ((hf.keep (k4.mono fun i hi=>hi.2.1)).keep (k5.mono fun i hi=>hi.2.2)).mono fun i _ hi=>hi.1
 rintro ch w3 ⟨rfl,k3,hf⟩
 refine L3 ?_
 refine (b06 (hg1.to k3) rfl (hg2.to k3)).mono ?_
 rintro u' w' ⟨hu,k4,h1,h2⟩
 refine ⟨hu,[.agg W8.toArray,.int .i64 E],⟨_,_,n6 h1 rfl,⟨_,_,N1 (by conv=>(lhs; whnf)) h2,rfl,rfl⟩,rfl⟩,?_⟩
 exact ⟨Keeps.later (k.trans k3) k4 (fun i hi _=>⟨by omega,by omega⟩),.inr ⟨rfl,hf⟩⟩
end Go.Proofs.YtmjbiocildkhnaaGreatDoor
end
